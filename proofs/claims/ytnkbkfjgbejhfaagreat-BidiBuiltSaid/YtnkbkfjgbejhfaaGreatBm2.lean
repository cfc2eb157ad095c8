/-
  THE ENGINE, part 2: an abstract machine of symbolic values, each step proved sound.
-/
import Derived.Test.YtnkbkfjgbejhfaaGreatBm1
import Derived.MapKept
import Derived.WideKeyRuns
import Derived.Carry
import Derived.Maps.RangeRun
set_option linter.unusedSimpArgs false
set_option linter.unusedSectionVars false
set_option linter.unusedVariables false
set_option maxHeartbeats 4000000
namespace Go.Proofs.YtnkbkfjgbejhfaaGreat.Am
variable [Inhabited DRT]
open Go.RowKit (Below)

/-! ### Rows that own rows -/
def updN {α : Type} (f : Nat → α) (i : Nat) (x : α) : Nat → α := fun j => if j = i then x else f j
/-- The inner row is taken out. -/
def sTake (tt : TT) (t : TypeId) (b i : Nat) (ty ety : TypeId) (sz n : Nat) (hole : Option Nat) (len : Nat → Nat) (row : Nat → Nat → List A) (m : List Blk) (K : KT) : Prop :=
 match tt.lookup t with
 | none => False
 | some ti => match ti.kind, Nat.beq ti.ety ety, Nat.beq ti.esz sz, hole with
  | 3, true, true, none => i < n ∧ setB m b (.nest ty ety sz n (some i) len row) fun m' => pushB m' (.row ety sz (len i) (row i)) fun k m'' => K (.own k) m''
  | _, _, _, _ => False
/-- It is put back. -/
def sPutB (b i b' : Nat) (ty ety : TypeId) (sz n : Nat) (hole : Option Nat) (len : Nat → Nat) (row : Nat → Nat → List A) (s : List A) (m : List Blk) (K : List A → A → List Blk → Prop) : Prop :=
 match hole, m.getD b' .dead, Nat.beq b b' with
 | some j, .row ety' sz' n' row', false => match Nat.beq ety' ety, Nat.beq sz' sz with
  | true, true => (i = j ∧ i < n) ∧ fd.fdl 4 (s.map (scr b' 4)) fun s' => fbs (((m.map (scrB b' 4)).set b (.nest ty ety sz n none (updN len j n') (updN row j row'))).set b' .dead) fun m' => K s' .junk m'
  | _, _ => False
 | _, _, _ => False
def stepN (P : Program) (G : GInv) (tt : TT) (o : Oper) (s : List A) (m : List Blk) (K : List A → A → List Blk → Prop) : Prop :=
 match o.op with
 | .indexAddr t x i => match ev s x with
  | .own b => match m.getD b .dead with
   | .nest _ _ _ n _ _ _ => match tt.lookup t, ev s i with
    | some ti, .int _ ix => match ti.kind, Nat.beq ti.esz 1 with
     | 3, true => (0 ≤ ix ∧ ix < (n : Int)) ∧ K s (.oref b ix.toNat 0) m
     | _, _ => False
    | _, _ => False
   | _ => stepS P G tt o s m K
  | _ => stepS P G tt o s m K
 | .load t x => match ev s x with
  | .oref b i off => match m.getD b .dead with
   | .nest ty ety sz n hole len row => match off with
    | 0 => sTake tt t b i ty ety sz n hole len row m (K s)
    | _ => False
   | _ => stepS P G tt o s m K
  | _ => stepS P G tt o s m K
 | .store t x y => match ev s x with
  | .oref b i off => match m.getD b .dead with
   | .nest ty ety sz n hole len row => match off, ev s y, tt.lookup t with
    | 0, .own b', some ti => match Nat.beq ti.size 1 with
     | true => sPutB b i b' ty ety sz n hole len row s m K
     | false => False
    | _, _, _ => False
   | _ => stepS P G tt o s m K
  | _ => stepS P G tt o s m K
 | _ => stepS P G tt o s m K

section
variable {c : Ctx} {s : List A} {m : List Blk} {a : Act} {w w' : World} {ids ids' : Ids} {P : Program} {im im' : Nat → Prop} {tt : TT} {G : GInv}
variable {next : Act → World → Prop} {Q : Exit → Act → World → Prop} {o : Oper}

theorem getD_some {b : Nat} {x : Blk} (hx : x ≠ .dead) (h : m.getD b .dead = x) : ∃ hb : b < m.length, m[b] = x := by
 rcases Nat.lt_or_ge b m.length with h' | h'
 ·exact ⟨h', by rw [List.getD_eq_getElem?_getD, List.getElem?_eq_getElem h'] at h; exact h⟩
 ·rw [List.getD_eq_getElem?_getD, List.getElem?_eq_none h'] at h; exact absurd h.symm hx
theorem nest_at (hs : Sim c s m a w ids) {b : Nat} {ty ety : TypeId} {sz n : Nat} {hole : Option Nat} {len : Nat → Nat} {row : Nat → Nat → List A} (hb : m.getD b .dead = .nest ty ety sz n hole len row) (h0 : 0 < n) :
  ∃ p, ids[b]? = some (.lv p) ∧ BRel ids (imOf c ids w) w (.nest ty ety sz n hole len row) (.lv p) ∧ b < m.length ∧ b < ids.length := by
 obtain ⟨h1, h2⟩ := getD_some (by simp) hb
 have h3 : b < ids.length := by rw [hs.mlen]; exact h1
 have hB := hs.blks b h1 h3
 rw [h2] at hB
 cases hp : ids[b] with
 | dead => rw [hp] at hB; exact hB.elim
 | stale => rw [hp] at hB; exact hB.elim
 | virt => rw [hp] at hB; have hB : n = 0 := hB; omega
 | gho vs => rw [hp] at hB; exact hB.elim
 | lv p => rw [hp] at hB; exact ⟨p, by rw [List.getElem?_eq_getElem h3, hp], hB, h1, h3⟩

/-- A nest from which an inner row is taken. -/
theorem Sim.take (hs : Sim c s m a w ids) {b i : Nat} {ty ety : TypeId} {sz n : Nat} {len : Nat → Nat} {row : Nat → Nat → List A} (hb : m.getD b .dead = .nest ty ety sz n none len row) (hi : i < n) :
  ∃ p vs ids' v, ids[b]? = some (.lv p) ∧ w.heap[p.blk]? = some (.cells vs ty (0, 0)) ∧ vs[i]? = some v ∧ p.sz = 1 ∧
   Sim c s (m.set b (.nest ty ety sz n (some i) len row) ++ [.row ety sz (len i) (row i)]) a w ids' ∧ Rel ids' (imOf c ids' w) w (.own m.length) v := by
 obtain ⟨p, hid, hB, hbm, hbi⟩ := nest_at hs hb (by omega)
 obtain ⟨g1, g2, g3, vs, h1, h2, h3, kb, h4⟩ := hB
 have hivs : i < vs.size := by omega
 obtain ⟨k1, k2, k3⟩ := h4 i hi (by simp) hivs
 -- the new names
 let p' : Id := ⟨p.blk, p.k, p.n, p.sz, fun x => p.kid x ∧ kb i ≠ some x, p.hist⟩
 have hsub : ∀ x, p'.has x → p.has x := by
  rintro x (h | h)
  ·exact .inl h
  ·exact .inr h.1
 have hq : ∃ q : IdE, (∀ q', q = .lv q' → ∀ x, q'.has x → kb i = some x) ∧ (∀ im w', (∀ x, kb i = some x → w'.heap[x]? = w.heap[x]?) → (∀ u v, RelI (imOf c ids w) w u v → RelI im w' u v) → ∀ ids', BRel ids' im w' (.row ety sz (len i) (row i)) q) ∧
   (∀ ids' im w' k, ids'[k]? = some q → Rel ids' im w' (.own k) vs[i]) := by
  rcases k1 with ⟨e1, e2, e3⟩ | ⟨q, cap, us, e1, e2, e3, e4, e5, e6, e7, e8⟩
  ·exact ⟨.virt, (fun q' h => by cases h), (fun _ _ _ _ _ => e2), (fun ids' im w' k h => by rw [e1]; exact .own0 k h)⟩
  ·refine ⟨.lv (mkId q us.size (len i) sz), (fun q' h x hx => by cases h; rw [mkId_has hx]; exact e2), ?_, ?_⟩
   ·intro im w' hk hm ids'
    refine ⟨rfl, rfl, us, by show w'.heap[q]? = _; rw [hk q e2]; exact e3, rfl, ?_, e7, fun i' j hi' h h' => ⟨hm _ _ (e8 i' j hi' h h').1, (e8 i' j hi' h h').2⟩⟩
    show len i * sz ≤ us.size
    rw [e4]; exact Nat.mul_le_mul_right _ e5
   ·intro ids' im w' k h
    rw [e1]
    exact .own k cap (mkId q us.size (len i) sz) h ⟨e5, e6⟩ e4.symm
 obtain ⟨q, hq1, hq2, hq3⟩ := hq
 let ids' := ids.set b (.lv p') ++ [q]
 have hl' : ids'.length = ids.length + 1 := by simp [ids']
 have get_old : ∀ k, k < ids.length → k ≠ b → ids'[k]? = ids[k]? := by
  intro k hk hne
  simp only [ids']
  rw [List.getElem?_append_left (by simpa using hk), List.getElem?_set_ne (fun e => hne e.symm)]
 have get_b : ids'[b]? = some (.lv p') := by
  simp only [ids']
  rw [List.getElem?_append_left (by simpa using hbi), List.getElem?_set_self hbi]
 have get_q : ids'[ids.length]? = some q := by
  simp only [ids']
  rw [List.getElem?_append_right (by simp)]; simp
 have cases_id : ∀ (k : Nat) (r : Id), ids'[k]? = some (.lv r) → (k = b ∧ r = p') ∨ (k = ids.length ∧ q = .lv r) ∨ (k ≠ b ∧ k < ids.length ∧ ids[k]? = some (.lv r)) := by
  intro k r h
  by_cases hkb : k = b
  ·subst hkb; rw [get_b] at h; cases h; exact .inl ⟨rfl, rfl⟩
  ·rcases Nat.lt_trichotomy k ids.length with hk | hk | hk
   ·rw [get_old k hk hkb] at h; exact .inr (.inr ⟨hkb, hk, h⟩)
   ·subst hk; rw [get_q] at h; exact .inr (.inl ⟨rfl, Option.some.inj h⟩)
   ·rw [List.getElem?_eq_none (by omega)] at h; cases h
 have hown : ∀ r, IdE.lv r ∈ ids' → ∀ x, r.has x → x < w.heap.size ∧ (w.heap.size ≤ x ∨ ∃ (b : Nat) (p : Id), ids[b]? = some (.lv p) ∧ p.has x) := by
  intro r hr x hx
  obtain ⟨k, hk⟩ := List.getElem?_of_mem hr
  rcases cases_id k r hk with ⟨_, rfl⟩ | ⟨_, e⟩ | ⟨_, _, e⟩
  ·exact ⟨(hs.freshX p (List.mem_of_getElem? hid) x (hsub x hx)).2, .inr ⟨b, p, hid, hsub x hx⟩⟩
  ·have hx' : p.has x := .inr (k2 x (hq1 r e x hx))
   exact ⟨(hs.freshX p (List.mem_of_getElem? hid) x hx').2, .inr ⟨b, p, hid, hx'⟩⟩
  ·exact ⟨(hs.freshX r (List.mem_of_getElem? e) x hx).2, .inr ⟨k, r, e, hx⟩⟩
 obtain ⟨hi1, hi2⟩ := hs.im_stays (w' := w) (ids' := ids') (Nat.le_refl _) (fun _ _ _ => rfl) hown
 have hd : ∀ (b' : Nat) r, ids[b']? = some r → r ≠ .dead → ∃ q, ids'[b']? = some q ∧ likeE r q := by
  intro b' r hr _
  have hlt : b' < ids.length := by
   rcases Nat.lt_or_ge b' ids.length with h' | h'
   ·exact h'
   ·rw [List.getElem?_eq_none h'] at hr; cases hr
  by_cases hbb : b' = b
  ·subst hbb; rw [hid] at hr; cases hr
   exact ⟨_, get_b, p', rfl, rfl, rfl, rfl, rfl, fun _ _ h => h⟩
  ·exact ⟨r, by rw [get_old b' hlt hbb]; exact hr, likeE_rfl r⟩
 have hmono : ∀ u v, RelI (imOf c ids w) w u v → RelI (imOf c ids' w) w u v := fun u v h => h.mono hi1 hi2
 refine ⟨p, vs, ids', vs[i], hid, h1, Array.getElem?_eq_getElem hivs, g1, ?_, hq3 _ _ _ _ (by rw [← hs.mlen]; exact get_q)⟩
 have hgq : ∀ vs, q ≠ .gho vs := fun vs e => by
  have := hq2 (imOf c ids w) w (fun _ _ => rfl) (fun _ _ h => h) []
  rw [e] at this; exact this
 refine hs.goOn rfl rfl rfl (Nat.le_refl _) (fun _ _ _ => rfl) hown (fun vs h => by
  simp only [ids'] at h
  rcases List.mem_append.1 h with h | h
  ·rcases List.mem_or_eq_of_mem_set h with h | h
   ·exact h
   ·cases h
  ·simp at h; exact absurd h.symm (hgq vs)) ?_ rfl (by simp [ids', hs.mlen]) (fun i h h' => (hs.slots i h h').reid hi1 hi2 hd) ?_
 ·intro k k' r r' x e1 e2 x1 x2
  have inb : ∀ y, q = .lv r → r.has y → p.kid y := fun y e hy => k2 y (hq1 r e y hy)
  rcases cases_id k r e1 with ⟨rfl, rfl⟩ | ⟨rfl, e⟩ | ⟨ne, _, e⟩ <;> rcases cases_id k' r' e2 with ⟨rfl, rfl⟩ | ⟨rfl, e'⟩ | ⟨ne', _, e'⟩
  ·rfl
  ·exfalso
   have hx := hq1 r' e' x x2
   rcases x1 with h | h
   ·exact g3 (by rw [← h]; exact k2 x hx)
   ·exact h.2 hx
  ·exact absurd (hs.distinctX _ _ p r' x hid e' (hsub x x1) x2).symm ne'
  ·exfalso
   have hx := hq1 r e x x1
   rcases x2 with h | h
   ·exact g3 (by rw [← h]; exact k2 x hx)
   ·exact h.2 hx
  ·rfl
  ·exact absurd (hs.distinctX _ _ p r' x hid e' (.inr (k2 x (hq1 r e x x1))) x2).symm ne'
  ·exact absurd (hs.distinctX _ _ r p x e hid x1 (hsub x x2)) ne
  ·exact absurd (hs.distinctX _ _ r p x e hid x1 (.inr (k2 x (hq1 r' e' x x2)))) ne
  ·exact hs.distinctX k k' r r' x e e' x1 x2
 ·intro k hk hk'
  simp only [List.length_append, List.length_set, List.length_singleton] at hk
  have hat : ids'[k]? = some ids'[k] := List.getElem?_eq_getElem hk'
  rcases Nat.lt_or_ge k m.length with hkm | hkm
  ·rw [List.getElem_append_left (by simpa using hkm), List.getElem_set]
   split
   ·rename_i he; subst he
    rw [get_b] at hat
    rw [← Option.some.inj hat]
    refine ⟨g1, g2, (fun h => g3 h.1), vs, h1, h2, h3, kb, ?_⟩
    intro j hj hhole hjv
    obtain ⟨j1, j2, j3⟩ := h4 j hj (by simp) hjv
    have hji : j ≠ i := fun e => hhole (by rw [e])
    refine ⟨j1.mono hi1 hi2 (fun _ _ => rfl), fun x hx => ⟨j2 x hx, fun e => ?_⟩, fun j' hj' _ e1 e2 => j3 j' hj' (by simp) e1 e2⟩
    exact hji (k3 j hj (by simp) (by rw [hx, e]) (by rw [e]; simp))
   ·rename_i he
    have hki : k < ids.length := by rw [hs.mlen]; exact hkm
    rw [get_old k hki (fun e => he e.symm), List.getElem?_eq_getElem hki] at hat
    rw [← Option.some.inj hat]
    exact (hs.blks k hkm hki).reid hi1 hi2 hd (fun _ _ _ _ => rfl)
  ·have hq' : ids'[k]? = some q := by rw [show k = ids.length by rw [hs.mlen]; omega]; exact get_q
   rw [hq'] at hat
   rw [← Option.some.inj hat, List.getElem_append_right (by simpa using hkm)]
   simp only [List.length_set, show k - m.length = 0 by omega, List.getElem_cons_zero]
   exact hq2 _ _ (fun _ _ => rfl) hmono _

/-- An inner row is put back. -/
theorem Sim.putBack (hs : Sim c s m a w ids) {b b' i : Nat} {ty ety : TypeId} {sz n n' : Nat} {len : Nat → Nat} {row : Nat → Nat → List A} {row' : Nat → List A} (hb : m.getD b .dead = .nest ty ety sz n (some i) len row)
  (hb' : m.getD b' .dead = .row ety sz n' row') (hne : b ≠ b') (hi : i < n) {v : Value} (hv : Rel ids (imOf c ids w) w (.own b') v) :
  ∃ p vs ids', ids[b]? = some (.lv p) ∧ w.heap[p.blk]? = some (.cells vs ty (0, 0)) ∧ i < vs.size ∧ p.sz = 1 ∧
   Sim c (s.map (scr b' 4)) (((m.map (scrB b' 4)).set b (.nest ty ety sz n none (updN len i n') (updN row i row'))).set b' .dead) a (w.setRow p.blk (vs.setIfInBounds i v)) ids' := by
 obtain ⟨p, hid, hB, hbm, hbi⟩ := nest_at hs hb (by omega)
 obtain ⟨g1, g2, g3, vs, h1, h2, h3, kb, h4⟩ := hB
 have hivs : i < vs.size := by omega
 obtain ⟨hbm', hm'⟩ := getD_some (by simp) hb'
 have hbi' : b' < ids.length := by rw [hs.mlen]; exact hbm'
 let w' := w.setRow p.blk (vs.setIfInBounds i v)
 have hsz : w'.heap.size = w.heap.size := by simp [w', World.setRow]
 -- the inner block's name
 have hx : ∃ x : Option Nat, (∀ y, x = some y → ∃ q, ids[b']? = some (.lv q) ∧ q.blk = y) ∧
   (∀ im w', (∀ y, x = some y → w'.heap[y]? = w.heap[y]?) → (∀ u v, RelI (imOf c ids w) w u v → RelI im w' u v) → Inner im w' ety sz n' row' v x) := by
  rcases own_len hs hv hb' with ⟨e1, e2, e3⟩ | ⟨q, cap, e1, e2, e3, e4, e5, e6⟩
  ·exact ⟨none, (fun y h => by cases h), fun _ _ _ _ => .inl ⟨e2, e1, rfl⟩⟩
  ·have hB' := hs.blks b' hbm' hbi'
   rw [List.getElem?_eq_getElem hbi'] at e1
   rw [hm', Option.some.inj e1] at hB'
   obtain ⟨q1, q2, us, q3, q4, q5, q6, q7⟩ := hB'
   refine ⟨some q.blk, (fun y h => by cases h; exact ⟨q, by rw [List.getElem?_eq_getElem hbi']; exact e1, rfl⟩), fun im w' hk hm => .inr ⟨q.blk, cap, us, e6, rfl, by rw [hk _ rfl]; exact q3, by rw [q4, e3], e2.1, e2.2, q6, fun i' j hi' h h' => ⟨hm _ _ (q7 i' j hi' h h').1, (q7 i' j hi' h h').2⟩⟩⟩
 obtain ⟨x, hx1, hx2⟩ := hx
 let p' : Id := ⟨p.blk, p.k, p.n, p.sz, fun y => p.kid y ∨ x = some y, p.hist⟩
 have hsub : ∀ y, p'.has y → p.has y ∨ x = some y := by
  rintro y (h | h | h)
  ·exact .inl (.inl h)
  ·exact .inl (.inr h)
  ·exact .inr h
 let ids' := (ids.set b (.lv p')).set b' .dead
 have hl' : ids'.length = ids.length := by simp [ids']
 have get_old : ∀ k, k ≠ b → k ≠ b' → ids'[k]? = ids[k]? := by
  intro k h1 h2
  simp only [ids']
  rw [List.getElem?_set_ne (fun e => h2 e.symm), List.getElem?_set_ne (fun e => h1 e.symm)]
 have get_b : ids'[b]? = some (.lv p') := by
  simp only [ids']
  rw [List.getElem?_set_ne (fun e => hne e.symm), List.getElem?_set_self hbi]
 have get_b' : ids'[b']? = some .dead := by
  simp only [ids']
  rw [List.getElem?_set_self (by simpa using hbi')]
 have cases_id : ∀ (k : Nat) (r : Id), ids'[k]? = some (.lv r) → (k = b ∧ r = p') ∨ (k ≠ b ∧ k ≠ b' ∧ ids[k]? = some (.lv r)) := by
  intro k r h
  by_cases hkb : k = b
  ·subst hkb; rw [get_b] at h; cases h; exact .inl ⟨rfl, rfl⟩
  ·by_cases hkb' : k = b'
   ·subst hkb'; rw [get_b'] at h; cases h
   ·rw [get_old k hkb hkb'] at h; exact .inr ⟨hkb, hkb', h⟩
 have hown : ∀ r, IdE.lv r ∈ ids' → ∀ y, r.has y → y < w'.heap.size ∧ (w.heap.size ≤ y ∨ ∃ (b : Nat) (p : Id), ids[b]? = some (.lv p) ∧ p.has y) := by
  intro r hr y hy
  rw [hsz]
  obtain ⟨k, hk⟩ := List.getElem?_of_mem hr
  rcases cases_id k r hk with ⟨_, rfl⟩ | ⟨_, _, e⟩
  ·rcases hsub y hy with h | h
   ·exact ⟨(hs.freshX p (List.mem_of_getElem? hid) y h).2, .inr ⟨b, p, hid, h⟩⟩
   ·obtain ⟨q, q1, q2⟩ := hx1 y h
    have : q.has y := .inl q2.symm
    exact ⟨(hs.freshX q (List.mem_of_getElem? q1) y this).2, .inr ⟨b', q, q1, this⟩⟩
  ·exact ⟨(hs.freshX r (List.mem_of_getElem? e) y hy).2, .inr ⟨k, r, e, hy⟩⟩
 have hbl : ∀ k, k < w.heap.size → (∀ (b : Nat) (p : Id), ids[b]? = some (.lv p) → ¬ p.has k) → w'.heap[k]? = w.heap[k]? := by
  intro k _ hk
  exact setRow_other w p.blk k _ (fun e => hk b p hid (.inl e))
 obtain ⟨hi1, hi2⟩ := hs.im_stays (w' := w') (ids' := ids') (by rw [hsz]; exact Nat.le_refl _) hbl hown
 have hd : ∀ (k : Nat) r, k ≠ b' → ids[k]? = some r → r ≠ .dead → ∃ q, ids'[k]? = some q ∧ likeE r q := by
  intro k r hk hr _
  by_cases hbb : k = b
  ·subst hbb; rw [hid] at hr; cases hr
   exact ⟨_, get_b, p', rfl, rfl, rfl, rfl, rfl, fun _ _ h => h⟩
  ·exact ⟨r, by rw [get_old k hbb hk]; exact hr, likeE_rfl r⟩
 have hmono : ∀ u v, RelI (imOf c ids w) w u v → RelI (imOf c ids' w') w' u v := fun u v h => h.mono hi1 hi2
 have hpb : ∀ (k : Nat) (r : Id) y, ids[k]? = some (.lv r) → k ≠ b → r.has y → w'.heap[y]? = w.heap[y]? := by
  intro k r y hr hk hy
  refine setRow_other w p.blk y _ (fun e => hk ?_)
  exact hs.distinctX k b r p y hr hid hy (.inl e)
 refine ⟨p, vs, ids', hid, h1, hivs, g1, ?_⟩
 refine hs.goOn rfl rfl rfl (by show w.heap.size ≤ w'.heap.size; rw [hsz]; exact Nat.le_refl _) hbl hown (fun vs h => by
  simp only [ids'] at h
  rcases List.mem_or_eq_of_mem_set h with h | h
  ·rcases List.mem_or_eq_of_mem_set h with h | h
   ·exact h
   ·cases h
  ·cases h) ?_ (by simp) (by simp [ids', hs.mlen]) ?_ ?_
 ·intro k k' r r' y e1 e2 x1 x2
  rcases cases_id k r e1 with ⟨rfl, rfl⟩ | ⟨ne, ne2, e⟩ <;> rcases cases_id k' r' e2 with ⟨rfl, rfl⟩ | ⟨ne', ne2', e'⟩
  ·rfl
  ·rcases hsub y x1 with h | h
   ·exact absurd (hs.distinctX _ _ p r' y hid e' h x2).symm ne'
   ·obtain ⟨q, q1, q2⟩ := hx1 y h
    exact absurd (hs.distinctX _ _ q r' y q1 e' (.inl q2.symm) x2).symm ne2'
  ·rcases hsub y x2 with h | h
   ·exact absurd (hs.distinctX _ _ r p y e hid x1 h) ne
   ·obtain ⟨q, q1, q2⟩ := hx1 y h
    exact absurd (hs.distinctX _ _ r q y e q1 x1 (.inl q2.symm)) ne2
  ·exact hs.distinctX k k' r r' y e e' x1 x2
 ·intro k h h'
  rw [List.getElem_map]
  exact scr_reid hi1 hi2 hd 4 _ _ (hs.slots k (by simpa using h) h')
 ·intro k hk hk'
  have hat : ids'[k]? = some ids'[k] := List.getElem?_eq_getElem hk'
  simp only [List.length_set, List.length_map] at hk
  rw [List.getElem_set]
  split
  ·rename_i he; subst he
   rw [get_b'] at hat
   rw [← Option.some.inj hat]; exact rfl
  ·rename_i he
   rw [List.getElem_set]
   split
   ·rename_i he2; subst he2
    rw [get_b] at hat
    rw [← Option.some.inj hat]
    have hv2 : ∀ j (h : j < (vs.setIfInBounds i v).size) (h' : j < vs.size), (vs.setIfInBounds i v)[j] = if i = j then v else vs[j] := by
     intro j h h'; rw [Array.getElem_setIfInBounds]
    have hkey : ∀ y, x = some y → w'.heap[y]? = w.heap[y]? := by
     intro y hy
     obtain ⟨q, q1, q2⟩ := hx1 y hy
     exact hpb b' q y q1 (fun e => hne e.symm) (.inl q2.symm)
    have hpk : ∀ y, p.kid y → w'.heap[y]? = w.heap[y]? := by
     intro y hy
     exact setRow_other w p.blk y _ (fun e => g3 (by rw [← e]; exact hy))
    refine ⟨g1, g2, ?_, vs.setIfInBounds i v, setRow_heap w p.blk vs _ ty _ h1, by simp [h2]; rfl, h3, updN kb i x, ?_⟩
    ·rintro (h | h)
     ·exact g3 h
     ·obtain ⟨q, q1, q2⟩ := hx1 _ h
      exact hne (hs.distinctX b b' p q p.blk hid q1 (.inl rfl) (.inl q2.symm))
    ·intro j hj _ hjv
     have hjv' : j < vs.size := by simpa using hjv
     rw [hv2 j hjv hjv']
     by_cases hji : j = i
     ·subst hji
      rw [if_pos rfl]
      simp only [updN, if_pos]
      refine ⟨hx2 _ _ hkey hmono, (fun y hy => .inr hy), ?_⟩
      intro j' hj' _ e1 e2
      by_cases hjj : j' = j
      ·exact hjj
      ·exfalso
       rw [if_neg hjj] at e1
       cases hxx : x with
       | none => exact e2 hxx
       | some y =>
        have hj'v : j' < vs.size := by omega
        obtain ⟨_, k2, _⟩ := h4 j' hj' (by simp; exact fun e => hjj e.symm) hj'v
        obtain ⟨q, q1, q2⟩ := hx1 y hxx
        exact hne (hs.distinctX b b' p q y hid q1 (.inr (k2 y (by rw [e1, hxx]))) (.inl q2.symm))
     ·rw [if_neg (fun e => hji e.symm)]
      simp only [updN, if_neg hji]
      obtain ⟨k1, k2, k3⟩ := h4 j hj (by simp; exact fun e => hji e.symm) hjv'
      refine ⟨k1.mono hi1 hi2 (fun y hy => hpk y (k2 y hy)), (fun y hy => .inl (k2 y hy)), ?_⟩
      intro j' hj' _ e1 e2
      by_cases hjj : j' = i
      ·exfalso
       subst hjj
       rw [if_pos rfl] at e1
       cases hxx : x with
       | none => rw [hxx] at e1; exact e2 e1.symm
       | some y =>
        obtain ⟨q, q1, q2⟩ := hx1 y hxx
        exact hne (hs.distinctX b b' p q y hid q1 (.inr (k2 y (by rw [← e1, hxx]))) (.inl q2.symm))
      ·rw [if_neg hjj] at e1
       exact k3 j' hj' (by simp; exact fun e => hjj e.symm) e1 e2
   ·rename_i he2
    have hkm : k < m.length := hk
    have hki : k < ids.length := by rw [hs.mlen]; exact hkm
    rw [get_old k (fun e => he2 e.symm) (fun e => he e.symm), List.getElem?_eq_getElem hki] at hat
    rw [← Option.some.inj hat, List.getElem_map]
    refine (hs.blks k hkm hki).rescr hi1 hi2 hd 4 ?_
    intro q hq y hy
    exact hpb k q y (by rw [List.getElem?_eq_getElem hki, hq]) (fun e => he2 e.symm) hy
end
end Go.Proofs.YtnkbkfjgbejhfaaGreat.Am
namespace Go.Proofs.YtnkbkfjgbejhfaaGreat.Am
variable [Inhabited DRT]
open Go.RowKit (Below)
section
variable {c : Ctx} {s : List A} {m : List Blk} {a : Act} {w w' : World} {ids ids' : Ids} {P : Program} {im im' : Nat → Prop} {tt : TT} {G : GInv}
variable {next : Act → World → Prop} {Q : Exit → Act → World → Prop} {o : Oper}

theorem set_take (vs : Array Value) (i : Nat) (v : Value) (h : i < vs.size) : (vs.toList.take i ++ [v] ++ vs.toList.drop (i + [v].length)).toArray = vs.setIfInBounds i v := by
 apply Array.ext'
 simp only [List.length_singleton, Array.toList_setIfInBounds]
 rw [List.set_eq_take_append_cons_drop, if_pos (by simpa using h)]
 simp

theorem stepN_sound (htt : TTok P tt) (hG : G.ok c) (hs : Sim c s m a w ids) {K : List A → A → List Blk → Prop} (h : stepN P G tt o s m K)
  (hn : ∀ s1 v m' a' w' ids', K s1 v m' → Sim c (putD s1 o.dst v) m' a' w' ids' → next a' w') : o.wp P a w next Q := by
 unfold stepN at h
 split at h
 ·rename_i t X Y ho
  split at h
  ·rename_i b hX
   split at h
   ·rename_i ty ety sz n hole len row hb
    split at h
    ·rename_i ti kk ix hti hY
     split at h
     ·rename_i hk he
      obtain ⟨h01, h⟩ := h
      obtain ⟨i, d, z, hi, hd, _, _, _, _, _, _, _, _, hk2, hk3, _⟩ := htt.facts hti
      obtain ⟨ie, ze, hde, hie, hesz, _⟩ := hk3 hk
      subst hde
      have hx := hs.ev X
      have hy := hs.ev Y
      rw [hX] at hx
      rw [hY] at hy
      obtain ⟨p, hid, hB, _, _⟩ := nest_at hs hb (by omega)
      obtain ⟨g1, g2, g3, vs, h1, h2, h3, kb, h4⟩ := hB
      have e : execOp a.eval o = (do let z ← Instr.indexAt t (a.eval X) (a.eval Y); pure (.value z)) := by unfold execOp; rw [ho]
      have hesz1 : ti.esz = 1 := Nat.eq_of_beq_eq_true he
      rcases hs.own_at hx (by rw [hb]; simp) with ⟨q1, _⟩ | ⟨p', cap, q1, q2, q3, q4⟩
      ·rw [hid] at q1; cases q1
      ·rw [hid] at q1; cases q1
       refine wp_of_run (v := .pointer (some ⟨p.blk, 0 + ix.toNat * 1, none⟩)) (w' := w) ?_ (hn s _ m _ _ ids h (hs.putD o.dst ?_))
       ·rw [e, q4, hy.int_inv, g2]
        simp [Instr.indexAt, asIntOf, underlying, hd, h01.1, h01.2, sizeOf, typeInfo, hie, hesz, hesz1, addr_add]
       ·have := Rel.oref (ids := ids) (im := imOf c ids w) (w := w) b ix.toNat 0 p hid
        rw [g1] at this; simpa using this
     ·exact h.elim
    ·exact h.elim
   ·exact stepS_sound htt hG hs h hn
  ·exact stepS_sound htt hG hs h hn
 ·rename_i t X ho
  split at h
  ·rename_i b i off hX
   split at h
   ·rename_i ty ety sz n hole len row hb
    split at h
    ·unfold sTake at h
     split at h
     ·exact h.elim
     ·rename_i ti hti
      split at h
      ·rename_i hk he1 he2
       obtain ⟨hin, h⟩ := h
       rw [setB_eq, pushB_eq] at h
       obtain ⟨i0, d, z, hi, hd, _, _, _, _, _, hag, _, _, hk2, hk3, _⟩ := htt.facts hti
       obtain ⟨ie, ze, hde, hie, hesz, _⟩ := hk3 hk
       subst hde
       obtain ⟨p, vs, ids', v, q1, q2, q3, q4, q5, q6⟩ := hs.take hb hin
       have hx := hs.ev X
       rw [hX] at hx
       obtain ⟨p', r1, r2⟩ := hs.oref_at hx (by rw [hb]; simp)
       rw [q1] at r1; cases r1
       have hc : w.cell? ⟨p.blk, i * p.sz + 0, none⟩ = some v := by
        rw [q4, cell_of_row w p.blk _ vs ty (0, 0) q2]; simpa using q3
       have hrun := run_loadVar_one (P := P) (w := w) hd (by rfl) p.blk (i * p.sz + 0) v hc
       refine wp_of_run (v := v) (w' := w) ?_ (hn s _ _ _ _ ids' h (q5.putD o.dst ?_))
       ·have e1 : execOp a.eval o = (do let z ← loadVar t ⟨p.blk, i * p.sz + 0, none⟩; pure (.value z)) := by
         unfold execOp; rw [ho]; simp only [r2]; rfl
        rw [e1]; simp at hrun; simp [hrun]
       ·simpa using q6
      ·exact h.elim
    ·exact h.elim
   ·exact stepS_sound htt hG hs h hn
  ·exact stepS_sound htt hG hs h hn
 ·rename_i t X Y ho
  split at h
  ·rename_i b i off hX
   split at h
   ·rename_i ty ety sz n hole len row hb
    split at h
    ·rename_i b' ti hY hti
     split at h
     ·rename_i hsz1
      have hsz1 : ti.size = 1 := Nat.eq_of_beq_eq_true hsz1
      unfold sPutB at h
      split at h
      ·rename_i j ety' sz' n' row' hb' hbb
       split at h
       ·rename_i he1 he2
        have he1 := Nat.eq_of_beq_eq_true he1
        have he2 := Nat.eq_of_beq_eq_true he2
        subst he1; subst he2
        obtain ⟨⟨hij, hin⟩, h⟩ := h
        subst hij
        rw [fdl_eq, fbs_eq] at h
        have hne : b ≠ b' := fun e => by subst e; rw [Nat.beq_refl] at hbb; cases hbb
        have hx := hs.ev X
        have hy := hs.ev Y
        rw [hX] at hx; rw [hY] at hy
        obtain ⟨i0, d, z, hi, hd, _, hsz0, _⟩ := htt.facts hti
        obtain ⟨p, vs, ids', q1, q2, q3, q4, q5⟩ := hs.putBack hb hb' hne hin hy
        obtain ⟨p', r1, r2⟩ := hs.oref_at hx (by rw [hb]; simp)
        rw [q1] at r1; cases r1
        obtain ⟨o1, o2⟩ := one_rel (by rfl) hy
        have hst := run_storeVar (P := P) (w := w) hi p.blk (i * p.sz + 0) ty vs (a.eval Y) [a.eval Y] o2 (by rw [hsz0, hsz1]; rfl) (by intro u hu; rw [List.mem_singleton.1 hu]; exact o1) q2 (by rw [q4]; simp; omega)
        rw [q4] at hst
        simp only [Nat.mul_one, Nat.add_zero] at hst
        rw [set_take vs i _ q3] at hst
        refine wp_of_skip (w' := w.setRow p.blk (vs.setIfInBounds i (a.eval Y))) ?_ (hn _ _ _ _ _ ids' h (q5.junk_put o.dst _))
        have e1 : execOp a.eval o = (do storeVar t ⟨p.blk, i * p.sz + 0, none⟩ (a.eval Y); pure .skip) := by
         unfold execOp; rw [ho]; simp only [r2]; rfl
        rw [e1, q4]; simp [hst]
       ·exact h.elim
      ·exact h.elim
     ·exact h.elim
    ·exact h.elim
   ·exact stepS_sound htt hG hs h hn
  ·exact stepS_sound htt hG hs h hn
 ·exact stepS_sound htt hG hs h hn
end
end Go.Proofs.YtnkbkfjgbejhfaaGreat.Am
namespace Go.Proofs.YtnkbkfjgbejhfaaGreat.Am
variable [Inhabited DRT]
open Go.RowKit (Below)

/-! ### Names of blocks that are renamed -/
structure Ren where
 r : Nat → Option Nat
 o : Nat → Option Nat
 m : Nat → Option Nat
def renA (τ : Ren) : Nat → A → A
 | 0, _ => .junk
 | d + 1, x => match x with
  | .ref b o => match τ.r b with
   | some b' => .ref b' o
   | none => .junk
  | .oref b i o => match τ.o b with
   | some b' => .oref b' i o
   | none => .junk
  | .own b => match τ.o b with
   | some b' => .own b'
   | none => .junk
  | .omap b => match τ.m b with
   | some b' => .omap b'
   | none => .junk
  | .ent _ _ => .junk
  | .osl _ _ => .junk
  | .agg cs => .agg (cs.map (renA τ d))
  | .tup cs => .tup (cs.map (renA τ d))
  | .fn f cs => .fn f (cs.map (renA τ d))
  | x => x
def renB (τ : Ren) (d : Nat) : Blk → Blk
 | .box ty cs => .box ty (cs.map (renA τ d))
 | .ghost cs => .ghost (cs.map (renA τ d))
 | .mgrid ty g sh n hi cs ini has val => .mgrid ty g sh n hi (cs.map (renA τ d)) ini has val
 | x => x
/-- What a renaming must keep. -/
structure RenOk (τ : Ren) (ids ids' : Ids) : Prop where
 r : ∀ b b' p, τ.r b = some b' → ids[b]? = some (.lv p) → ∃ p', ids'[b']? = some (.lv p') ∧ p'.blk = p.blk
 o : ∀ b b' p, τ.o b = some b' → ids[b]? = some p → p ≠ .dead → ∃ q, ids'[b']? = some q ∧ likeE0 p q
 m : ∀ b b' p, τ.m b = some b' → ids[b]? = some (.lv p) → ∃ p', ids'[b']? = some (.lv p') ∧ p'.blk = p.blk
 rs : ∀ b b', τ.r b = some b' → ids[b]? = some .stale → ids'[b']? = some .stale
 ms : ∀ b b', τ.m b = some b' → ids[b]? = some .stale → ids'[b']? = some .stale

section
variable {c : Ctx} {s : List A} {m : List Blk} {a : Act} {w w' : World} {ids ids' : Ids} {P : Program} {im im' : Nat → Prop} {tt : TT} {G : GInv}

theorem renA_rel {τ : Ren} (hi : ∀ b, im b → im' b) (hw : ∀ b, im b → w'.heap[b]? = w.heap[b]?) (ht : RenOk τ ids ids') :
  ∀ (d : Nat) (x : A) (v : Value), Rel ids im w x v → Rel ids' im' w' (renA τ d x) v
 | 0, x, v, _ => .imm (.junk _)
 | d + 1, x, v, h => by
  have keep : ∀ y, RelI im w y v → Rel ids' im' w' y v := fun y hy => .imm (hy.mono hi hw)
  cases x with
  | ref b o =>
   simp only [renA]
   split
   ·rename_i b' hb
    rcases h.ref_inv with ⟨p, h1, rfl⟩ | ⟨h1, x, y, rfl⟩
    rotate_left
    ·exact .refS _ _ x y (ht.rs _ _ hb h1)
    obtain ⟨p', h2, h3⟩ := ht.r _ _ _ hb h1
    rw [← h3]; exact .ref _ _ p' h2
   ·exact .imm (.junk _)
  | oref b i o =>
   simp only [renA]
   split
   ·rename_i b' hb
    rcases h.oref_inv with ⟨p, h1, rfl⟩ | ⟨h1, x, y, rfl⟩
    rotate_left
    ·obtain ⟨q, h4, h5⟩ := ht.o _ _ _ hb h1 (by simp)
     have h5 : q = .stale := h5
     subst h5
     exact .orefS _ _ _ x y h4
    obtain ⟨q, h2, p', rfl, h3⟩ := ht.o _ _ _ hb h1 (by simp)
    rw [← h3.1, ← h3.2.2.2]; exact .oref _ _ _ p' h2
   ·exact .imm (.junk _)
  | own b =>
   simp only [renA]
   split
   ·rename_i b' hb
    rcases h.own_inv with ⟨h1, rfl⟩ | ⟨p, cap, h1, h2, h3, rfl⟩ | ⟨h1, x, n, cap, rfl⟩
    ·obtain ⟨q, h4, h5⟩ := ht.o _ _ _ hb h1 (by simp)
     have h5 : q = .virt := h5
     subst h5
     exact .own0 _ h4
    ·obtain ⟨q, h4, p', rfl, h5⟩ := ht.o _ _ _ hb h1 (by simp)
     rw [← h5.1, ← h5.2.2.1]
     exact .own _ cap p' h4 (by rw [h5.2.2.1]; exact h2) (by rw [h5.2.1, h5.2.2.2]; exact h3)
    ·obtain ⟨q, h4, h5⟩ := ht.o _ _ _ hb h1 (by simp)
     have h5 : q = .stale := h5
     subst h5
     exact .ownS _ x n cap h4
   ·exact .imm (.junk _)
  | omap b =>
   simp only [renA]
   split
   ·rename_i b' hb
    rcases h.omap_inv with ⟨p, h1, rfl⟩ | ⟨h1, x, rfl⟩
    rotate_left
    ·exact .omapS _ x (ht.ms _ _ hb h1)
    obtain ⟨p', h2, h3⟩ := ht.m _ _ _ hb h1
    rw [← h3]; exact .omap _ p' h2
   ·exact .imm (.junk _)
  | agg cs =>
   obtain ⟨vs, rfl, hl, ho, hr⟩ := h.agg_inv
   exact .agg _ vs (by simpa using hl) ho (fun j h h' => by rw [List.getElem_map]; exact renA_rel hi hw ht d _ _ (hr j (by simpa using h) h'))
  | tup cs =>
   obtain ⟨vs, rfl, hl, hr⟩ := h.tup_inv
   exact .tup _ vs (by simpa using hl) (fun j h h' => by rw [List.getElem_map]; exact renA_rel hi hw ht d _ _ (hr j (by simpa using h) h'))
  | fn f cs =>
   obtain ⟨vs, rfl, hl, hr⟩ := h.fn_inv
   exact .fn f _ vs (by simpa using hl) (fun j h h' => by rw [List.getElem_map]; exact renA_rel hi hw ht d _ _ (hr j (by simpa using h) h'))
  | int k n => cases h with | imm h => exact keep _ h
  | bool k => cases h with | imm h => exact keep _ h
  | sb k => cases h with | imm h => exact keep _ h
  | str k => cases h with | imm h => exact keep _ h
  | nilp => cases h with | imm h => exact keep _ h
  | bref cs off => cases h with | imm h => exact keep _ h
  | nils => cases h with | imm h => exact keep _ h
  | sl n sz row => cases h with | imm h => exact keep _ h
  | nilfn => cases h with | imm h => exact keep _ h
  | nilm => cases h with | imm h => exact keep _ h
  | mv g n k v => cases h with | imm h => exact keep _ h
  | junk => exact .imm (.junk _)
  | ent => exact .imm (.junk _)
  | osl => exact .imm (.junk _)

theorem renB_rel {τ : Ren} (hi : ∀ b, im b → im' b) (hw : ∀ b, im b → w'.heap[b]? = w.heap[b]?) (ht : RenOk τ ids ids') (d : Nat)
  {x : Blk} {p : IdE} (hp : ∀ q, p = .lv q → ∀ k, q.has k → w'.heap[k]? = w.heap[k]?) (h : BRel ids im w x p) : BRel ids' im' w' (renB τ d x) p := by
 cases x with
 | box ty cs =>
  cases p with
  | dead => exact h
  | stale => exact h
  | virt => exact h
  | gho vs => exact h
  | lv q =>
   obtain ⟨vs, h1, h2, h3, h4⟩ := h
   refine ⟨vs, by rw [hp _ rfl _ (.inl rfl)]; exact h1, h2, by simpa using h3, fun j h h' => ?_⟩
   rw [List.getElem_map]
   exact ⟨renA_rel hi hw ht d _ _ (h4 j (by simpa using h) h').1, (h4 j (by simpa using h) h').2⟩
 | ghost cs =>
  cases p with
  | dead => exact h
  | stale => exact h
  | virt => exact h
  | lv q => exact h
  | gho vs =>
   refine ⟨by simpa using h.1, fun j h1 h2 => ?_⟩
   rw [List.getElem_map]
   exact renA_rel hi hw ht d _ _ (h.2 j (by simpa using h1) h2)
 | dead => exact h
 | gone => exact h
 | row ty sz n row => have h := BRel.mono (ids := ids) (ids' := ids) hi hw (fun _ _ h _ => h) hp h; cases p <;> exact h
 | nest ty ety sz n ho le row => have h := BRel.mono (ids := ids) (ids' := ids) hi hw (fun _ _ h _ => h) hp h; cases p <;> exact h
 | mapb g n k v => have h := BRel.mono (ids := ids) (ids' := ids) hi hw (fun _ _ h _ => h) hp h; cases p <;> exact h
 | mapx g n k v => have h := BRel.mono (ids := ids) (ids' := ids) hi hw (fun _ _ h _ => h) hp h; cases p <;> exact h
 | mit g n k v se => have h := BRel.mono (ids := ids) (ids' := ids) hi hw (fun _ _ h _ => h) hp h; cases p <;> exact h
 | rowE ty sz n Φ => have h := BRel.mono (ids := ids) (ids' := ids) hi hw (fun _ _ h _ => h) hp h; cases p <;> exact h
 | mgrid ty g sh n hi2 cs ini has val =>
  cases p with
  | dead => exact h
  | stale => exact h
  | virt => exact h
  | gho vs => exact h
  | lv q => exact grid_map (renA τ d) (hp _ rfl) (fun _ _ h => h.mono hi hw) (fun x v h => renA_rel hi hw ht d x v h) h
end

/-! ### Many places set at once -/
def setMany {α : Type} : List Nat → List α → List α → List α
 | b :: bs, x :: xs, m => setMany bs xs (m.set b x)
 | _, _, m => m
theorem setMany_len {α : Type} : ∀ (ρ : List Nat) (xs m : List α), (setMany ρ xs m).length = m.length
 | [], xs, m => by cases xs <;> rfl
 | b :: bs, [], m => rfl
 | b :: bs, x :: xs, m => by rw [setMany, setMany_len bs xs]; simp
theorem setMany_ne {α : Type} : ∀ (ρ : List Nat) (xs m : List α) (b : Nat), b ∉ ρ → (setMany ρ xs m)[b]? = m[b]?
 | [], xs, m, b, _ => by cases xs <;> rfl
 | b' :: bs, [], m, b, _ => rfl
 | b' :: bs, x :: xs, m, b, h => by
  rw [setMany, setMany_ne bs xs _ b (fun h' => h (by simp [h'])), List.getElem?_set_ne (fun e => h (by simp [e]))]
theorem setMany_at {α : Type} : ∀ (ρ : List Nat) (xs m : List α) (k b : Nat) (x : α), ρ.Nodup → ρ[k]? = some b → xs[k]? = some x → b < m.length → (setMany ρ xs m)[b]? = some x
 | [], xs, m, k, b, x, _, h, _, _ => by simp at h
 | b' :: bs, [], m, k, b, x, _, _, h, _ => by simp at h
 | b' :: bs, y :: xs, m, k, b, x, hn, h1, h2, hb => by
  rw [setMany]
  cases k with
  | zero =>
   simp at h1 h2
   subst h1; subst h2
   rw [setMany_ne _ _ _ _ (List.nodup_cons.1 hn).1, List.getElem?_set_self hb]
  | succ k => exact setMany_at bs xs _ k b x (List.nodup_cons.1 hn).2 (by simpa using h1) (by simpa using h2) (by simpa using hb)

/-! ### What a call is handed -/
def posN : List Nat → Nat → Nat → Option Nat
 | [], _, _ => none
 | x :: xs, k, b => match Nat.beq b x with
  | true => some k
  | false => posN xs (k + 1) b
theorem posN_some : ∀ (l : List Nat) (k b j : Nat), posN l k b = some j → k ≤ j ∧ l[j - k]? = some b
 | [], k, b, j, h => by simp [posN] at h
 | x :: xs, k, b, j, h => by
  unfold posN at h
  split at h
  ·rename_i e
   cases h
   have := Nat.eq_of_beq_eq_true e
   subst this
   simp
  ·obtain ⟨h1, h2⟩ := posN_some xs (k + 1) b j h
   refine ⟨by omega, ?_⟩
   rw [show j - k = (j - (k + 1)) + 1 by omega]
   simpa using h2
theorem posN_none : ∀ (l : List Nat) (k b : Nat), posN l k b = none → b ∉ l
 | [], _, _, _ => by simp
 | x :: xs, k, b, h => by
  unfold posN at h
  split at h
  ·cases h
  ·rename_i e
   have := posN_none xs (k + 1) b h
   simp only [List.mem_cons, not_or]
   exact ⟨fun e' => by subst e'; simp at e, this⟩
def reach (m : List Blk) : Nat → A → List Nat
 | 0, _ => []
 | d + 1, x => match x with
  | .ref b _ => b :: match m.getD b .dead with
   | .box _ cs => (cs.map (reach m d)).flatten
   | _ => []
  | .oref b _ _ => [b]
  | .own b => [b]
  | .omap b => [b]
  | .agg cs => (cs.map (reach m d)).flatten
  | .tup cs => (cs.map (reach m d)).flatten
  | .fn _ cs => (cs.map (reach m d)).flatten
  | _ => []
def ddN : List Nat → List Nat → List Nat
 | _, [] => []
 | acc, x :: xs => match memN0 x acc with
  | true => ddN acc xs
  | false => x :: ddN (x :: acc) xs
where memN0 (i : Nat) : List Nat → Bool
 | [] => false
 | j :: js => match Nat.beq i j with
  | true => true
  | false => memN0 i js
def fNL : List Nat → (List Nat → Prop) → Prop
 | [], K => K []
 | x :: xs, K => fnat x fun y => fNL xs fun ys => K (y :: ys)
theorem fNL_eq : ∀ (l : List Nat) (K : List Nat → Prop), fNL l K = K l
 | [], _ => rfl
 | x :: xs, K => by simp only [fNL, fnat_eq, fNL_eq xs]
def nodupB : List Nat → Bool
 | [] => true
 | x :: xs => match ddN.memN0 x xs with
  | true => false
  | false => nodupB xs
theorem memN0_iff {i : Nat} : ∀ {l : List Nat}, ddN.memN0 i l = true ↔ i ∈ l
 | [] => by simp [ddN.memN0]
 | x :: xs => by
  unfold ddN.memN0
  split
  ·rename_i h; have := Nat.eq_of_beq_eq_true h; simp [this]
  ·rename_i h
   have hne : i ≠ x := fun e => by subst e; simp at h
   simp [hne, memN0_iff (l := xs)]
theorem nodupB_sound : ∀ {l : List Nat}, nodupB l = true → l.Nodup
 | [], _ => List.nodup_nil
 | x :: xs, h => by
  unfold nodupB at h
  split at h
  ·cases h
  ·rename_i hn
   refine List.nodup_cons.2 ⟨fun hm => ?_, nodupB_sound h⟩
   rw [memN0_iff.2 hm] at hn; cases hn
def handable : Blk → Bool
 | .box _ _ => true
 | .row _ _ _ _ => true
 | .nest _ _ _ _ _ _ _ => true
 | .mapb _ _ _ _ => true
 | .mgrid _ _ _ _ _ cs _ _ _ => cs.isEmpty
 | .rowE _ _ _ _ => true
 | _ => false
def okR (m : List Blk) : List Nat → Bool
 | [] => true
 | b :: bs => match handable (m.getD b .dead) with
  | true => okR m bs
  | false => false
theorem okR_sound {m : List Blk} : ∀ {l : List Nat}, okR m l = true → ∀ b ∈ l, handable (m.getD b .dead) = true ∧ b < m.length
 | [], _, b, hb => by simp at hb
 | x :: xs, h, b, hb => by
  unfold okR at h
  split at h
  ·rename_i hx
   rcases List.mem_cons.1 hb with rfl | hb
   ·refine ⟨hx, ?_⟩
    rcases Nat.lt_or_ge b m.length with h' | h'
    ·exact h'
    ·rw [List.getD_eq_getElem?_getD, List.getElem?_eq_none h'] at hx; simp [handable] at hx
   ·exact okR_sound h b hb
  ·cases h
/-- The names that are watched: rows that are handed as they are, and all boxes and maps. -/
def ghA : A → A
 | .own b => .own b
 | _ => .junk
def ghB (m : List Blk) : Nat → List Nat → List A
 | _, [] => []
 | k, b :: bs => (match m.getD b .dead with
  | .box _ _ => .ref k 0
  | .mapb _ _ _ _ => .omap k
  | _ => .junk) :: ghB m (k + 1) bs
abbrev renAll (f : Nat → Option Nat) : Ren := ⟨f, f, f⟩
def backN (ρ : List Nat) (M : Nat) : Nat → Option Nat
 | 0 => none
 | j + 1 => match Nat.blt j ρ.length with
  | true => some (ρ.getD j 0)
  | false => some (M + (j - ρ.length))
def keepR (ρ : List Nat) (go : List A) (n : Nat) (b : Nat) : Option Nat :=
 match posN ρ 0 b with
 | none => some b
 | some k => match go.getD (n + k) .junk with
  | .ref k' o => match Nat.beq k' (k + 1), o with
   | true, 0 => some b
   | _, _ => none
  | _ => none
def keepM (ρ : List Nat) (go : List A) (n : Nat) (b : Nat) : Option Nat :=
 match posN ρ 0 b with
 | none => some b
 | some k => match go.getD (n + k) .junk with
  | .omap k' => match Nat.beq k' (k + 1) with
   | true => some b
   | false => none
  | _ => none
def anyOwn (k : Nat) : List A → List A → Bool
 | .own b :: as, g :: gs => match Nat.beq b k, g with
  | true, .own b' => match Nat.beq b' k with
   | true => true
   | false => anyOwn k as gs
  | _, _ => anyOwn k as gs
 | _ :: as, _ :: gs => anyOwn k as gs
 | _, _ => false
def sameSz (x y : Blk) : Bool :=
 match x, y with
 | .row _ sz _ _, .row _ sz' _ _ => Nat.beq sz sz'
 | .nest _ _ _ _ _ _ _, .nest _ _ _ _ _ _ _ => true
 | .row _ sz _ _, .rowE _ sz' _ _ => Nat.beq sz sz'
 | .mgrid _ _ _ _ _ _ _ _ _, .mgrid _ _ _ _ _ _ _ _ _ => true
 | _, _ => false
def keepO (ρ : List Nat) (as go : List A) (m mo : List Blk) (b : Nat) : Option Nat :=
 match posN ρ 0 b with
 | none => some b
 | some k => match anyOwn (k + 1) as go, sameSz (m.getD b .dead) (mo.getD k .dead) with
  | true, true => some b
  | _, _ => none
def noGhost : List Blk → Bool
 | [] => true
 | .ghost _ :: _ => false
 | .gone :: _ => false
 | _ :: xs => noGhost xs

def muOf (ids : Ids) : Nat → Prop := fun x => ∃ p, IdE.lv p ∈ ids ∧ p.has x
/-- A function that is handed blocks, and hands some back. -/
def MCalls (P : Program) (G : GInv) (f : FuncId) (args : List A) (mi : List Blk) (r : A) (mo : List Blk) : Prop :=
 (∃ fn cd, P.funcs[f]? = some fn ∧ fn.body = some cd ∧ (fn.name == "runtime.NumGoroutine") = false) ∧
 ∀ (im : Nat → Prop) (w : World) (vs gs : List Value) (ids : Ids), G.ok ⟨w, im, muOf ids, gs⟩ → Sim ⟨w, im, muOf ids, gs⟩ args mi ⟨vs.toArray, []⟩ w ids →
  Calls P f vs.toArray w fun e w' => ∃ v ids', e = .returned v ∧ Sim ⟨w, im, muOf ids, gs⟩ [r] mo ⟨#[v], []⟩ w' ids'
def sCallM (P : Program) (G : GInv) (f : A) (args : List A) (s : List A) (m : List Blk) (K : List A → A → List Blk → Prop) : Prop :=
 match f with
 | .fn g cap => fd.fdl 4 (args ++ cap) fun as => fNL (ddN [] ((as.map (reach m 8)).flatten)) fun ρ => match okR m ρ, nodupB ρ with
  | true, true => fd.fdl 4 (as.map (renA (renAll (posN ρ 1)) 4)) fun as' =>
   fbs (.ghost (as'.map ghA ++ ghB m 1 ρ) :: ρ.map fun b => renB (renAll (posN ρ 1)) 4 (m.getD b .dead)) fun mi =>
   ∃ r mo, MCalls P G g as' mi r mo ∧ match mo with
    | .ghost go :: mo' => match noGhost mo', Nat.ble ρ.length mo'.length with
     | true, true =>
      fd.fdl 4 (s.map (renA ⟨keepR ρ go as'.length, keepO ρ as' go m mo', keepM ρ go as'.length⟩ 4)) fun s' =>
      fbs (setMany ρ (mo'.map (renB (renAll (backN ρ m.length)) 4)) (m.map (renB ⟨keepR ρ go as'.length, keepO ρ as' go m mo', keepM ρ go as'.length⟩ 4)) ++ (mo'.drop ρ.length).map (renB (renAll (backN ρ m.length)) 4)) fun m' =>
      fd 4 (renA (renAll (backN ρ m.length)) 4 r) fun r' => K s' r' m'
     | _, _ => False
    | _ => False
  | _, _ => False
 | _ => False
end Go.Proofs.YtnkbkfjgbejhfaaGreat.Am
namespace Go.Proofs.YtnkbkfjgbejhfaaGreat.Am
variable [Inhabited DRT]
open Go.RowKit (Below)
section
variable {c : Ctx} {s : List A} {m : List Blk} {a : Act} {w w' : World} {ids ids' : Ids} {P : Program} {im im' : Nat → Prop} {tt : TT} {G : GInv}
variable {next : Act → World → Prop} {Q : Exit → Act → World → Prop} {o : Oper}

theorem handable_gho {x : Blk} {vs : List Value} (h : handable x = true) (hb : BRel ids im w x (.gho vs)) : False := by
 cases x <;> first | exact hb | (simp [handable] at h)
theorem Sim.blk_id (hs : Sim c s m a w ids) {b : Nat} (hb : b < m.length) : ∃ p, ids[b]? = some p ∧ BRel ids (imOf c ids w) w (m.getD b .dead) p := by
 have h1 : b < ids.length := by rw [hs.mlen]; exact hb
 refine ⟨ids[b], List.getElem?_eq_getElem h1, ?_⟩
 have := hs.blks b hb h1
 rwa [show m.getD b .dead = m[b] by rw [List.getD_eq_getElem?_getD, List.getElem?_eq_getElem hb]; rfl]
theorem lt_of_get {α : Type} {l : List α} {i : Nat} {x : α} (h : l[i]? = some x) : i < l.length := by
 rcases Nat.lt_or_ge i l.length with h' | h'
 ·exact h'
 ·rw [List.getElem?_eq_none h'] at h; cases h
/-- What stands for a watched name. -/
def ghV (m : List Blk) (ids : Ids) (b : Nat) : Value :=
 match m.getD b .dead, ids.getD b .dead with
 | .box _ _, .lv p => .pointer (some ⟨p.blk, 0, none⟩)
 | .mapb _ _ _ _, .lv p => .map (some p.blk)
 | _, _ => .bool false
theorem ghB_len (m : List Blk) : ∀ (ρ : List Nat) (k : Nat), (ghB m k ρ).length = ρ.length
 | [], _ => rfl
 | _ :: ρ, k => by simp [ghB, ghB_len m ρ]
theorem ghB_rel (hs : Sim c s m a w ids) {idc : Ids} {im' : Nat → Prop} : ∀ (ρ : List Nat) (k : Nat), (∀ j b, ρ[j]? = some b → idc[k + j]? = ids[b]? ∧ b < m.length) →
  ∀ j (h : j < (ghB m k ρ).length) (h' : j < (ρ.map (ghV m ids)).length), Rel idc im' w (ghB m k ρ)[j] (ρ.map (ghV m ids))[j]
 | [], k, _, j, h, _ => by simp [ghB] at h
 | b :: ρ, k, hi, 0, h, h' => by
  obtain ⟨e1, e2⟩ := hi 0 b rfl
  obtain ⟨p, hp, hb⟩ := hs.blk_id e2
  have hpd : ids.getD b .dead = p := by rw [List.getD_eq_getElem?_getD, hp]; rfl
  simp only [ghB, List.map_cons, List.getElem_cons_zero]
  unfold ghV
  rw [hpd]
  split
  ·rename_i ty cs hm
   rw [hm] at hb ⊢
   cases p with
   | lv p => exact .ref k 0 p (by rw [Nat.add_zero] at e1; rw [e1, hp])
   | dead => exact hb.elim
   | stale => exact hb.elim
   | virt => exact hb.elim
   | gho vs => exact hb.elim
  ·rename_i g n kk vv hm
   rw [hm] at hb ⊢
   cases p with
   | lv p => exact .omap k p (by rw [Nat.add_zero] at e1; rw [e1, hp])
   | dead => exact hb.elim
   | stale => exact hb.elim
   | virt => exact hb.elim
   | gho vs => exact hb.elim
  ·exact .imm (.junk _)
 | b :: ρ, k, hi, j + 1, h, h' => by
  simp only [ghB, List.map_cons, List.getElem_cons_succ]
  exact ghB_rel hs ρ (k + 1) (fun j b hj => by
   have := hi (j + 1) b (by simpa using hj)
   rwa [show k + (j + 1) = k + 1 + j by omega] at this) j (by simpa [ghB] using h) (by simpa using h')
theorem anyOwn_sound (k : Nat) : ∀ (as gs : List A), anyOwn k as gs = true → ∃ j : Nat, as[j]? = some (A.own k) ∧ gs[j]? = some (A.own k)
 | [], _, h => by simp [anyOwn] at h
 | x :: as, [], h => by cases x <;> simp [anyOwn] at h
 | x :: as, g :: gs, h => by
  have rest : anyOwn k as gs = true → ∃ j : Nat, (x :: as)[j]? = some (A.own k) ∧ (g :: gs)[j]? = some (A.own k) := fun h => by
   obtain ⟨j, h1, h2⟩ := anyOwn_sound k as gs h
   exact ⟨j + 1, by simpa using h1, by simpa using h2⟩
  unfold anyOwn at h
  split at h
  ·rename_i b as' g' gs' e1 e2
   cases e1; cases e2
   split at h
   ·rename_i b' hb
    have := Nat.eq_of_beq_eq_true hb
    subst this
    split at h
    ·rename_i hb'
     have := Nat.eq_of_beq_eq_true hb'
     subst this
     exact ⟨0, rfl, rfl⟩
    ·exact rest h
   ·exact rest h
  ·rename_i e1 e2
   cases e1; cases e2
   exact rest h
  ·cases h
theorem noGhost_sound : ∀ {l : List Blk}, noGhost l = true → ∀ x ∈ l, ∀ cs, x ≠ .ghost cs
 | [], _, x, h => by simp at h
 | y :: ys, h, x, hx => by
  rcases List.mem_cons.1 hx with rfl | hx
  ·intro cs e; subst e; simp [noGhost] at h
  ·exact noGhost_sound (l := ys) (by cases y <;> simp [noGhost] at h <;> exact h) x hx

theorem noGhost_gone : ∀ {l : List Blk}, noGhost l = true → ∀ x ∈ l, x ≠ .gone
 | [], _, x, h => by simp at h
 | y :: ys, h, x, hx => by
  rcases List.mem_cons.1 hx with rfl | hx
  ·intro e; subst e; simp [noGhost] at h
  ·exact noGhost_gone (l := ys) (by cases y <;> simp [noGhost] at h <;> exact h) x hx

theorem sCallM_sound (hs : Sim c s m a w ids) (hG : G.ok c) {F : Operand} {xs : Array Operand} {ts : Array TypeId} (ho : o.op = .call { callee := .value F, args := xs, argTypes := ts }) {K : List A → A → List Blk → Prop}
  (h : sCallM P G (ev s F) (xs.toList.map (ev s)) s m K)
  (hn : ∀ s1 v m' a' w' ids', K s1 v m' → Sim c (putD s1 o.dst v) m' a' w' ids' → next a' w') : o.wp P a w next Q := by
 have hf := hs.ev F
 have hGw : G.G w := hG.now hs.frame
 unfold sCallM at h
 split at h
 ·rename_i g cap hv; rw [hv] at hf
  obtain ⟨us, hu1, hu2, hu3⟩ := hf.fn_inv
  rw [fdl_eq, fNL_eq] at h
  generalize has : xs.toList.map (ev s) ++ cap = as at h
  generalize hρ : ddN [] ((as.map (reach m 8)).flatten) = ρ at h
  generalize hvs : xs.toList.map a.eval ++ us = vs
  have hrel : ∀ j (h : j < as.length) (h' : j < vs.length), Rel ids (imOf c ids w) w as[j] vs[j] := by
   subst has; subst hvs
   intro j h h'
   by_cases hj : j < xs.toList.length
   ·rw [List.getElem_append_left (by simpa using hj), List.getElem_append_left (by simpa using hj)]
    exact evL_rel hs xs.toList j (by simpa using hj) (by simpa using hj)
   ·rw [List.getElem_append_right (by simpa using hj), List.getElem_append_right (by simpa using hj)]
    simp at h h' hj
    have := hu3 (j - xs.size) (by omega) (by omega)
    simpa using this
  have hlen : vs.length = as.length := by subst has; subst hvs; simp [hu2]
  have run : ∀ fn cd, P.funcs[g]? = some fn → fn.body = some cd → (fn.name == "runtime.NumGoroutine") = false → (execOp a.eval o).run P w = .ok (.enter g vs.toArray) w := by
   intro fn cd h1 h2 h3
   have e : execOp a.eval o = (do let d ← resolve a.eval { callee := .value F, args := xs, argTypes := ts } o.type; invoke d.target d.args) := by unfold execOp; rw [ho]
   have e2 : (xs.map a.eval ++ us.toArray) = vs.toArray := by subst hvs; apply Array.ext'; simp
   have h4 : ¬ fn.name = "runtime.NumGoroutine" := by simpa using h3
   rw [e]
   simp [resolve, hu1, Deferred.ofValue, invoke, callFunc, h1, h2, h4, e2]
  split at h
  ·rename_i hok hnd
   have hok := okR_sound hok
   have hnd := nodupB_sound hnd
   rw [fdl_eq, fbs_eq] at h
   generalize has' : as.map (renA (renAll (posN ρ 1)) 4) = as' at h
   obtain ⟨r, mo, hc, h⟩ := h
   split at h
   ·rename_i go mo'
    split at h
    ·rename_i hng hle
     have hle : ρ.length ≤ mo'.length := Nat.le_of_ble_eq_true hle
     have hgn := noGhost_gone hng
     have hng := noGhost_sound hng
     rw [fdl_eq, fbs_eq, fd_eq] at h
     -- the callee's names
     let gs : List Value := vs ++ ρ.map (ghV m ids)
     let idc : Ids := .gho gs :: ρ.map fun b => ids.getD b .dead
     let c' : Ctx := ⟨w, imOf c ids w, muOf idc, gs⟩
     have idAt : ∀ b, b ∈ ρ → ∃ p, ids[b]? = some p ∧ ids.getD b .dead = p ∧ BRel ids (imOf c ids w) w (m.getD b .dead) p ∧ ∀ vs, p ≠ .gho vs := by
      intro b hb
      obtain ⟨p, h1, h2⟩ := hs.blk_id (hok b hb).2
      refine ⟨p, h1, by rw [List.getD_eq_getElem?_getD, h1]; rfl, h2, ?_⟩
      rintro vs rfl
      exact handable_gho (hok b hb).1 h2
     have idcAt : ∀ j b, ρ[j]? = some b → idc[j + 1]? = ids[b]? := by
      intro j b hj
      obtain ⟨p, h1, h2, _⟩ := idAt b (List.mem_of_getElem? hj)
      show (ρ.map fun b => ids.getD b .dead)[j]? = _
      rw [List.getElem?_map, hj, h1]
      simp only [Option.map_some, h2]
     have idcInv : ∀ (i : Nat) p, idc[i]? = some (.lv p) → ∃ j b, i = j + 1 ∧ ρ[j]? = some b ∧ ids[b]? = some (.lv p) := by
      intro i p hi
      cases i with
      | zero => simp [idc] at hi
      | succ j =>
       have hi' : (ρ.map fun b => ids.getD b .dead)[j]? = some (.lv p) := hi
       rw [List.getElem?_map] at hi'
       cases hj : ρ[j]? with
       | none => rw [hj] at hi'; cases hi'
       | some b => exact ⟨j, b, rfl, hj, by rw [← idcAt j b hj]; exact hi⟩
     have muIn : ∀ x, muOf idc x → ∃ b p, b ∈ ρ ∧ ids[b]? = some (.lv p) ∧ p.has x := by
      rintro x ⟨p, hp, hx⟩
      obtain ⟨i, hi⟩ := List.getElem?_of_mem hp
      obtain ⟨j, b, _, h2, h3⟩ := idcInv i p hi
      exact ⟨b, p, List.mem_of_getElem? h2, h3, hx⟩
     have muOwn : ∀ b p x, b ∈ ρ → ids[b]? = some (.lv p) → p.has x → muOf idc x := by
      intro b p x hb hp hx
      obtain ⟨j, hj⟩ := List.getElem?_of_mem hb
      exact ⟨p, List.mem_of_getElem? (by rw [idcAt j b hj]; exact hp), hx⟩
     have imNot : ∀ b, imOf c ids w b → ¬ muOf idc b := by
      intro b hb hm
      obtain ⟨b', p, _, h2, h3⟩ := muIn b hm
      rcases hb with hb | ⟨_, _, hb⟩
      ·exact hs.im0new hb (hs.freshX p (List.mem_of_getElem? h2) b h3).1
      ·exact hb p (List.mem_of_getElem? h2) h3
     have hτ : RenOk (renAll (posN ρ 1)) ids idc := by
      have key : ∀ b b', posN ρ 1 b = some b' → idc[b']? = ids[b]? := by
       intro b b' hb
       obtain ⟨h1, h2⟩ := posN_some _ _ _ _ hb
       have := idcAt _ _ h2
       rwa [show b' - 1 + 1 = b' by omega] at this
      exact ⟨fun b b' p h1 h2 => ⟨p, by rw [key b b' h1]; exact h2, rfl⟩, fun b b' p h1 h2 _ => ⟨p, by rw [key b b' h1]; exact h2, likeE0_rfl p⟩, fun b b' p h1 h2 => ⟨p, by rw [key b b' h1]; exact h2, rfl⟩, fun b b' h1 h2 => by rw [key b b' h1]; exact h2, fun b b' h1 h2 => by rw [key b b' h1]; exact h2⟩
     have hal : as'.length = as.length := by rw [← has']; simp
     have hslots : ∀ j (h : j < as'.length) (h' : j < vs.length), Rel idc (imOf c' idc w) w as'[j] vs[j] := by
      intro j h h'
      have : as'[j] = renA (renAll (posN ρ 1)) 4 (as[j]'(by omega)) := by simp [← has']
      rw [this]
      exact renA_rel (fun _ h => .inl h) (fun _ _ => rfl) hτ 4 _ _ (hrel j (by omega) h')
     have hsc : Sim c' as' (.ghost (as'.map ghA ++ ghB m 1 ρ) :: ρ.map fun b => renB (renAll (posN ρ 1)) 4 (m.getD b .dead)) ⟨vs.toArray, []⟩ w idc := by
      refine ⟨rfl, by simp [hlen, hal], fun i h h' => by simpa using hslots i h (by simpa using h'), by simp [idc], ?_, ?_, ?_, Fr.refl _ _ _ _, ?_, ?_⟩
      ·intro i h1 h2
       cases i with
       | zero =>
        show BRel idc (imOf c' idc w) w (.ghost (as'.map ghA ++ ghB m 1 ρ)) (.gho gs)
        refine ⟨by simp [gs, ghB_len, hlen, hal], fun j g1 g2 => ?_⟩
        by_cases hj : j < as'.length
        ·rw [List.getElem_append_left (by simpa using hj)]
         simp only [gs]
         rw [List.getElem_append_left (by omega), List.getElem_map]
         have := hslots j hj (by omega)
         generalize as'[j] = x at this ⊢
         cases x <;> first | exact this | exact .imm (.junk _)
        ·rw [List.getElem_append_right (by simpa using hj)]
         simp only [gs]
         rw [List.getElem_append_right (by omega)]
         have := ghB_rel (idc := idc) (im' := imOf c' idc w) hs ρ 1 (fun j b hj => ⟨by rw [Nat.add_comm]; exact idcAt j b hj, (hok b (List.mem_of_getElem? hj)).2⟩) (j - as'.length) (by simp at g1; rw [ghB_len] at *; omega) (by simp; simp [ghB_len] at g1; omega)
         simpa [hlen, hal] using this
       | succ i =>
        have hi : i < ρ.length := by simpa using h1
        obtain ⟨p, q1, q2, q3, q4⟩ := idAt ρ[i] (List.getElem_mem hi)
        show BRel idc (imOf c' idc w) w ((ρ.map fun b => renB (renAll (posN ρ 1)) 4 (m.getD b .dead))[i]'(by simpa using hi)) ((ρ.map fun b => ids.getD b .dead)[i]'(by simpa using hi))
        rw [List.getElem_map, List.getElem_map, q2]
        exact renB_rel (fun _ h => .inl h) (fun _ _ => rfl) hτ 4 (fun _ _ _ _ => rfl) q3
      ·intro i j p q x h1 h2 h3 h4
       obtain ⟨i', b1, rfl, e1, e2⟩ := idcInv i p h1
       obtain ⟨j', b2, rfl, e3, e4⟩ := idcInv j q h2
       have := hs.distinctX b1 b2 p q x e2 e4 h3 h4
       subst this
       have := (List.getElem?_inj (lt_of_get e1) hnd).1 (e1.trans e3.symm)
       omega
      ·intro p hp x hx
       obtain ⟨i, hi⟩ := List.getElem?_of_mem hp
       obtain ⟨j, b, _, h2, h3⟩ := idcInv i p hi
       exact ⟨.inr ⟨p, hp, hx⟩, (hs.freshX p (List.mem_of_getElem? h3) x hx).2⟩
      ·exact fun b hb => ⟨imOf_lt hs hb, imNot b hb⟩
      ·intro vs' hv'
       rcases List.mem_cons.1 hv' with e | e
       ·cases e; rfl
       ·simp only [List.mem_map] at e
        obtain ⟨b, hb, e⟩ := e
        obtain ⟨p, _, q2, _, q4⟩ := idAt b hb
        exact absurd (q2.symm.trans e) (q4 vs')
     have hGc : G.ok c' := by
      refine ⟨hGw, fun b hb => ?_⟩
      obtain ⟨b', p, _, h2, h3⟩ := muIn b hb
      rcases (hs.freshX p (List.mem_of_getElem? h2) b h3).1 with h | h
      ·exact Nat.le_trans (G.lt _ hG.1) h
      ·exact hG.2 b h
     obtain ⟨⟨fn, cd, f1, f2, f3⟩, hc⟩ := hc
     unfold Oper.wp
     rw [run fn cd f1 f2 f3]
     show Calls P g _ w _
     refine Calls_mono (hc (imOf c ids w) w vs gs idc hGc hsc) ?_
     rintro e w' ⟨v, ids_r, rfl, hr⟩
     have hr : Sim c' [r] (.ghost go :: mo') ⟨#[v], []⟩ w' ids_r := hr
     -- behind the call
     match ids_r, hr with
     | [], hr => have := hr.mlen; simp at this
     | g0 :: idr, hr =>
     have hml : idr.length = mo'.length := by have := hr.mlen; simpa using this
     have hgh0 := hr.blks 0 (by simp) (by simp)
     simp only [List.getElem_cons_zero] at hgh0
     have hgh : ∃ gs', g0 = .gho gs' := by
      cases g0 with
      | gho gs' => exact ⟨gs', rfl⟩
      | dead => exact hgh0.elim
      | stale => exact hgh0.elim
      | virt => exact hgh0.elim
      | lv p => exact hgh0.elim
     obtain ⟨gs', rfl⟩ := hgh
     have hgs : gs' = gs := hr.gho gs' (by simp)
     subst hgs
     obtain ⟨hgl, hgr⟩ := hgh0
     have ghAt : ∀ (j : Nat) x v, go[j]? = some x → gs[j]? = some v → Rel (.gho gs :: idr) (imOf c' (.gho gs :: idr) w') w' x v := by
      intro j x v e1 e2
      have g1 := lt_of_get e1
      have g2 := lt_of_get e2
      have := hgr j g1 g2
      rw [List.getElem?_eq_getElem g1] at e1
      rw [List.getElem?_eq_getElem g2] at e2
      cases e1; cases e2; exact this
     have hsame : ∀ b, b < w.heap.size → ¬ muOf idc b → w'.heap[b]? = w.heap[b]? := fun b h1 h2 => hr.frame.block b h1 h2
     have hszw : w.heap.size ≤ w'.heap.size := hr.frame.size
     have hni : ids.length = m.length := hs.mlen
     generalize hids2 : setMany ρ idr ids ++ idr.drop ρ.length = ids2
     have at2 : ∀ (k b : Nat) p, ρ[k]? = some b → idr[k]? = some p → ids2[b]? = some p := by
      intro k b p h1 h2
      have hb := (hok b (List.mem_of_getElem? h1)).2
      rw [← hids2, List.getElem?_append_left (by rw [setMany_len, hni]; exact hb)]
      exact setMany_at ρ idr ids k b p hnd h1 h2 (by rw [hni]; exact hb)
     have ne2 : ∀ b, b ∉ ρ → b < m.length → ids2[b]? = ids[b]? := by
      intro b h1 h2
      rw [← hids2, List.getElem?_append_left (by rw [setMany_len, hni]; exact h2)]
      exact setMany_ne _ _ _ _ h1
     have ex2 : ∀ (k : Nat) p, ρ.length ≤ k → idr[k]? = some p → ids2[m.length + (k - ρ.length)]? = some p := by
      intro k p h1 h2
      rw [← hids2, List.getElem?_append_right (by rw [setMany_len, hni]; omega), setMany_len, hni, List.getElem?_drop]
      rw [show ρ.length + (m.length + (k - ρ.length) - m.length) = k by omega]; exact h2
     have inv2 : ∀ (i : Nat) p, ids2[i]? = some p → (i ∉ ρ ∧ i < m.length ∧ ids[i]? = some p) ∨ ∃ k : Nat, idr[k]? = some p ∧ ((ρ[k]? = some i) ∨ (ρ.length ≤ k ∧ i = m.length + (k - ρ.length))) := by
      intro i p hi
      rcases Nat.lt_or_ge i m.length with hlt | hge
      ·by_cases hm : i ∈ ρ
       ·obtain ⟨k, hk⟩ := List.getElem?_of_mem hm
        have hkl := lt_of_get hk
        have : idr[k]? = some (idr[k]'(by omega)) := List.getElem?_eq_getElem _
        rw [at2 k i _ hk this] at hi
        exact .inr ⟨k, by rw [this]; exact hi, .inl hk⟩
       ·rw [ne2 i hm hlt] at hi; exact .inl ⟨hm, hlt, hi⟩
      ·rw [← hids2, List.getElem?_append_right (by rw [setMany_len, hni]; exact hge), setMany_len, hni, List.getElem?_drop] at hi
       exact .inr ⟨ρ.length + (i - m.length), hi, .inr ⟨by omega, by omega⟩⟩
     have newc : ∀ x, c'.new x → c.new x := by
      rintro x (h | h)
      ·exact .inl (Nat.le_trans hs.frame.size h)
      ·obtain ⟨b, p, _, h2, h3⟩ := muIn x h
       exact (hs.freshX p (List.mem_of_getElem? h2) x h3).1
     have own2 : ∀ p, IdE.lv p ∈ ids2 → ∀ x, p.has x → (∃ i, i ∉ ρ ∧ ids[i]? = some (.lv p)) ∨ (c'.new x ∧ x < w'.heap.size ∧ IdE.lv p ∈ idr) := by
      intro p hp x hx
      obtain ⟨i, hi⟩ := List.getElem?_of_mem hp
      rcases inv2 i _ hi with ⟨h1, _, h3⟩ | ⟨k, h1, _⟩
      ·exact .inl ⟨i, h1, h3⟩
      ·have := hr.freshX p (List.mem_cons_of_mem _ (List.mem_of_getElem? h1)) x hx
       exact .inr ⟨this.1, this.2, List.mem_of_getElem? h1⟩
     have othNot : ∀ (i : Nat) p x, i ∉ ρ → ids[i]? = some (.lv p) → p.has x → x < w.heap.size ∧ ¬ muOf idc x := by
      intro i p x h1 h2 h3
      refine ⟨(hs.freshX p (List.mem_of_getElem? h2) x h3).2, fun hm => ?_⟩
      obtain ⟨b, q, h4, h5, h6⟩ := muIn x hm
      have := hs.distinctX i b p q x h2 h5 h3 h6
      subst this; exact h1 h4
     have hA : ∀ b, imOf c ids w b → imOf c ids2 w' b := by
      intro b hb
      have hnm := imNot b hb
      have hlt := imOf_lt hs hb
      rcases hb with hb | ⟨h1, h2, h3⟩
      ·exact .inl hb
      ·refine .inr ⟨h1, by omega, fun p hp hx => ?_⟩
       rcases own2 p hp b hx with ⟨i, _, h5⟩ | ⟨h4 | h4, _, _⟩
       ·exact h3 p (List.mem_of_getElem? h5) hx
       ·have h4 : w.heap.size ≤ b := h4
        omega
       ·exact hnm h4
     have hB : ∀ b, imOf c' (.gho gs :: idr) w' b → imOf c ids2 w' b := by
      rintro b (hb | ⟨h1, h2, h3⟩)
      ·exact hA b hb
      ·refine .inr ⟨newc b h1, h2, fun p hp hx => ?_⟩
       rcases own2 p hp b hx with ⟨i, h4, h5⟩ | ⟨_, _, h4⟩
       ·obtain ⟨g1, g2⟩ := othNot i p b h4 h5 hx
        rcases h1 with h1 | h1
        ·have h1 : w.heap.size ≤ b := h1
         omega
        ·exact g2 h1
       ·exact h3 p (List.mem_cons_of_mem _ h4) hx
     have hH : ∀ b, imOf c ids w b → w'.heap[b]? = w.heap[b]? := fun b hb => hsame b (imOf_lt hs hb) (imNot b hb)
     have hυ : RenOk (renAll (backN ρ m.length)) (.gho gs :: idr) ids2 := by
      have key : ∀ b b' p, backN ρ m.length b = some b' → (IdE.gho gs :: idr)[b]? = some p → ids2[b']? = some p := by
       intro b b' p h1 h2
       cases b with
       | zero => simp [backN] at h1
       | succ j =>
        have h2 : idr[j]? = some p := by simpa using h2
        simp only [backN] at h1
        split at h1
        ·rename_i hj
         have hj : j < ρ.length := Nat.le_of_ble_eq_true hj
         cases h1
         exact at2 j _ p (by rw [List.getD_eq_getElem?_getD, List.getElem?_eq_getElem hj]; rfl) h2
        ·rename_i hj
         have hj : ¬ j < ρ.length := fun h' => by rw [show Nat.blt j ρ.length = true from Nat.ble_eq_true_of_le h'] at hj; cases hj
         cases h1
         exact ex2 j p (by omega) h2
      exact ⟨fun b b' p h1 h2 => ⟨p, key b b' _ h1 h2, rfl⟩, fun b b' p h1 h2 _ => ⟨p, key b b' _ h1 h2, likeE0_rfl p⟩, fun b b' p h1 h2 => ⟨p, key b b' _ h1 h2, rfl⟩, fun b b' h1 h2 => key b b' _ h1 h2, fun b b' h1 h2 => key b b' _ h1 h2⟩
     have gsAt : ∀ (k b : Nat), ρ[k]? = some b → gs[as'.length + k]? = some (ghV m ids b) := by
      intro k b hk
      show (vs ++ ρ.map (ghV m ids))[as'.length + k]? = _
      rw [List.getElem?_append_right (by omega), List.getElem?_map, show as'.length + k - vs.length = k by omega, hk]
      rfl
     have hκ : RenOk ⟨keepR ρ go as'.length, keepO ρ as' go m mo', keepM ρ go as'.length⟩ ids ids2 := by
      have nst : ∀ k : Nat, idr[k]? ≠ some .stale := by
       intro k b1
       have hkl := lt_of_get b1
       have hB2 := hr.blks (k + 1) (by simp; omega) (by simp; omega)
       rw [List.getElem?_eq_getElem hkl] at b1
       simp only [List.getElem_cons_succ, Option.some.inj b1] at hB2
       have h2 := hgn _ (List.getElem_mem (show k < mo'.length by omega))
       generalize mo'[k]'(by omega) = x at hB2 h2
       cases x <;> first | exact hB2.elim | exact absurd rfl h2 | cases hB2
      have old : ∀ b, ids[b]? = some .stale → posN ρ 0 b = none → ids2[b]? = some .stale := fun b h2 hp => by
       rw [ne2 b (posN_none _ _ _ hp) (by rw [← hni]; exact lt_of_get h2)]; exact h2
      have inn : ∀ b k, ids[b]? = some .stale → posN ρ 0 b = some k → False := fun b k h2 hp => by
       obtain ⟨_, hk⟩ := posN_some _ _ _ _ hp
       obtain ⟨p', q1, q2, q3, _⟩ := idAt b (List.mem_of_getElem? hk)
       rw [h2] at q1; cases q1
       have := (hok b (List.mem_of_getElem? hk)).1
       cases hx : m.getD b .dead <;> rw [hx] at q3 this <;> first | exact q3.elim | (simp [handable] at this)
      refine ⟨?_, ?_, ?_, ?_, ?_⟩
      rotate_left 3
      ·intro b b' h1 h2
       have h1 : keepR ρ go as'.length b = some b' := h1
       unfold keepR at h1
       split at h1
       ·rename_i hp; cases h1; exact old b h2 hp
       ·rename_i k hp; exact (inn b k h2 hp).elim
      ·intro b b' h1 h2
       have h1 : keepM ρ go as'.length b = some b' := h1
       unfold keepM at h1
       split at h1
       ·rename_i hp; cases h1; exact old b h2 hp
       ·rename_i k hp; exact (inn b k h2 hp).elim
      ·intro b b' p h1 h2
       have h1 : keepR ρ go as'.length b = some b' := h1
       unfold keepR at h1
       split at h1
       ·rename_i hp; cases h1
        exact ⟨p, by rw [ne2 b (posN_none _ _ _ hp) (by rw [← hni]; exact lt_of_get h2)]; exact h2, rfl⟩
       ·rename_i k hp
        obtain ⟨_, hk⟩ := posN_some _ _ _ _ hp
        rw [Nat.sub_zero] at hk
        split at h1
        ·rename_i k' o' hgo
         split at h1
         ·rename_i hk'
          cases h1
          have hk' := Nat.eq_of_beq_eq_true hk'
          subst hk'
          have hgo' : go[as'.length + k]? = some (.ref (k + 1) 0) := by
           rw [List.getD_eq_getElem?_getD] at hgo
           cases hx : go[as'.length + k]? with
           | none => rw [hx] at hgo; cases hgo
           | some y => rw [hx] at hgo; simpa using hgo
          obtain ⟨p', e1, e2⟩ := (ghAt _ _ _ hgo' (gsAt k b hk)).ref_inv.resolve_right (fun h => nst k (by simpa using h.1))
          have e1 : idr[k]? = some (.lv p') := by simpa using e1
          refine ⟨p', at2 k b _ hk e1, ?_⟩
          have hpd : ids.getD b .dead = .lv p := by rw [List.getD_eq_getElem?_getD, h2]; rfl
          unfold ghV at e2
          rw [hpd] at e2
          split at e2
          ·rename_i q _ he; cases he
           simp only [Value.pointer.injEq, Option.some.injEq, Addr.mk.injEq] at e2
           exact e2.1.symm
          ·cases e2
          ·cases e2
         ·cases h1
        ·cases h1
      ·intro b b' p h1 h2 hpd
       have h1 : keepO ρ as' go m mo' b = some b' := h1
       unfold keepO at h1
       split at h1
       ·rename_i hp; cases h1
        exact ⟨p, by rw [ne2 b (posN_none _ _ _ hp) (by rw [← hni]; exact lt_of_get h2)]; exact h2, likeE0_rfl p⟩
       ·rename_i k hp
        obtain ⟨_, hk⟩ := posN_some _ _ _ _ hp
        rw [Nat.sub_zero] at hk
        split at h1
        ·rename_i hany hss
         cases h1
         obtain ⟨j, e1, e2⟩ := anyOwn_sound _ _ _ hany
         have hj := lt_of_get e1
         have hva : gs[j]? = some (vs[j]'(by omega)) := by
          show (vs ++ ρ.map (ghV m ids))[j]? = _
          rw [List.getElem?_append_left (by omega), List.getElem?_eq_getElem]
         have R1 := hslots j hj (by omega)
         rw [List.getElem?_eq_getElem hj] at e1
         rw [Option.some.inj e1] at R1
         have R2 := ghAt j _ _ e2 hva
         have hidk : idc[k + 1]? = some p := by rw [idcAt k b hk]; exact h2
         have hkl : k < idr.length := by have := lt_of_get hk; omega
         have hkr : idr[k]? = some idr[k] := List.getElem?_eq_getElem hkl
         refine ⟨idr[k], at2 k b _ hk hkr, ?_⟩
         have nst : idr[k]? ≠ some .stale := by
          intro b1
          rw [hkr] at b1
          have b1 := Option.some.inj b1
          have hB2 := hr.blks (k + 1) (by simp; omega) (by simp; omega)
          simp only [List.getElem_cons_succ, b1] at hB2
          have hmk : mo'.getD k .dead = mo'[k]'(by omega) := by rw [List.getD_eq_getElem?_getD, List.getElem?_eq_getElem]; rfl
          rw [← hmk] at hB2
          unfold sameSz at hss
          split at hss
          ·rename_i hm1 hm2; rw [hm2] at hB2; exact hB2
          ·rename_i hm1 hm2; rw [hm2] at hB2; exact hB2
          ·rename_i hm1 hm2; rw [hm2] at hB2; exact hB2
          ·rename_i hm1 hm2; rw [hm2] at hB2; exact hB2
          ·cases hss
         rcases R1.own_inv with ⟨a1, a2⟩ | ⟨p1, cap1, a1, a2, a3, a4⟩ | ⟨a1, _⟩
         rotate_right
         ·rw [hidk] at a1; cases a1
          obtain ⟨p', q1, q2, q3, _⟩ := idAt b (List.mem_of_getElem? hk)
          rw [h2] at q1; cases q1
          unfold sameSz at hss
          split at hss
          ·rename_i hm1 hm2; rw [hm1] at q3; exact q3.elim
          ·rename_i hm1 hm2; rw [hm1] at q3; exact q3.elim
          ·rename_i hm1 hm2; rw [hm1] at q3; exact q3.elim
          ·rename_i hm1 hm2; rw [hm1] at q3; exact q3.elim
          ·cases hss
         ·rw [hidk] at a1; cases a1
          rcases R2.own_inv with ⟨b1, b2⟩ | ⟨p2, cap2, b1, b2, b3, b4⟩ | ⟨b1, _⟩
          rotate_right
          ·exact absurd (by simpa using b1) nst
          ·have b1 : idr[k]? = some .virt := by simpa using b1
           rw [hkr] at b1
           exact Option.some.inj b1
          ·rw [a2] at b4; cases b4
         ·rw [hidk] at a1; cases a1
          rcases R2.own_inv with ⟨b1, b2⟩ | ⟨p2, cap2, b1, b2, b3, b4⟩ | ⟨b1, _⟩
          rotate_right
          ·exact absurd (by simpa using b1) nst
          ·rw [a4] at b2; cases b2
          ·have b1 : idr[k]? = some (.lv p2) := by simpa using b1
           rw [hkr] at b1
           have b1 := Option.some.inj b1
           rw [a4] at b4
           simp only [Value.slice.injEq, Option.some.injEq, Addr.mk.injEq] at b4
           obtain ⟨⟨c1, _⟩, c2, c3⟩ := b4
           obtain ⟨p', q1, q2, q3, _⟩ := idAt b (List.mem_of_getElem? hk)
           rw [h2] at q1; cases q1
           have hB2 := hr.blks (k + 1) (by simp; omega) (by simp; omega)
           simp only [List.getElem_cons_succ, b1] at hB2
           have hmk : mo'.getD k .dead = mo'[k]'(by omega) := by rw [List.getD_eq_getElem?_getD, List.getElem?_eq_getElem]; rfl
           rw [← hmk] at hB2
           have hsz : p2.sz = p1.sz := by
            unfold sameSz at hss
            split at hss
            ·rename_i hm1 hm2
             rw [hm1] at q3; rw [hm2] at hB2
             have := Nat.eq_of_beq_eq_true hss
             rw [hB2.1, q3.1, this]
            ·rename_i hm1 hm2
             rw [hm1] at q3; rw [hm2] at hB2
             rw [hB2.1, q3.1]
            ·rename_i hm1 hm2
             rw [hm1] at q3; rw [hm2] at hB2
             obtain ⟨_, _, e9, _⟩ := hB2
             have := Nat.eq_of_beq_eq_true hss
             rw [e9, q3.1, this]
            ·rename_i hm1 hm2
             rw [hm1] at q3; rw [hm2] at hB2
             rw [hB2.1, q3.1]
            ·cases hss
           rw [b1]
           exact ⟨p2, rfl, c1.symm, by rw [← b3, ← a3, hsz, c3], c2.symm, hsz⟩
        ·cases h1
      ·intro b b' p h1 h2
       have h1 : keepM ρ go as'.length b = some b' := h1
       unfold keepM at h1
       split at h1
       ·rename_i hp; cases h1
        exact ⟨p, by rw [ne2 b (posN_none _ _ _ hp) (by rw [← hni]; exact lt_of_get h2)]; exact h2, rfl⟩
       ·rename_i k hp
        obtain ⟨_, hk⟩ := posN_some _ _ _ _ hp
        rw [Nat.sub_zero] at hk
        split at h1
        ·rename_i k' hgo
         split at h1
         ·rename_i hk'
          cases h1
          have hk' := Nat.eq_of_beq_eq_true hk'
          subst hk'
          have hgo' : go[as'.length + k]? = some (.omap (k + 1)) := by
           rw [List.getD_eq_getElem?_getD] at hgo
           cases hx : go[as'.length + k]? with
           | none => rw [hx] at hgo; cases hgo
           | some y => rw [hx] at hgo; simpa using hgo
          obtain ⟨p', e1, e2⟩ := (ghAt _ _ _ hgo' (gsAt k b hk)).omap_inv.resolve_right (fun h => nst k (by simpa using h.1))
          have e1 : idr[k]? = some (.lv p') := by simpa using e1
          refine ⟨p', at2 k b _ hk e1, ?_⟩
          have hpd : ids.getD b .dead = .lv p := by rw [List.getD_eq_getElem?_getD, h2]; rfl
          unfold ghV at e2
          rw [hpd] at e2
          split at e2
          ·cases e2
          ·rename_i q _ he; cases he
           simp only [Value.map.injEq, Option.some.injEq] at e2
           exact e2.symm
          ·cases e2
         ·cases h1
        ·cases h1
     refine hn _ _ _ _ w' ids2 h (Sim.putD ?_ o.dst (renA_rel hB (fun _ _ => rfl) hυ 4 _ _ (by simpa using hr.slots 0 (by simp) (by simp))))
     have hml2 : ids2.length = (setMany ρ (mo'.map (renB (renAll (backN ρ m.length)) 4)) (m.map (renB ⟨keepR ρ go as'.length, keepO ρ as' go m mo', keepM ρ go as'.length⟩ 4)) ++ (mo'.drop ρ.length).map (renB (renAll (backN ρ m.length)) 4)).length := by
      rw [← hids2]; simp [setMany_len, hni, hml]
     have back : ∀ (k : Nat) x p, mo'[k]? = some x → idr[k]? = some p → BRel ids2 (imOf c ids2 w') w' (renB (renAll (backN ρ m.length)) 4 x) p := by
      intro k x p h1 h2
      have g1 := lt_of_get h1
      have g2 := lt_of_get h2
      have := hr.blks (k + 1) (by simp; omega) (by simp; omega)
      simp only [List.getElem_cons_succ] at this
      rw [List.getElem?_eq_getElem g1] at h1
      rw [List.getElem?_eq_getElem g2] at h2
      cases h1; cases h2
      exact renB_rel hB (fun _ _ => rfl) hυ 4 (fun _ _ _ _ => rfl) this
     refine ⟨hs.defers, by simp [hs.len], ?_, hml2, ?_, ?_, ?_, ?_, hs.im0lt, ?_⟩
     ·intro i h1 h2
      rw [List.getElem_map]
      exact renA_rel hA hH hκ 4 _ _ (hs.slots i (by simpa using h1) h2)
     ·intro i h1 h2
      have e2 : ids2[i]? = some ids2[i] := List.getElem?_eq_getElem h2
      have e1 := List.getElem?_eq_getElem h1
      generalize ids2[i] = p at e2 ⊢
      generalize hgx : (setMany ρ (mo'.map (renB (renAll (backN ρ m.length)) 4)) (m.map (renB ⟨keepR ρ go as'.length, keepO ρ as' go m mo', keepM ρ go as'.length⟩ 4)) ++ (mo'.drop ρ.length).map (renB (renAll (backN ρ m.length)) 4))[i] = x at e1 ⊢
      rcases inv2 i p e2 with ⟨g1, g2, g3⟩ | ⟨k, g1, g2 | ⟨g2, g3⟩⟩
      ·rw [List.getElem?_append_left (by rw [setMany_len]; simpa using g2), setMany_ne _ _ _ _ g1, List.getElem?_map, List.getElem?_eq_getElem g2] at e1
       cases e1
       have hb := hs.blks i g2 (by rw [hni]; exact g2)
       rw [List.getElem?_eq_getElem (by rw [hni]; exact g2)] at g3
       cases g3
       refine renB_rel hA hH hκ 4 ?_ hb
       intro q hq y hy
       obtain ⟨f1, f2⟩ := othNot i q y g1 (by rw [List.getElem?_eq_getElem (by rw [hni]; exact g2), hq]) hy
       exact hsame y f1 f2
      ·have hib := (hok i (List.mem_of_getElem? g2)).2
       have hkm : k < mo'.length := by have := lt_of_get g1; omega
       rw [List.getElem?_append_left (by rw [setMany_len]; simpa using hib),
        setMany_at ρ (mo'.map (renB (renAll (backN ρ m.length)) 4)) _ k i (renB (renAll (backN ρ m.length)) 4 mo'[k]) hnd g2 (by rw [List.getElem?_map, List.getElem?_eq_getElem hkm]; rfl) (by simpa using hib)] at e1
       cases e1
       exact back k _ p (List.getElem?_eq_getElem hkm) g1
      ·have hkm : k < mo'.length := by have := lt_of_get g1; omega
       rw [g3, List.getElem?_append_right (by rw [setMany_len]; simp), setMany_len, List.getElem?_map, List.getElem?_drop, List.length_map,
        show ρ.length + (m.length + (k - ρ.length) - m.length) = k by omega, List.getElem?_eq_getElem hkm] at e1
       cases e1
       exact back k _ p (List.getElem?_eq_getElem hkm) g1
     ·intro i j p q x h1 h2 h3 h4
      have mix : ∀ (i : Nat) p (k : Nat) q, i ∉ ρ → ids[i]? = some (.lv p) → idr[k]? = some (.lv q) → p.has x → q.has x → False := by
       intro i p k q g1 g2 g3 g4 g5
       obtain ⟨f1, f2⟩ := othNot i p x g1 g2 g4
       rcases (hr.freshX q (List.mem_cons_of_mem _ (List.mem_of_getElem? g3)) x g5).1 with f | f
       ·have f : w.heap.size ≤ x := f
        omega
       ·exact f2 f
      rcases inv2 i _ h1 with ⟨g1, g2, g3⟩ | ⟨k, g1, g2⟩ <;> rcases inv2 j _ h2 with ⟨e1, e2, e3⟩ | ⟨k', e1, e2⟩
      ·exact hs.distinctX i j p q x g3 e3 h3 h4
      ·exact (mix i p k' q g1 g3 e1 h3 h4).elim
      ·exact (mix j q k p e1 e3 g1 h4 h3).elim
      ·have := hr.distinctX (k + 1) (k' + 1) p q x (by simpa using g1) (by simpa using e1) h3 h4
       have : k = k' := by omega
       subst this
       rcases g2 with g2 | ⟨g2, g3⟩ <;> rcases e2 with e2 | ⟨e2, e3⟩
       ·rw [g2] at e2; exact Option.some.inj e2
       ·have := lt_of_get g2; omega
       ·have := lt_of_get e2; omega
       ·omega
     ·intro p hp x hx
      rcases own2 p hp x hx with ⟨i, h1, h2⟩ | ⟨h1, h2, _⟩
      ·have := hs.freshX p (List.mem_of_getElem? h2) x hx
       exact ⟨this.1, by omega⟩
      ·exact ⟨newc x h1, h2⟩
     ·refine hs.frame.go hr.frame.os hr.frame.tape hr.frame.output hszw (fun k hk hm => ?_) hr.frame.drawn
      refine hsame k (Nat.lt_of_lt_of_le hk hs.frame.size) (fun hmu => ?_)
      obtain ⟨b, p, _, h2, h3⟩ := muIn k hmu
      rcases (hs.freshX p (List.mem_of_getElem? h2) k h3).1 with f | f
      ·omega
      ·exact hm f
     ·intro vs' hv'
      obtain ⟨i, hi⟩ := List.getElem?_of_mem hv'
      rcases inv2 i _ hi with ⟨_, _, h3⟩ | ⟨k, h1, _⟩
      ·exact hs.gho vs' (List.mem_of_getElem? h3)
      ·have hkm : k < mo'.length := by have := lt_of_get h1; omega
       have := hr.blks (k + 1) (by simp; omega) (by simp; have := lt_of_get h1; omega)
       simp only [List.getElem_cons_succ] at this
       rw [List.getElem?_eq_getElem (lt_of_get h1)] at h1
       rw [Option.some.inj h1] at this
       have hng' := hng _ (List.getElem_mem hkm)
       generalize mo'[k] = x at this hng'
       cases x <;> first | exact this.elim | (rename_i cs; exact absurd rfl (hng' cs)) | (have this : IdE.gho vs' = .dead := this; cases this) | (have this : IdE.gho vs' = .stale := this; cases this)
    ·exact h.elim
   ·exact h.elim
  ·exact h.elim
 ·exact h.elim
end
end Go.Proofs.YtnkbkfjgbejhfaaGreat.Am
namespace Go.Proofs.YtnkbkfjgbejhfaaGreat.Am
variable [Inhabited DRT]
open Go.RowKit (Below)
section
variable {c : Ctx} {s : List A} {m : List Blk} {a : Act} {w w' : World} {ids ids' : Ids} {P : Program} {im im' : Nat → Prop} {tt : TT} {G : GInv}
variable {next : Act → World → Prop} {Q : Exit → Act → World → Prop} {o : Oper}

/-- A row of ours, taken for a value that nobody writes. -/
theorem own_imm (hs : Sim c s m a w ids) {b : Nat} {v : Value} (hA : ∀ x, imOf c ids w x → im' x) (hZ : ∀ p, ids[b]? = some (.lv p) → ∀ x, p.has x → im' x) (hr : Rel ids (imOf c ids w) w (.own b) v) :
  RelI im' w (wk m 1 (.own b)) v := by
 cases hr with
 | imm h => cases h
 | ownS b x n cap h => simp only [wk, hs.stale_gone h]; exact .junk _
 | own0 b h =>
  simp only [wk]
  split
  ·rename_i ty sz n row hb
   rcases own_len hs (.own0 b h) hb with ⟨rfl, _, _⟩ | ⟨p, cap, g1, _⟩
   ·exact .sl0 _ _
   ·rw [h] at g1; cases g1
  ·rename_i hb
   have hlt : b < ids.length := by
    rcases Nat.lt_or_ge b ids.length with h' | h'
    ·exact h'
    ·rw [List.getElem?_eq_none h'] at h; cases h
   have := hs.blks b (by rw [← hs.mlen]; exact hlt) hlt
   rw [List.getElem?_eq_getElem hlt] at h
   have e : m[b]'(by rw [← hs.mlen]; exact hlt) = m.getD b .dead := by
    rw [List.getD_eq_getElem?_getD, List.getElem?_eq_getElem (by rw [← hs.mlen]; exact hlt)]; rfl
   rw [e, hb, Option.some.inj h] at this
   have this : _ = 0 := this
   subst this
   split
   ·exact .sl0 _ _
   ·exact .junk _
  ·rename_i ty agg sh n hi2 cs ini has val hb
   have hlt : b < ids.length := by
    rcases Nat.lt_or_ge b ids.length with h' | h'
    ·exact h'
    ·rw [List.getElem?_eq_none h'] at h; cases h
   have := hs.blks b (by rw [← hs.mlen]; exact hlt) hlt
   rw [List.getElem?_eq_getElem hlt] at h
   have e : m[b]'(by rw [← hs.mlen]; exact hlt) = m.getD b .dead := by
    rw [List.getD_eq_getElem?_getD, List.getElem?_eq_getElem (by rw [← hs.mlen]; exact hlt)]; rfl
   rw [e, hb, Option.some.inj h] at this
   have this : _ = 0 := this
   subst this
   split
   ·exact .sl0 _ _
   ·exact .junk _
  ·exact .junk _
 | own b cap p h hn hm =>
  simp only [wk]
  split
  ·rename_i ty sz n row hb
   obtain ⟨x, hxm, hbr⟩ := hs.blk_at h
   rw [getD_of_get hxm] at hb; subst hb
   obtain ⟨q1, q2, vs0, g1, g2, g3, hl, g5⟩ := hbr
   subst q1; subst q2
   have hlt : ∀ i j, i < p.n → j < p.sz → i * p.sz + j < vs0.size := by
    intro i j hi hj
    have := Nat.mul_le_mul_right p.sz (show i + 1 ≤ p.n from hi)
    rw [Nat.add_mul] at this; omega
   refine .sl p.n p.sz row p.blk 0 cap (fun i j => vs0.getD (i * p.sz + j) undef) (hZ p h _ (.inl rfl)) hn.1 hl ?_ ?_ ?_
   ·intro i j hi hj
    have hk := hlt i j hi hj
    rw [Nat.zero_add, cell_of_row w p.blk _ vs0 ty (0, 0) g1]
    simp [Array.getD_eq_getD_getElem?, hk]
   ·intro i j hi hj
    have hk := hlt i j hi hj
    have := (g5 i j hi (by rw [hl i hi]; exact hj) hk).2
    simpa [Array.getD_eq_getD_getElem?, hk] using this
   ·intro i j hi hj
    have hk := hlt i j hi (by rw [← hl i hi]; exact hj)
    have := (g5 i j hi hj hk).1
    simp only [Array.getD_eq_getD_getElem?, Array.getElem?_eq_getElem hk, Option.getD_some]
    exact this.mono hA (fun _ _ => rfl)
  ·rename_i ty ety sz n hole len row hb
   split
   ·skip
    obtain ⟨x, hxm, hbr⟩ := hs.blk_at h
    rw [getD_of_get hxm] at hb; subst hb
    obtain ⟨q1, q2, q3, vs0, g1, g2, g3, kb, g5⟩ := hbr
    subst q2
    refine .sl p.n 1 _ p.blk 0 cap (fun i j => vs0.getD (i * 1 + j) undef) (hZ p h _ (.inl rfl)) hn.1 (fun _ _ => rfl) ?_ ?_ ?_
    ·intro i j hi hj
     rw [Nat.zero_add, cell_of_row w p.blk _ vs0 ty (0, 0) g1]
     simp [Array.getD_eq_getD_getElem?, show i + j < vs0.size by omega]
    ·intro i j hi hj
     have hj0 : j = 0 := by omega
     subst hj0
     have hk : i < vs0.size := by omega
     simp only [Nat.mul_one, Nat.add_zero, Array.getD_eq_getD_getElem?, Array.getElem?_eq_getElem hk, Option.getD_some]
     rcases (g5 i hi (by simp) hk).1 with ⟨e, _⟩ | ⟨q, cap', vs', e, _⟩ <;> rw [e] <;> rfl
    ·intro i j hi hj
     have hj0 : j = 0 := by simp at hj; omega
     subst hj0
     have hk : i < vs0.size := by omega
     simp only [Nat.mul_one, Nat.add_zero, Array.getD_eq_getD_getElem?, Array.getElem?_eq_getElem hk, Option.getD_some, List.getElem_cons_zero]
     obtain ⟨k1, k2, _⟩ := g5 i hi (by simp) hk
     rcases k1 with ⟨e1, e2, _⟩ | ⟨q, cap', vs', e1, e2, e3, e4, e5, e6, e7, e8⟩
     ·rw [e1, e2]; exact .sl0 _ _
     ·rw [e1]
      have hlt : ∀ i' j, i' < len i → j < sz → i' * sz + j < vs'.size := by
       intro i' j hi' hj
       have h1 := Nat.mul_le_mul_right sz (show i' + 1 ≤ len i from hi')
       have h2 := Nat.mul_le_mul_right sz e5
       rw [Nat.add_mul] at h1; omega
      refine .sl (len i) sz (row i) q 0 cap' (fun i' j => vs'.getD (i' * sz + j) undef) (hZ p h _ (.inr (k2 q e2))) e5 e7 ?_ ?_ ?_
      ·intro i' j hi' hj
       have hk := hlt i' j hi' hj
       rw [Nat.zero_add, cell_of_row w q _ vs' ety (0, 0) e3]
       simp [Array.getD_eq_getD_getElem?, hk]
      ·intro i' j hi' hj
       have hk := hlt i' j hi' hj
       have := (e8 i' j hi' (by rw [e7 i' hi']; exact hj) hk).2
       simpa [Array.getD_eq_getD_getElem?, hk] using this
      ·intro i' j hi' hj
       have hk := hlt i' j hi' (by rw [← e7 i' hi']; exact hj)
       have := (e8 i' j hi' hj hk).1
       simp only [Array.getD_eq_getD_getElem?, Array.getElem?_eq_getElem hk, Option.getD_some]
       exact this.mono hA (fun _ _ => rfl)
   ·exact .junk _
  ·rename_i ty agg sh n hi2 cs ini has val hb
   split
   ·rename_i he
    obtain ⟨x, hxm, hbr⟩ := hs.blk_at h
    rw [getD_of_get hxm] at hb; subst hb
    exact grid_imm hbr he hn.1 hA (hZ p h)
   ·exact .junk _
  ·exact .junk _
theorem omap_imm (hs : Sim c s m a w ids) {b : Nat} {v : Value} (hA : ∀ x, imOf c ids w x → im' x) (hZ : ∀ p, ids[b]? = some (.lv p) → ∀ x, p.has x → im' x) (hr : Rel ids (imOf c ids w) w (.omap b) v) :
  RelI im' w (wk m 1 (.omap b)) v := by
 cases hr with
 | omapS b x h => simp only [wk, hs.stale_gone h]; exact .junk _
 | imm h => cases h
 | omap b p h =>
  simp only [wk]
  split
  ·rename_i g n key val hb
   obtain ⟨x, hxm, hbr⟩ := hs.blk_at h
   rw [getD_of_get hxm] at hb; subst hb
   obtain ⟨es, clock, f, g1, g2, g3, g4, g5, g6, g7⟩ := hbr
   exact .mv g n key val p.blk es clock f (hZ p h _ (.inl rfl)) g1 g2 g3 g4 (fun i hi => (g5 i hi).mono hA (fun _ _ => rfl)) g6 g7
  ·exact .junk _

/-! ### A row of ours that is written no more -/
def frz (b : Nat) (q : Option (List A)) (y z : A) : Nat → A → A
 | 0, _ => .junk
 | d + 1, x => match x with
  | .ref b' o => match Nat.beq b' b with
   | true => match q with
    | some cs => .bref cs o
    | none => .junk
   | false => .ref b' o
  | .oref b' i o => match Nat.beq b' b with
   | true => .junk
   | false => .oref b' i o
  | .own b' => match Nat.beq b' b with
   | true => y
   | false => .own b'
  | .omap b' => match Nat.beq b' b with
   | true => z
   | false => .omap b'
  | .ent _ _ => .junk
  | .osl _ _ => .junk
  | .agg cs => .agg (cs.map (frz b q y z d))
  | .tup cs => .tup (cs.map (frz b q y z d))
  | .fn f cs => .fn f (cs.map (frz b q y z d))
  | x => x
def frzB (b : Nat) (q : Option (List A)) (y z : A) (d : Nat) : Blk → Blk
 | .box ty cs => .box ty (cs.map (frz b q y z d))
 | .ghost cs => .ghost (cs.map (frz b q y z d))
 | .mgrid ty g sh n hi cs ini has val => .mgrid ty g sh n hi (cs.map (frz b q y z d)) ini has val
 | x => x
theorem frz_rel {b : Nat} {q : Option (List A)} {y z : A} (hq : ∀ cs o v, q = some cs → Rel ids im w (.ref b o) v → RelI im' w (.bref cs o) v) (hi : ∀ b, im b → im' b) (hd : ∀ (b' : Nat) p, b' ≠ b → ids[b']? = some p → ids'[b']? = some p)
  (hy : ∀ v, Rel ids im w (.own b) v → RelI im' w y v) (hy2 : ∀ v, Rel ids im w (.omap b) v → RelI im' w z v) :
  ∀ (d : Nat) (x : A) (v : Value), Rel ids im w x v → Rel ids' im' w (frz b q y z d x) v
 | 0, x, v, _ => .imm (.junk _)
 | d + 1, x, v, h => by
  have keep : ∀ y, RelI im w y v → Rel ids' im' w y v := fun y hy => .imm (hy.mono hi (fun _ _ => rfl))
  cases x with
  | ref b' o =>
   simp only [frz]
   split
   ·rename_i hb
    have := Nat.eq_of_beq_eq_true hb
    subst this
    split
    ·exact .imm (hq _ _ _ rfl h)
    ·exact .imm (.junk _)
   ·rename_i hb
    rcases h.ref_inv with ⟨p, h1, rfl⟩ | ⟨h1, x, y, rfl⟩
    rotate_left
    ·exact .refS _ _ x y (hd b' _ (fun e => by subst e; simp at hb) h1)
    exact .ref _ _ p (hd b' _ (fun e => by subst e; simp at hb) h1)
  | oref b' i o =>
   simp only [frz]
   split
   ·exact .imm (.junk _)
   ·rename_i hb
    rcases h.oref_inv with ⟨p, h1, rfl⟩ | ⟨h1, x, y, rfl⟩
    rotate_left
    ·exact .orefS _ _ _ x y (hd b' _ (fun e => by subst e; simp at hb) h1)
    exact .oref _ _ _ p (hd b' _ (fun e => by subst e; simp at hb) h1)
  | own b' =>
   simp only [frz]
   split
   ·rename_i hb
    have := Nat.eq_of_beq_eq_true hb
    subst this
    exact .imm (hy v h)
   ·rename_i hb
    have hne : b' ≠ b := fun e => by subst e; simp at hb
    rcases h.own_inv with ⟨h1, rfl⟩ | ⟨p, cap, h1, h2, h3, rfl⟩ | ⟨h1, x, n, cap, rfl⟩
    ·exact .own0 _ (hd b' _ hne h1)
    ·exact .own _ cap p (hd b' _ hne h1) h2 h3
    ·exact .ownS _ x n cap (hd b' _ hne h1)
  | omap b' =>
   simp only [frz]
   split
   ·rename_i hb
    have := Nat.eq_of_beq_eq_true hb
    subst this
    exact .imm (hy2 v h)
   ·rename_i hb
    rcases h.omap_inv with ⟨p, h1, rfl⟩ | ⟨h1, x, rfl⟩
    rotate_left
    ·exact .omapS _ x (hd b' _ (fun e => by subst e; simp at hb) h1)
    exact .omap _ p (hd b' _ (fun e => by subst e; simp at hb) h1)
  | agg cs =>
   obtain ⟨vs, rfl, hl, ho, hr⟩ := h.agg_inv
   exact .agg _ vs (by simpa using hl) ho (fun j h h' => by rw [List.getElem_map]; exact frz_rel hq hi hd hy hy2 d _ _ (hr j (by simpa using h) h'))
  | tup cs =>
   obtain ⟨vs, rfl, hl, hr⟩ := h.tup_inv
   exact .tup _ vs (by simpa using hl) (fun j h h' => by rw [List.getElem_map]; exact frz_rel hq hi hd hy hy2 d _ _ (hr j (by simpa using h) h'))
  | fn f cs =>
   obtain ⟨vs, rfl, hl, hr⟩ := h.fn_inv
   exact .fn f _ vs (by simpa using hl) (fun j h h' => by rw [List.getElem_map]; exact frz_rel hq hi hd hy hy2 d _ _ (hr j (by simpa using h) h'))
  | int k n => cases h with | imm h => exact keep _ h
  | bool k => cases h with | imm h => exact keep _ h
  | sb k => cases h with | imm h => exact keep _ h
  | str k => cases h with | imm h => exact keep _ h
  | nilp => cases h with | imm h => exact keep _ h
  | bref cs off => cases h with | imm h => exact keep _ h
  | nils => cases h with | imm h => exact keep _ h
  | sl n sz row => cases h with | imm h => exact keep _ h
  | nilfn => cases h with | imm h => exact keep _ h
  | nilm => cases h with | imm h => exact keep _ h
  | mv g n k v => cases h with | imm h => exact keep _ h
  | junk => exact .imm (.junk _)
  | ent => exact .imm (.junk _)
  | osl => exact .imm (.junk _)

theorem Sim.freeze (hs : Sim c s m a w ids) (b : Nat) (q : Option (List A)) (y z : A) (d : Nat) (hq : q = none ∨ ∃ ty cs, q = some cs ∧ m.getD b .dead = .box ty cs ∧ cs.any (hasOwn 4) = false) (hy : y = wk m 1 (.own b) ∨ y = .junk) (hy2 : z = wk m 1 (.omap b) ∨ z = .junk) :
  Sim c (s.map (frz b q y z d)) ((m.map (frzB b q y z d)).set b .dead) a w (ids.set b .dead) := by
 have mem : ∀ (k : Nat) r, (ids.set b .dead)[k]? = some (IdE.lv r) → k ≠ b ∧ ids[k]? = some (.lv r) := by
  intro k r h
  rw [List.getElem?_set] at h
  split at h
  ·split at h <;> cases h
  ·rename_i hne; exact ⟨fun e => hne e.symm, h⟩
 have hown : ∀ r, IdE.lv r ∈ ids.set b .dead → ∀ x, r.has x → x < w.heap.size ∧ (w.heap.size ≤ x ∨ ∃ (b : Nat) (p : Id), ids[b]? = some (.lv p) ∧ p.has x) := by
  intro r hr x hx
  obtain ⟨k, hk⟩ := List.getElem?_of_mem hr
  obtain ⟨_, e⟩ := mem k r hk
  exact ⟨(hs.freshX r (List.mem_of_getElem? e) x hx).2, .inr ⟨k, r, e, hx⟩⟩
 obtain ⟨hi1, hi2⟩ := hs.im_stays (w' := w) (ids' := ids.set b .dead) (Nat.le_refl _) (fun _ _ _ => rfl) hown
 have hZ : ∀ p, ids[b]? = some (.lv p) → ∀ x, p.has x → imOf c (ids.set b .dead) w x := by
  intro p hp x hx
  have hf := hs.freshX p (List.mem_of_getElem? hp) x hx
  refine .inr ⟨hf.1, hf.2, fun q hq hx' => ?_⟩
  obtain ⟨k, hk⟩ := List.getElem?_of_mem hq
  obtain ⟨e1, e2⟩ := mem k q hk
  exact e1 (hs.distinctX k b q p x e2 hp hx' hx)
 have hd : ∀ (b' : Nat) p, b' ≠ b → ids[b']? = some p → (ids.set b .dead)[b']? = some p := by
  intro b' p hne h
  rw [List.getElem?_set_ne (fun e => hne e.symm)]; exact h
 have hq' : ∀ cs o v, q = some cs → Rel ids (imOf c ids w) w (.ref b o) v → RelI (imOf c (ids.set b .dead) w) w (.bref cs o) v := by
  intro cs o v he hv
  rcases hq with h | ⟨ty, cs', h, hbx, hown'⟩
  ·rw [h] at he; cases he
  ·rw [h] at he; cases he
   obtain ⟨p, hid, rfl⟩ := hs.ref_at hv (by rw [hbx]; simp)
   obtain ⟨vs, h1, h2, h3, h4⟩ := hs.run_box hid hbx
   have := RelI.bref (im := imOf c (ids.set b .dead) w) (w := w) p.blk 0 o cs (fun j => vs.getD j undef) (hZ p hid _ (.inl rfl))
    (fun j hj => by have := h2 j (by omega); simpa [List.getD_eq_getElem?_getD, show j < vs.length by omega] using this)
    (fun j hj => by have := h3 _ (List.getElem_mem (show j < vs.length by omega)); simpa [List.getD_eq_getElem?_getD, show j < vs.length by omega] using this)
    (fun j hj => by
     have g1 : hasOwn 4 cs[j] = false := by
      have := List.any_eq_false.1 hown' _ (List.getElem_mem hj)
      simpa using this
     have g2 := hasOwn_rel 4 _ _ g1 (h4 j hj (by omega))
     have g3 := g2.mono hi1 (fun _ _ => rfl)
     simpa [List.getD_eq_getElem?_getD, show j < vs.length by omega] using g3)
   simpa using this
 have hy' : ∀ v, Rel ids (imOf c ids w) w (.own b) v → RelI (imOf c (ids.set b .dead) w) w y v := by
  intro v hv
  rcases hy with h | h
  ·rw [h]; exact own_imm hs hi1 hZ hv
  ·rw [h]; exact .junk _
 have hy2' : ∀ v, Rel ids (imOf c ids w) w (.omap b) v → RelI (imOf c (ids.set b .dead) w) w z v := by
  intro v hv
  rcases hy2 with h | h
  ·rw [h]; exact omap_imm hs hi1 hZ hv
  ·rw [h]; exact .junk _
 refine hs.goOn rfl rfl rfl (Nat.le_refl _) (fun _ _ _ => rfl) hown (fun vs h => by
  rcases List.mem_or_eq_of_mem_set h with h | h
  ·exact h
  ·cases h) ?_ (by simp) (by simp [hs.mlen]) ?_ ?_
 ·intro k k' r r' x e1 e2 x1 x2
  exact hs.distinctX k k' r r' x (mem k r e1).2 (mem k' r' e2).2 x1 x2
 ·intro k h h'
  rw [List.getElem_map]
  exact frz_rel hq' hi1 hd hy' hy2' d _ _ (hs.slots k (by simpa using h) h')
 ·intro k hk hk'
  simp only [List.length_set, List.length_map] at hk hk'
  rw [List.getElem_set, List.getElem_set]
  split
  ·exact rfl
  ·rename_i he
   rw [List.getElem_map]
   have hB := hs.blks k hk hk'
   cases hm : m[k] with
   | box ty cs =>
    rw [hm] at hB
    cases hp : ids[k] with
    | dead => rw [hp] at hB; exact hB.elim
    | stale => rw [hp] at hB; exact hB.elim
    | virt => rw [hp] at hB; exact hB.elim
    | gho vs => rw [hp] at hB; exact hB.elim
    | lv p =>
     rw [hp] at hB
     obtain ⟨vs, g1, g2, g3, g4⟩ := hB
     refine ⟨vs, g1, g2, by simpa using g3, ?_⟩
     intro j hj hj'
     have := g4 j (by simpa using hj) hj'
     rw [List.getElem_map]
     exact ⟨frz_rel hq' hi1 hd hy' hy2' d _ _ this.1, this.2⟩
   | dead => rw [hm] at hB; exact hB
   | gone => rw [hm] at hB; exact hB
   | ghost cs =>
    rw [hm] at hB
    cases hp : ids[k] with
    | dead => rw [hp] at hB; exact hB.elim
    | stale => rw [hp] at hB; exact hB.elim
    | virt => rw [hp] at hB; exact hB.elim
    | lv p => rw [hp] at hB; exact hB.elim
    | gho vs =>
     rw [hp] at hB
     refine ⟨by simpa using hB.1, fun j hj hj' => ?_⟩
     rw [List.getElem_map]
     exact frz_rel hq' hi1 hd hy' hy2' d _ _ (hB.2 j (by simpa using hj) hj')
   | row ty sz n row => rw [hm] at hB; exact BRel.reid (ids := []) (ids' := _) hi1 hi2 (fun _ _ h => by simp at h) (fun _ _ _ _ => rfl) (by cases h : ids[k] <;> rw [h] at hB <;> exact hB)
   | nest ty ety sz n ho le row => rw [hm] at hB; exact BRel.reid (ids := []) (ids' := _) hi1 hi2 (fun _ _ h => by simp at h) (fun _ _ _ _ => rfl) (by cases h : ids[k] <;> rw [h] at hB <;> exact hB)
   | mapb g n key val => rw [hm] at hB; exact BRel.reid (ids := []) (ids' := _) hi1 hi2 (fun _ _ h => by simp at h) (fun _ _ _ _ => rfl) (by cases h : ids[k] <;> rw [h] at hB <;> exact hB)
   | mapx g n key val => rw [hm] at hB; exact BRel.reid (ids := []) (ids' := _) hi1 hi2 (fun _ _ h => by simp at h) (fun _ _ _ _ => rfl) (by cases h : ids[k] <;> rw [h] at hB <;> exact hB)
   | mgrid ty g sh n hi2 cs ini has val =>
    rw [hm] at hB
    cases hp : ids[k] with
    | dead => rw [hp] at hB; exact hB.elim
    | stale => rw [hp] at hB; exact hB.elim
    | virt => rw [hp] at hB; exact hB
    | gho vs => rw [hp] at hB; exact hB.elim
    | lv p =>
     rw [hp] at hB
     exact grid_map (frz b q y z d) (fun _ _ => rfl) (fun _ _ h => h.mono hi1 (fun _ _ => rfl)) (fun x v h => frz_rel hq' hi1 hd hy' hy2' d x v h) hB
   | rowE ty sz n Φ => rw [hm] at hB; exact BRel.reid (ids := []) (ids' := _) hi1 hi2 (fun _ _ h => by simp at h) (fun _ _ _ _ => rfl) (by cases h : ids[k] <;> rw [h] at hB <;> exact hB)
   | mit g n key val se => rw [hm] at hB; exact BRel.reid (ids := []) (ids' := _) hi1 hi2 (fun _ _ h => by simp at h) (fun _ _ _ _ => rfl) (by cases h : ids[k] <;> rw [h] at hB <;> exact hB)

def frzF (b : Nat) (s : List A) (m : List Blk) (K : List A → List Blk → Prop) : Prop :=
 match m.getD b .dead with
 | .row _ sz n row => fd.fdl 4 (s.map (frz b none (.sl n sz row) .junk 4)) fun s' => fbs ((m.map (frzB b none (.sl n sz row) .junk 4)).set b .dead) fun m' => K s' m'
 | .nest _ _ sz n hole len row => match hole with
  | none => fd.fdl 4 (s.map (frz b none (.sl n 1 fun i => [.sl (len i) sz (row i)]) .junk 4)) fun s' => fbs ((m.map (frzB b none (.sl n 1 fun i => [.sl (len i) sz (row i)]) .junk 4)).set b .dead) fun m' => K s' m'
  | some _ => False
 | .mapb g n key val => fd.fdl 4 (s.map (frz b none .junk (.mv g n key val) 4)) fun s' => fbs ((m.map (frzB b none .junk (.mv g n key val) 4)).set b .dead) fun m' => K s' m'
 | .box _ cs => match cs.any (hasOwn 4) with
  | false => fd.fdl 4 (s.map (frz b (some cs) .junk .junk 4)) fun s' => fbs ((m.map (frzB b (some cs) .junk .junk 4)).set b .dead) fun m' => K s' m'
  | true => False
 | _ => False
theorem frzF_sound (hs : Sim c s m a w ids) {b : Nat} {K : List A → List Blk → Prop} (h : frzF b s m K) : ∃ s' m' ids', K s' m' ∧ Sim c s' m' a w ids' := by
 unfold frzF at h
 split at h
 ·rename_i ty sz n row hb
  rw [fdl_eq, fbs_eq] at h
  exact ⟨_, _, _, h, hs.freeze b none _ _ 4 (.inl rfl) (.inl (by simp only [wk, hb])) (.inr rfl)⟩
 ·rename_i ty ety sz n hole len row hb
  split at h
  ·rw [fdl_eq, fbs_eq] at h
   exact ⟨_, _, _, h, hs.freeze b none _ _ 4 (.inl rfl) (.inl (by simp only [wk, hb])) (.inr rfl)⟩
  ·exact h.elim
 ·rename_i g n key val hb
  rw [fdl_eq, fbs_eq] at h
  exact ⟨_, _, _, h, hs.freeze b none _ _ 4 (.inl rfl) (.inr rfl) (.inl (by simp only [wk, hb]))⟩
 ·rename_i ty cs hb
  split at h
  ·rename_i hown
   rw [fdl_eq, fbs_eq] at h
   exact ⟨_, _, _, h, hs.freeze b (some cs) _ _ 4 (.inr ⟨ty, cs, rfl, hb, hown⟩) (.inr rfl) (.inr rfl)⟩
  ·exact h.elim
 ·exact h.elim
def frzMany : List Nat → List A → List Blk → (List A → List Blk → Prop) → Prop
 | [], s, m, K => K s m
 | b :: bs, s, m, K => frzF b s m fun s' m' => frzMany bs s' m' K
theorem frzMany_sound : ∀ (bs : List Nat) {s : List A} {m : List Blk} {ids : Ids} {K : List A → List Blk → Prop}, Sim c s m a w ids → frzMany bs s m K → ∃ s' m' ids', K s' m' ∧ Sim c s' m' a w ids'
 | [], s, m, ids, K, hs, h => ⟨s, m, ids, h, hs⟩
 | b :: bs, s, m, ids, K, hs, h => by
  obtain ⟨s', m', ids', h', hs'⟩ := frzF_sound hs h
  exact frzMany_sound bs hs' h'
end
end Go.Proofs.YtnkbkfjgbejhfaaGreat.Am
namespace Go.Proofs.YtnkbkfjgbejhfaaGreat.Am
variable [Inhabited DRT]
open Go.RowKit (Below)

/-! ### Changes of a state at places that are kept for them; names that are stale -/
section
variable {c : Ctx} {s : List A} {m : List Blk} {a : Act} {w w' : World} {ids ids' : Ids} {P : Program} {im im' : Nat → Prop} {tt : TT} {G : GInv}
variable {next : Act → World → Prop} {Q : Exit → Act → World → Prop} {o : Oper}

theorem Rel.restale {b : Nat} (hi : ∀ b, im b → im' b) (hw : ∀ b, im b → w'.heap[b]? = w.heap[b]?) (hd : ∀ (b' : Nat) p, b' ≠ b → ids[b']? = some p → p ≠ .dead → ∃ q, ids'[b']? = some q ∧ likeE p q)
  (hb : ids'[b]? = some .stale) {x : A} {v : Value} (h : Rel ids im w x v) : Rel ids' im' w' x v := by
 have st : ∀ b1, b1 ≠ b → ids[b1]? = some .stale → ids'[b1]? = some .stale := fun b1 e h => by
  obtain ⟨q, h1, h2⟩ := hd _ _ e h (by simp)
  have h2 : q = .stale := h2
  rw [h1, h2]
 induction h with
 | imm h => exact .imm (h.mono hi hw)
 | ref b1 off p h =>
  by_cases e : b1 = b
  ·subst e; exact .refS _ _ _ _ hb
  ·obtain ⟨q, h1, p', rfl, h2⟩ := hd _ _ e h (by simp)
   rw [← h2.1]; exact .ref _ off p' h1
 | oref b1 i off p h =>
  by_cases e : b1 = b
  ·subst e; exact .orefS _ _ _ _ _ hb
  ·obtain ⟨q, h1, p', rfl, h2⟩ := hd _ _ e h (by simp)
   rw [← h2.1, ← h2.2.2.2.1]; exact .oref _ i off p' h1
 | own0 b1 h =>
  by_cases e : b1 = b
  ·subst e; exact .ownS _ _ _ _ hb
  ·obtain ⟨q, h1, h2⟩ := hd _ _ e h (by simp)
   have h2 : q = .virt := h2
   subst h2
   exact .own0 _ h1
 | own b1 cap p h hn hm =>
  by_cases e : b1 = b
  ·subst e; exact .ownS _ _ _ _ hb
  ·obtain ⟨q, h1, p', rfl, h2⟩ := hd _ _ e h (by simp)
   rw [← h2.1, ← h2.2.2.1]
   exact .own _ cap p' h1 (by rw [h2.2.2.1]; exact hn) (by rw [h2.2.1, h2.2.2.2.1]; exact hm)
 | ownS b1 x n cap h =>
  by_cases e : b1 = b
  ·subst e; exact .ownS _ _ _ _ hb
  ·exact .ownS _ _ _ _ (st _ e h)
 | refS b1 off x y h =>
  by_cases e : b1 = b
  ·subst e; exact .refS _ _ _ _ hb
  ·exact .refS _ _ _ _ (st _ e h)
 | orefS b1 i off x y h =>
  by_cases e : b1 = b
  ·subst e; exact .orefS _ _ _ _ _ hb
  ·exact .orefS _ _ _ _ _ (st _ e h)
 | omapS b1 x h =>
  by_cases e : b1 = b
  ·subst e; exact .omapS _ _ hb
  ·exact .omapS _ _ (st _ e h)
 | omap b1 p h =>
  by_cases e : b1 = b
  ·subst e; exact .omapS _ _ hb
  ·obtain ⟨q, h1, p', rfl, h2⟩ := hd _ _ e h (by simp)
   rw [← h2.1]; exact .omap _ p' h1
 | ent b1 k p n h hn =>
  by_cases e : b1 = b
  ·subst e; exact .entS _ _ _ hb
  ·obtain ⟨q, h1, p', rfl, h2⟩ := hd _ _ e h (by simp)
   exact .ent _ _ p' n h1 (h2.2.2.2.2 _ _ hn)
 | entS b1 k n h =>
  by_cases e : b1 = b
  ·subst e; exact .entS _ _ _ hb
  ·exact .entS _ _ _ (st _ e h)
 | osl b1 k cap x p h hx =>
  by_cases e : b1 = b
  ·subst e; exact .oslS _ _ _ _ _ hb
  ·obtain ⟨q, h1, p', rfl, h2⟩ := hd _ _ e h (by simp)
   rw [← h2.1, ← h2.2.2.1]; exact .osl _ k cap x p' h1 (by rw [h2.2.2.1, h2.2.2.2.1]; exact hx)
 | osl0 b1 k h =>
  by_cases e : b1 = b
  ·subst e; exact .oslS _ _ _ _ _ hb
  ·obtain ⟨q, h1, h2⟩ := hd _ _ e h (by simp)
   have h2 : q = .virt := h2
   subst h2
   exact .osl0 _ _ h1
 | oslS b1 k x n cap h =>
  by_cases e : b1 = b
  ·subst e; exact .oslS _ _ _ _ _ hb
  ·exact .oslS _ _ _ _ _ (st _ e h)
 | agg cs vs hl ho hr ih => exact .agg cs vs hl ho ih
 | tup cs vs hl hr ih => exact .tup cs vs hl ih
 | fn f cs vs hl hr ih => exact .fn f cs vs hl ih

theorem BRel.restale {b : Nat} (hi : ∀ b, im b → im' b) (hw : ∀ b, im b → w'.heap[b]? = w.heap[b]?) (hd : ∀ (b' : Nat) p, b' ≠ b → ids[b']? = some p → p ≠ .dead → ∃ q, ids'[b']? = some q ∧ likeE p q)
  (hb : ids'[b]? = some .stale) {x : Blk} {p : IdE} (hp : ∀ q, p = .lv q → ∀ k, q.has k → w'.heap[k]? = w.heap[k]?) (h : BRel ids im w x p) : BRel ids' im' w' x p := by
 cases x with
 | box ty cs =>
  cases p with
  | dead => exact h
  | stale => exact h
  | virt => exact h
  | gho vs => exact h
  | lv q =>
   obtain ⟨vs, h1, h2, h3, h4⟩ := h
   exact ⟨vs, by rw [hp _ rfl _ (.inl rfl)]; exact h1, h2, h3, fun j h h' => ⟨(h4 j h h').1.restale hi hw hd hb, (h4 j h h').2⟩⟩
 | dead => exact h
 | gone => exact h
 | row ty sz n row => have h := BRel.mono (ids := ids) (ids' := ids) hi hw (fun _ _ h _ => h) hp h; cases p <;> exact h
 | nest ty ety sz n ho le row => have h := BRel.mono (ids := ids) (ids' := ids) hi hw (fun _ _ h _ => h) hp h; cases p <;> exact h
 | mapb g n k v => have h := BRel.mono (ids := ids) (ids' := ids) hi hw (fun _ _ h _ => h) hp h; cases p <;> exact h
 | mapx g n k v => have h := BRel.mono (ids := ids) (ids' := ids) hi hw (fun _ _ h _ => h) hp h; cases p <;> exact h
 | mit g n k v se => have h := BRel.mono (ids := ids) (ids' := ids) hi hw (fun _ _ h _ => h) hp h; cases p <;> exact h
 | rowE ty sz n Φ => have h := BRel.mono (ids := ids) (ids' := ids) hi hw (fun _ _ h _ => h) hp h; cases p <;> exact h
 | mgrid ty g sh n hi2 cs ini has val =>
  cases p with
  | dead => exact h
  | stale => exact h
  | virt => exact h
  | gho vs => exact h
  | lv q => exact grid_same (hp _ rfl) (fun _ _ h => h.mono hi hw) (fun _ _ h => h.restale hi hw hd hb) h
 | ghost cs =>
  cases p with
  | dead => exact h
  | stale => exact h
  | virt => exact h
  | lv q => exact h
  | gho vs => exact ⟨h.1, fun j h1 h2 => (h.2 j h1 h2).restale hi hw hd hb⟩

/-- Block b is gone; what it was, changed, lies at a place that was kept. -/
theorem Sim.regrow (hs : Sim c s m a w ids) (b aid : Nat) (hb : b < m.length) (hbm : m[b]? ≠ some .dead) (hdead : m[aid]? = some .dead) (q : IdE) (x : Blk)
  (hos : w'.os = w.os) (htp : w'.tape = w.tape) (hou : w'.output = w.output) (hsz : w.heap.size ≤ w'.heap.size)
  (hbl : ∀ k, k < w.heap.size → (∀ p, ids[b]? = some (.lv p) → ¬ p.has k) → w'.heap[k]? = w.heap[k]?)
  (hqg : ∀ vs, q ≠ .gho vs)
  (hq : ∀ p', q = .lv p' → ∀ x, p'.has x → x < w'.heap.size ∧ (w.heap.size ≤ x ∨ ∃ p, ids[b]? = some (.lv p) ∧ p.has x))
  (hx : (∀ u v, RelI (imOf c ids w) w u v → RelI (imOf c ((ids.set b .stale).set aid q) w') w' u v) → BRel ((ids.set b .stale).set aid q) (imOf c ((ids.set b .stale).set aid q) w') w' x q)
  (hdr : drLe w.drawn w'.drawn := by exact drLe.refl _) :
  Sim c s ((m.set b .gone).set aid x) a w' ((ids.set b .stale).set aid q) := by
 have hbi : b < ids.length := by rw [hs.mlen]; exact hb
 obtain ⟨ham, hmd⟩ := List.getElem?_eq_some_iff.1 hdead
 have hai : aid < ids.length := by rw [hs.mlen]; exact ham
 have hda : ids[aid]? = some .dead := by
  have := hs.blks aid ham hai
  rw [hmd] at this
  rw [List.getElem?_eq_getElem hai, show ids[aid] = .dead from this]
 have hab : aid ≠ b := fun e => by subst e; exact hbm hdead
 have get_old : ∀ k, k ≠ aid → k ≠ b → ((ids.set b .stale).set aid q)[k]? = ids[k]? := by
  intro k hk hne
  rw [List.getElem?_set_ne (fun e => hk e.symm), List.getElem?_set_ne (fun e => hne e.symm)]
 have get_b : ((ids.set b .stale).set aid q)[b]? = some .stale := by rw [List.getElem?_set_ne hab, List.getElem?_set_self hbi]
 have get_q : ((ids.set b .stale).set aid q)[aid]? = some q := by rw [List.getElem?_set_self (by simpa using hai)]
 have cases_id : ∀ (k : Nat) (r : Id), ((ids.set b .stale).set aid q)[k]? = some (.lv r) → (k = aid ∧ q = .lv r) ∨ (k ≠ b ∧ k ≠ aid ∧ ids[k]? = some (.lv r)) := by
  intro k r h
  by_cases hka : k = aid
  ·subst hka; rw [get_q] at h; exact .inl ⟨rfl, Option.some.inj h⟩
  ·by_cases hkb : k = b
   ·subst hkb; rw [get_b] at h; cases h
   ·rw [get_old k hka hkb] at h; exact .inr ⟨hkb, hka, h⟩
 have hown : ∀ r, IdE.lv r ∈ ((ids.set b .stale).set aid q) → ∀ y, r.has y → y < w'.heap.size ∧ (w.heap.size ≤ y ∨ ∃ (b : Nat) (p : Id), ids[b]? = some (.lv p) ∧ p.has y) := by
  intro r hr y hy
  obtain ⟨k, hk⟩ := List.getElem?_of_mem hr
  rcases cases_id k r hk with ⟨_, e⟩ | ⟨_, _, e⟩
  ·obtain ⟨h1, h2⟩ := hq r e y hy
   exact ⟨h1, h2.imp id fun ⟨p, h3, h4⟩ => ⟨b, p, h3, h4⟩⟩
  ·exact ⟨Nat.lt_of_lt_of_le (hs.freshX r (List.mem_of_getElem? e) y hy).2 hsz, .inr ⟨k, r, e, hy⟩⟩
 have hbl' : ∀ k, k < w.heap.size → (∀ (b : Nat) (p : Id), ids[b]? = some (.lv p) → ¬ p.has k) → w'.heap[k]? = w.heap[k]? := fun k hk h => hbl k hk (fun p hp => h b p hp)
 obtain ⟨hi1, hi2⟩ := hs.im_stays (w' := w') (ids' := (ids.set b .stale).set aid q) hsz hbl' hown
 have hd : ∀ (b' : Nat) r, b' ≠ b → ids[b']? = some r → r ≠ .dead → ∃ q', ((ids.set b .stale).set aid q)[b']? = some q' ∧ likeE r q' := by
  intro b' r hbb hr hrd
  exact ⟨r, by rw [get_old b' (fun e => by subst e; rw [hda] at hr; exact hrd (Option.some.inj hr).symm) hbb]; exact hr, likeE_rfl r⟩
 refine hs.goOn (hdr := hdr) hos htp hou hsz hbl' hown (fun vs h => ?_) ?_ rfl (by simp [hs.mlen]) (fun i h h' => (hs.slots i h h').restale hi1 hi2 hd get_b) ?_
 ·rcases List.mem_or_eq_of_mem_set h with h | h
  ·rcases List.mem_or_eq_of_mem_set h with h | h
   ·exact h
   ·cases h
  ·exact absurd h.symm (hqg vs)
 ·intro k k' r r' y e1 e2 x1 x2
  rcases cases_id k r e1 with ⟨rfl, e⟩ | ⟨ne, _, e⟩ <;> rcases cases_id k' r' e2 with ⟨rfl, e'⟩ | ⟨ne', _, e'⟩
  ·rfl
  ·rcases (hq r e y x1).2 with h | ⟨p, h1, h2⟩
   ·have := (hs.freshX r' (List.mem_of_getElem? e') y x2).2; omega
   ·exact absurd (hs.distinctX _ _ p r' y h1 e' h2 x2).symm ne'
  ·rcases (hq r' e' y x2).2 with h | ⟨p, h1, h2⟩
   ·have := (hs.freshX r (List.mem_of_getElem? e) y x1).2; omega
   ·exact absurd (hs.distinctX _ _ r p y e h1 x1 h2) ne
  ·exact hs.distinctX k k' r r' y e e' x1 x2
 ·intro k hk hk'
  simp only [List.length_set] at hk
  have hat : ((ids.set b .stale).set aid q)[k]? = some ((ids.set b .stale).set aid q)[k] := List.getElem?_eq_getElem hk'
  rw [List.getElem_set]
  split
  ·rename_i he; subst he
   rw [get_q] at hat
   rw [← Option.some.inj hat]
   exact hx (fun u v h => h.mono hi1 hi2)
  ·rename_i hea
   rw [List.getElem_set]
   split
   ·rename_i he; subst he
    rw [get_b] at hat
    rw [← Option.some.inj hat]; exact rfl
   ·rename_i he
    have hki : k < ids.length := by rw [hs.mlen]; exact hk
    rw [get_old k (fun e => hea e.symm) (fun e => he e.symm), List.getElem?_eq_getElem hki] at hat
    rw [← Option.some.inj hat]
    refine (hs.blks k hk hki).restale hi1 hi2 hd get_b ?_
    intro q' hq' y hy
    have hpi : ids[k]? = some (.lv q') := by rw [List.getElem?_eq_getElem hki, hq']
    refine hbl y (hs.freshX q' (List.mem_of_getElem? hpi) y hy).2 (fun p0 hp0 e => ?_)
    exact he (hs.distinctX b k p0 q' y hp0 hpi e hy)
/-- A nest from which an inner row is taken. -/
theorem Sim.takeAt (hs : Sim c s m a w ids) {b i : Nat} {aid : Nat} (hdead : m[aid]? = some .dead) {ty ety : TypeId} {sz n : Nat} {len : Nat → Nat} {row : Nat → Nat → List A} (hb : m.getD b .dead = .nest ty ety sz n none len row) (hi : i < n) :
  ∃ p vs ids' v, ids[b]? = some (.lv p) ∧ w.heap[p.blk]? = some (.cells vs ty (0, 0)) ∧ vs[i]? = some v ∧ p.sz = 1 ∧
   Sim c s ((m.set b (.nest ty ety sz n (some i) len row)).set aid (.row ety sz (len i) (row i))) a w ids' ∧ Rel ids' (imOf c ids' w) w (.own aid) v := by
 obtain ⟨p, hid, hB, hbm, hbi⟩ := nest_at hs hb (by omega)
 obtain ⟨g1, g2, g3, vs, h1, h2, h3, kb, h4⟩ := hB
 have hivs : i < vs.size := by omega
 obtain ⟨k1, k2, k3⟩ := h4 i hi (by simp) hivs
 -- the new names
 let p' : Id := ⟨p.blk, p.k, p.n, p.sz, fun x => p.kid x ∧ kb i ≠ some x, p.hist⟩
 have hsub : ∀ x, p'.has x → p.has x := by
  rintro x (h | h)
  ·exact .inl h
  ·exact .inr h.1
 have hq : ∃ q : IdE, (∀ q', q = .lv q' → ∀ x, q'.has x → kb i = some x) ∧ (∀ im w', (∀ x, kb i = some x → w'.heap[x]? = w.heap[x]?) → (∀ u v, RelI (imOf c ids w) w u v → RelI im w' u v) → ∀ ids', BRel ids' im w' (.row ety sz (len i) (row i)) q) ∧
   (∀ ids' im w' k, ids'[k]? = some q → Rel ids' im w' (.own k) vs[i]) := by
  rcases k1 with ⟨e1, e2, e3⟩ | ⟨q, cap, us, e1, e2, e3, e4, e5, e6, e7, e8⟩
  ·exact ⟨.virt, (fun q' h => by cases h), (fun _ _ _ _ _ => e2), (fun ids' im w' k h => by rw [e1]; exact .own0 k h)⟩
  ·refine ⟨.lv (mkId q us.size (len i) sz), (fun q' h x hx => by cases h; rw [mkId_has hx]; exact e2), ?_, ?_⟩
   ·intro im w' hk hm ids'
    refine ⟨rfl, rfl, us, by show w'.heap[q]? = _; rw [hk q e2]; exact e3, rfl, ?_, e7, fun i' j hi' h h' => ⟨hm _ _ (e8 i' j hi' h h').1, (e8 i' j hi' h h').2⟩⟩
    show len i * sz ≤ us.size
    rw [e4]; exact Nat.mul_le_mul_right _ e5
   ·intro ids' im w' k h
    rw [e1]
    exact .own k cap (mkId q us.size (len i) sz) h ⟨e5, e6⟩ e4.symm
 obtain ⟨q, hq1, hq2, hq3⟩ := hq
 obtain ⟨ham, hmd⟩ := List.getElem?_eq_some_iff.1 hdead
 have hai : aid < ids.length := by rw [hs.mlen]; exact ham
 have hda : ids[aid]? = some .dead := by
  have := hs.blks aid ham hai
  rw [hmd] at this
  rw [List.getElem?_eq_getElem hai, show ids[aid] = .dead from this]
 have hab : aid ≠ b := fun e => by subst e; rw [hda] at hid; cases hid
 let ids' := (ids.set b (.lv p')).set aid q
 have hl' : ids'.length = ids.length := by simp [ids']
 have get_old : ∀ k, k ≠ aid → k ≠ b → ids'[k]? = ids[k]? := by
  intro k hk hne
  simp only [ids']
  rw [List.getElem?_set_ne (fun e => hk e.symm), List.getElem?_set_ne (fun e => hne e.symm)]
 have get_b : ids'[b]? = some (.lv p') := by
  simp only [ids']
  rw [List.getElem?_set_ne hab, List.getElem?_set_self hbi]
 have get_q : ids'[aid]? = some q := by
  simp only [ids']
  rw [List.getElem?_set_self (by simpa using hai)]
 have cases_id : ∀ (k : Nat) (r : Id), ids'[k]? = some (.lv r) → (k = b ∧ r = p') ∨ (k = aid ∧ q = .lv r) ∨ (k ≠ b ∧ k ≠ aid ∧ ids[k]? = some (.lv r)) := by
  intro k r h
  by_cases hka : k = aid
  ·subst hka; rw [get_q] at h; exact .inr (.inl ⟨rfl, Option.some.inj h⟩)
  ·by_cases hkb : k = b
   ·subst hkb; rw [get_b] at h; cases h; exact .inl ⟨rfl, rfl⟩
   ·rw [get_old k hka hkb] at h; exact .inr (.inr ⟨hkb, hka, h⟩)
 have hown : ∀ r, IdE.lv r ∈ ids' → ∀ x, r.has x → x < w.heap.size ∧ (w.heap.size ≤ x ∨ ∃ (b : Nat) (p : Id), ids[b]? = some (.lv p) ∧ p.has x) := by
  intro r hr x hx
  obtain ⟨k, hk⟩ := List.getElem?_of_mem hr
  rcases cases_id k r hk with ⟨_, rfl⟩ | ⟨_, e⟩ | ⟨_, _, e⟩
  ·exact ⟨(hs.freshX p (List.mem_of_getElem? hid) x (hsub x hx)).2, .inr ⟨b, p, hid, hsub x hx⟩⟩
  ·have hx' : p.has x := .inr (k2 x (hq1 r e x hx))
   exact ⟨(hs.freshX p (List.mem_of_getElem? hid) x hx').2, .inr ⟨b, p, hid, hx'⟩⟩
  ·exact ⟨(hs.freshX r (List.mem_of_getElem? e) x hx).2, .inr ⟨k, r, e, hx⟩⟩
 obtain ⟨hi1, hi2⟩ := hs.im_stays (w' := w) (ids' := ids') (Nat.le_refl _) (fun _ _ _ => rfl) hown
 have hd : ∀ (b' : Nat) r, ids[b']? = some r → r ≠ .dead → ∃ q, ids'[b']? = some q ∧ likeE r q := by
  intro b' r hr hrd
  by_cases hbb : b' = b
  ·subst hbb; rw [hid] at hr; cases hr
   exact ⟨_, get_b, p', rfl, rfl, rfl, rfl, rfl, fun _ _ h => h⟩
  ·exact ⟨r, by rw [get_old b' (fun e => by subst e; rw [hda] at hr; exact hrd (Option.some.inj hr).symm) hbb]; exact hr, likeE_rfl r⟩
 have hmono : ∀ u v, RelI (imOf c ids w) w u v → RelI (imOf c ids' w) w u v := fun u v h => h.mono hi1 hi2
 refine ⟨p, vs, ids', vs[i], hid, h1, Array.getElem?_eq_getElem hivs, g1, ?_, hq3 _ _ _ _ get_q⟩
 have hgq : ∀ vs, q ≠ .gho vs := fun vs e => by
  have := hq2 (imOf c ids w) w (fun _ _ => rfl) (fun _ _ h => h) []
  rw [e] at this; exact this
 refine hs.goOn rfl rfl rfl (Nat.le_refl _) (fun _ _ _ => rfl) hown (fun vs h => by
  simp only [ids'] at h
  rcases List.mem_or_eq_of_mem_set h with h | h
  ·rcases List.mem_or_eq_of_mem_set h with h | h
   ·exact h
   ·cases h
  ·exact absurd h.symm (hgq vs)) ?_ rfl (by simp [ids', hs.mlen]) (fun i h h' => (hs.slots i h h').reid hi1 hi2 hd) ?_
 ·intro k k' r r' x e1 e2 x1 x2
  have inb : ∀ y, q = .lv r → r.has y → p.kid y := fun y e hy => k2 y (hq1 r e y hy)
  rcases cases_id k r e1 with ⟨rfl, rfl⟩ | ⟨rfl, e⟩ | ⟨ne, _, e⟩ <;> rcases cases_id k' r' e2 with ⟨rfl, rfl⟩ | ⟨rfl, e'⟩ | ⟨ne', _, e'⟩
  ·rfl
  ·exfalso
   have hx := hq1 r' e' x x2
   rcases x1 with h | h
   ·exact g3 (by rw [← h]; exact k2 x hx)
   ·exact h.2 hx
  ·exact absurd (hs.distinctX _ _ p r' x hid e' (hsub x x1) x2).symm ne'
  ·exfalso
   have hx := hq1 r e x x1
   rcases x2 with h | h
   ·exact g3 (by rw [← h]; exact k2 x hx)
   ·exact h.2 hx
  ·rfl
  ·exact absurd (hs.distinctX _ _ p r' x hid e' (.inr (k2 x (hq1 r e x x1))) x2).symm ne'
  ·exact absurd (hs.distinctX _ _ r p x e hid x1 (hsub x x2)) ne
  ·exact absurd (hs.distinctX _ _ r p x e hid x1 (.inr (k2 x (hq1 r' e' x x2)))) ne
  ·exact hs.distinctX k k' r r' x e e' x1 x2
 ·intro k hk hk'
  simp only [List.length_set] at hk
  have hat : ids'[k]? = some ids'[k] := List.getElem?_eq_getElem hk'
  rw [List.getElem_set]
  split
  ·rename_i he; subst he
   rw [get_q] at hat
   rw [← Option.some.inj hat]
   exact hq2 _ _ (fun _ _ => rfl) hmono _
  ·rename_i hea
   rw [List.getElem_set]
   split
   ·rename_i he; subst he
    rw [get_b] at hat
    rw [← Option.some.inj hat]
    refine ⟨g1, g2, (fun h => g3 h.1), vs, h1, h2, h3, kb, ?_⟩
    intro j hj hhole hjv
    obtain ⟨j1, j2, j3⟩ := h4 j hj (by simp) hjv
    have hji : j ≠ i := fun e => hhole (by rw [e])
    refine ⟨j1.mono hi1 hi2 (fun _ _ => rfl), fun x hx => ⟨j2 x hx, fun e => ?_⟩, fun j' hj' _ e1 e2 => j3 j' hj' (by simp) e1 e2⟩
    exact hji (k3 j hj (by simp) (by rw [hx, e]) (by rw [e]; simp))
   ·rename_i he
    have hki : k < ids.length := by rw [hs.mlen]; exact hk
    rw [get_old k (fun e => hea e.symm) (fun e => he e.symm), List.getElem?_eq_getElem hki] at hat
    rw [← Option.some.inj hat]
    exact (hs.blks k hk hki).reid hi1 hi2 hd (fun _ _ _ _ => rfl)
/-- An inner row is put back. -/
theorem Sim.putStale (hs : Sim c s m a w ids) {b b' i : Nat} {ty ety : TypeId} {sz n n' : Nat} {len : Nat → Nat} {row : Nat → Nat → List A} {row' : Nat → List A} (hb : m.getD b .dead = .nest ty ety sz n (some i) len row)
  (hb' : m.getD b' .dead = .row ety sz n' row') (hne : b ≠ b') (hi : i < n) {v : Value} (hv : Rel ids (imOf c ids w) w (.own b') v) :
  ∃ p vs ids', ids[b]? = some (.lv p) ∧ w.heap[p.blk]? = some (.cells vs ty (0, 0)) ∧ i < vs.size ∧ p.sz = 1 ∧
   Sim c s ((m.set b (.nest ty ety sz n none (updN len i n') (updN row i row'))).set b' .gone) a (w.setRow p.blk (vs.setIfInBounds i v)) ids' := by
 obtain ⟨p, hid, hB, hbm, hbi⟩ := nest_at hs hb (by omega)
 obtain ⟨g1, g2, g3, vs, h1, h2, h3, kb, h4⟩ := hB
 have hivs : i < vs.size := by omega
 obtain ⟨hbm', hm'⟩ := getD_some (by simp) hb'
 have hbi' : b' < ids.length := by rw [hs.mlen]; exact hbm'
 let w' := w.setRow p.blk (vs.setIfInBounds i v)
 have hsz : w'.heap.size = w.heap.size := by simp [w', World.setRow]
 -- the inner block's name
 have hx : ∃ x : Option Nat, (∀ y, x = some y → ∃ q, ids[b']? = some (.lv q) ∧ q.blk = y) ∧
   (∀ im w', (∀ y, x = some y → w'.heap[y]? = w.heap[y]?) → (∀ u v, RelI (imOf c ids w) w u v → RelI im w' u v) → Inner im w' ety sz n' row' v x) := by
  rcases own_len hs hv hb' with ⟨e1, e2, e3⟩ | ⟨q, cap, e1, e2, e3, e4, e5, e6⟩
  ·exact ⟨none, (fun y h => by cases h), fun _ _ _ _ => .inl ⟨e2, e1, rfl⟩⟩
  ·have hB' := hs.blks b' hbm' hbi'
   rw [List.getElem?_eq_getElem hbi'] at e1
   rw [hm', Option.some.inj e1] at hB'
   obtain ⟨q1, q2, us, q3, q4, q5, q6, q7⟩ := hB'
   refine ⟨some q.blk, (fun y h => by cases h; exact ⟨q, by rw [List.getElem?_eq_getElem hbi']; exact e1, rfl⟩), fun im w' hk hm => .inr ⟨q.blk, cap, us, e6, rfl, by rw [hk _ rfl]; exact q3, by rw [q4, e3], e2.1, e2.2, q6, fun i' j hi' h h' => ⟨hm _ _ (q7 i' j hi' h h').1, (q7 i' j hi' h h').2⟩⟩⟩
 obtain ⟨x, hx1, hx2⟩ := hx
 let p' : Id := ⟨p.blk, p.k, p.n, p.sz, fun y => p.kid y ∨ x = some y, p.hist⟩
 have hsub : ∀ y, p'.has y → p.has y ∨ x = some y := by
  rintro y (h | h | h)
  ·exact .inl (.inl h)
  ·exact .inl (.inr h)
  ·exact .inr h
 let ids' := (ids.set b (.lv p')).set b' .stale
 have hl' : ids'.length = ids.length := by simp [ids']
 have get_old : ∀ k, k ≠ b → k ≠ b' → ids'[k]? = ids[k]? := by
  intro k h1 h2
  simp only [ids']
  rw [List.getElem?_set_ne (fun e => h2 e.symm), List.getElem?_set_ne (fun e => h1 e.symm)]
 have get_b : ids'[b]? = some (.lv p') := by
  simp only [ids']
  rw [List.getElem?_set_ne (fun e => hne e.symm), List.getElem?_set_self hbi]
 have get_b' : ids'[b']? = some .stale := by
  simp only [ids']
  rw [List.getElem?_set_self (by simpa using hbi')]
 have cases_id : ∀ (k : Nat) (r : Id), ids'[k]? = some (.lv r) → (k = b ∧ r = p') ∨ (k ≠ b ∧ k ≠ b' ∧ ids[k]? = some (.lv r)) := by
  intro k r h
  by_cases hkb : k = b
  ·subst hkb; rw [get_b] at h; cases h; exact .inl ⟨rfl, rfl⟩
  ·by_cases hkb' : k = b'
   ·subst hkb'; rw [get_b'] at h; cases h
   ·rw [get_old k hkb hkb'] at h; exact .inr ⟨hkb, hkb', h⟩
 have hown : ∀ r, IdE.lv r ∈ ids' → ∀ y, r.has y → y < w'.heap.size ∧ (w.heap.size ≤ y ∨ ∃ (b : Nat) (p : Id), ids[b]? = some (.lv p) ∧ p.has y) := by
  intro r hr y hy
  rw [hsz]
  obtain ⟨k, hk⟩ := List.getElem?_of_mem hr
  rcases cases_id k r hk with ⟨_, rfl⟩ | ⟨_, _, e⟩
  ·rcases hsub y hy with h | h
   ·exact ⟨(hs.freshX p (List.mem_of_getElem? hid) y h).2, .inr ⟨b, p, hid, h⟩⟩
   ·obtain ⟨q, q1, q2⟩ := hx1 y h
    have : q.has y := .inl q2.symm
    exact ⟨(hs.freshX q (List.mem_of_getElem? q1) y this).2, .inr ⟨b', q, q1, this⟩⟩
  ·exact ⟨(hs.freshX r (List.mem_of_getElem? e) y hy).2, .inr ⟨k, r, e, hy⟩⟩
 have hbl : ∀ k, k < w.heap.size → (∀ (b : Nat) (p : Id), ids[b]? = some (.lv p) → ¬ p.has k) → w'.heap[k]? = w.heap[k]? := by
  intro k _ hk
  exact setRow_other w p.blk k _ (fun e => hk b p hid (.inl e))
 obtain ⟨hi1, hi2⟩ := hs.im_stays (w' := w') (ids' := ids') (by rw [hsz]; exact Nat.le_refl _) hbl hown
 have hd : ∀ (k : Nat) r, k ≠ b' → ids[k]? = some r → r ≠ .dead → ∃ q, ids'[k]? = some q ∧ likeE r q := by
  intro k r hk hr _
  by_cases hbb : k = b
  ·subst hbb; rw [hid] at hr; cases hr
   exact ⟨_, get_b, p', rfl, rfl, rfl, rfl, rfl, fun _ _ h => h⟩
  ·exact ⟨r, by rw [get_old k hbb hk]; exact hr, likeE_rfl r⟩
 have hmono : ∀ u v, RelI (imOf c ids w) w u v → RelI (imOf c ids' w') w' u v := fun u v h => h.mono hi1 hi2
 have hpb : ∀ (k : Nat) (r : Id) y, ids[k]? = some (.lv r) → k ≠ b → r.has y → w'.heap[y]? = w.heap[y]? := by
  intro k r y hr hk hy
  refine setRow_other w p.blk y _ (fun e => hk ?_)
  exact hs.distinctX k b r p y hr hid hy (.inl e)
 refine ⟨p, vs, ids', hid, h1, hivs, g1, ?_⟩
 refine hs.goOn rfl rfl rfl (by show w.heap.size ≤ w'.heap.size; rw [hsz]; exact Nat.le_refl _) hbl hown (fun vs h => by
  simp only [ids'] at h
  rcases List.mem_or_eq_of_mem_set h with h | h
  ·rcases List.mem_or_eq_of_mem_set h with h | h
   ·exact h
   ·cases h
  ·cases h) ?_ (by simp) (by simp [ids', hs.mlen]) ?_ ?_
 ·intro k k' r r' y e1 e2 x1 x2
  rcases cases_id k r e1 with ⟨rfl, rfl⟩ | ⟨ne, ne2, e⟩ <;> rcases cases_id k' r' e2 with ⟨rfl, rfl⟩ | ⟨ne', ne2', e'⟩
  ·rfl
  ·rcases hsub y x1 with h | h
   ·exact absurd (hs.distinctX _ _ p r' y hid e' h x2).symm ne'
   ·obtain ⟨q, q1, q2⟩ := hx1 y h
    exact absurd (hs.distinctX _ _ q r' y q1 e' (.inl q2.symm) x2).symm ne2'
  ·rcases hsub y x2 with h | h
   ·exact absurd (hs.distinctX _ _ r p y e hid x1 h) ne
   ·obtain ⟨q, q1, q2⟩ := hx1 y h
    exact absurd (hs.distinctX _ _ r q y e q1 x1 (.inl q2.symm)) ne2
  ·exact hs.distinctX k k' r r' y e e' x1 x2
 ·intro k h h'
  exact (hs.slots k h h').restale hi1 hi2 hd get_b'
 ·intro k hk hk'
  have hat : ids'[k]? = some ids'[k] := List.getElem?_eq_getElem hk'
  simp only [List.length_set] at hk
  rw [List.getElem_set]
  split
  ·rename_i he; subst he
   rw [get_b'] at hat
   rw [← Option.some.inj hat]; exact rfl
  ·rename_i he
   rw [List.getElem_set]
   split
   ·rename_i he2; subst he2
    rw [get_b] at hat
    rw [← Option.some.inj hat]
    have hv2 : ∀ j (h : j < (vs.setIfInBounds i v).size) (h' : j < vs.size), (vs.setIfInBounds i v)[j] = if i = j then v else vs[j] := by
     intro j h h'; rw [Array.getElem_setIfInBounds]
    have hkey : ∀ y, x = some y → w'.heap[y]? = w.heap[y]? := by
     intro y hy
     obtain ⟨q, q1, q2⟩ := hx1 y hy
     exact hpb b' q y q1 (fun e => hne e.symm) (.inl q2.symm)
    have hpk : ∀ y, p.kid y → w'.heap[y]? = w.heap[y]? := by
     intro y hy
     exact setRow_other w p.blk y _ (fun e => g3 (by rw [← e]; exact hy))
    refine ⟨g1, g2, ?_, vs.setIfInBounds i v, setRow_heap w p.blk vs _ ty _ h1, by simp [h2]; rfl, h3, updN kb i x, ?_⟩
    ·rintro (h | h)
     ·exact g3 h
     ·obtain ⟨q, q1, q2⟩ := hx1 _ h
      exact hne (hs.distinctX b b' p q p.blk hid q1 (.inl rfl) (.inl q2.symm))
    ·intro j hj _ hjv
     have hjv' : j < vs.size := by simpa using hjv
     rw [hv2 j hjv hjv']
     by_cases hji : j = i
     ·subst hji
      rw [if_pos rfl]
      simp only [updN, if_pos]
      refine ⟨hx2 _ _ hkey hmono, (fun y hy => .inr hy), ?_⟩
      intro j' hj' _ e1 e2
      by_cases hjj : j' = j
      ·exact hjj
      ·exfalso
       rw [if_neg hjj] at e1
       cases hxx : x with
       | none => exact e2 hxx
       | some y =>
        have hj'v : j' < vs.size := by omega
        obtain ⟨_, k2, _⟩ := h4 j' hj' (by simp; exact fun e => hjj e.symm) hj'v
        obtain ⟨q, q1, q2⟩ := hx1 y hxx
        exact hne (hs.distinctX b b' p q y hid q1 (.inr (k2 y (by rw [e1, hxx]))) (.inl q2.symm))
     ·rw [if_neg (fun e => hji e.symm)]
      simp only [updN, if_neg hji]
      obtain ⟨k1, k2, k3⟩ := h4 j hj (by simp; exact fun e => hji e.symm) hjv'
      refine ⟨k1.mono hi1 hi2 (fun y hy => hpk y (k2 y hy)), (fun y hy => .inl (k2 y hy)), ?_⟩
      intro j' hj' _ e1 e2
      by_cases hjj : j' = i
      ·exfalso
       subst hjj
       rw [if_pos rfl] at e1
       cases hxx : x with
       | none => rw [hxx] at e1; exact e2 e1.symm
       | some y =>
        obtain ⟨q, q1, q2⟩ := hx1 y hxx
        exact hne (hs.distinctX b b' p q y hid q1 (.inr (k2 y (by rw [← e1, hxx]))) (.inl q2.symm))
      ·rw [if_neg hjj] at e1
       exact k3 j' hj' (by simp; exact fun e => hjj e.symm) e1 e2
   ·rename_i he2
    have hkm : k < m.length := hk
    have hki : k < ids.length := by rw [hs.mlen]; exact hkm
    rw [get_old k (fun e => he2 e.symm) (fun e => he e.symm), List.getElem?_eq_getElem hki] at hat
    rw [← Option.some.inj hat]
    refine (hs.blks k hkm hki).restale hi1 hi2 hd get_b' ?_
    intro q hq y hy
    exact hpb k q y (by rw [List.getElem?_eq_getElem hki, hq]) (fun e => he2 e.symm) hy

def setAt {α : Type} (l : List α) : Nat → List α → List α
 | _, [] => l
 | k, x :: xs => (setAt l (k + 1) xs).set k x
theorem setAt_len {α : Type} (l : List α) : ∀ (k : Nat) (xs : List α), (setAt l k xs).length = l.length
 | _, [] => rfl
 | k, x :: xs => by rw [setAt, List.length_set, setAt_len l (k + 1) xs]
theorem setAt_get {α : Type} (l : List α) : ∀ (k : Nat) (xs : List α) (i : Nat), (xs.length = 0 ∨ k + xs.length ≤ l.length) → (setAt l k xs)[i]? = if k ≤ i ∧ i < k + xs.length then xs[i - k]? else l[i]?
 | k, [], i, _ => by rw [setAt, if_neg (by simp)]
 | k, x :: xs, i, h => by
  have h : k + (xs.length + 1) ≤ l.length := by simpa using h
  rw [setAt, List.getElem?_set, setAt_get l (k + 1) xs i (by omega), setAt_len]
  by_cases hk : k = i
  ·subst hk
   rw [if_pos rfl, if_pos (by omega), if_pos (by simp)]; simp
  ·rw [if_neg hk]
   by_cases h2 : k + 1 ≤ i ∧ i < k + 1 + xs.length
   ·rw [if_pos h2, if_pos (by simp; omega), show i - k = (i - (k + 1)) + 1 by omega]; rfl
   ·rw [if_neg h2, if_neg (by simp; omega)]
abbrev shN (aid : Nat) : Ren := renAll fun i => some (aid + i)
theorem no_mu (x : Nat) : ¬ muOf [] x := by rintro ⟨p, h, _⟩; cases h
theorem setAt_end (m : List Blk) : ∀ (xs : List Blk) (pre : List Blk), setAt (m ++ pre ++ List.replicate xs.length .dead) (m ++ pre).length xs = m ++ pre ++ xs
 | [], pre => by simp [setAt]
 | x :: xs, pre => by
  have h := setAt_end m xs (pre ++ [.dead])
  rw [setAt]
  have e1 : m ++ pre ++ List.replicate (x :: xs).length Blk.dead = m ++ (pre ++ [.dead]) ++ List.replicate xs.length .dead := by
   simp [List.replicate_succ]
  have e2 : (m ++ pre).length + 1 = (m ++ (pre ++ [Blk.dead])).length := by simp; omega
  rw [e1, e2, h]
  simp
/-- A function that makes blocks of its own: they lie at places that are kept. -/
theorem callN_fin (hs : Sim c s m a w ids) {g : FuncId} {vs : List Value}
  {r : A} {mo : List Blk} (hng : noGhost mo = true) {aid : Nat} (hdd : ∀ j, j < mo.length → m[aid + j]? = some .dead)
  (hc : Calls P g vs.toArray w fun e w' => ∃ v idr, e = .returned v ∧ Sim ⟨w, imOf c ids w, muOf [], []⟩ [r] mo ⟨#[v], []⟩ w' idr) :
  Calls P g vs.toArray w fun e w' => ∃ v ids', e = .returned v ∧ ∀ d, Sim c (_root_.Go.Proofs.YtnkbkfjgbejhfaaGreat.Am.putD s d (renA (shN aid) 4 r)) (setAt m aid (mo.map (renB (shN aid) 4))) (a.put d v) w' ids' := by
 have hlt : mo.length = 0 ∨ aid + mo.length ≤ m.length := by
  rcases Nat.eq_zero_or_pos mo.length with h | h
  ·exact .inl h
  ·have := (List.getElem?_eq_some_iff.1 (hdd (mo.length - 1) (by omega))).1
   omega
 refine Calls_mono hc ?_
 rintro e w' ⟨v, idr, rfl, hr⟩
 have hml : idr.length = mo.length := hr.mlen
 have hfr := hr.frame
 have hbl0 : ∀ k, k < w.heap.size → w'.heap[k]? = w.heap[k]? := fun k hk => hfr.block k hk (no_mu k)
 have hnewr : ∀ (j : Nat) p, idr[j]? = some (.lv p) → ∀ x, p.has x → w.heap.size ≤ x ∧ x < w'.heap.size := by
  intro j p hj x hx
  have := hr.freshX p (List.mem_of_getElem? hj) x hx
  rcases this.1 with h | h
  ·exact ⟨h, this.2⟩
  ·exact (no_mu x h).elim
 have hnst : ∀ (j : Nat) p, idr[j]? = some p → (∀ vs, p ≠ .gho vs) ∧ p ≠ .stale := by
  intro j p hj
  have hjl := lt_of_get hj
  have hB := hr.blks j (by omega) hjl
  rw [List.getElem?_eq_getElem hjl] at hj
  rw [Option.some.inj hj] at hB
  have h1 := noGhost_sound hng _ (List.getElem_mem (show j < mo.length by omega))
  have h2 := noGhost_gone hng _ (List.getElem_mem (show j < mo.length by omega))
  generalize mo[j]'(by omega) = x at hB h1 h2
  constructor
  ·rintro vs rfl
   cases x <;> first | exact hB.elim | exact absurd rfl (h1 _) | cases hB
  ·rintro rfl
   cases x <;> first | exact hB.elim | exact absurd rfl h2 | cases hB
 have idA : ∀ i, (setAt ids aid idr)[i]? = if aid ≤ i ∧ i < aid + idr.length then idr[i - aid]? else ids[i]? := fun i => setAt_get ids aid idr i (by rw [hs.mlen]; omega)
 have idOld : ∀ (i : Nat) p, ids[i]? = some p → p ≠ .dead → (setAt ids aid idr)[i]? = some p := by
  intro i p hi hp
  rw [idA, if_neg]
  ·exact hi
  ·rintro ⟨h1, h2⟩
   have h3 := hdd (i - aid) (by omega)
   rw [show aid + (i - aid) = i by omega] at h3
   obtain ⟨h4, h5⟩ := List.getElem?_eq_some_iff.1 h3
   have := hs.blks i h4 (by rw [hs.mlen]; exact h4)
   rw [h5] at this
   rw [List.getElem?_eq_getElem (by rw [hs.mlen]; exact h4)] at hi
   exact hp ((Option.some.inj hi).symm.trans this)
 have idNew : ∀ (j : Nat) p, idr[j]? = some p → (setAt ids aid idr)[aid + j]? = some p := by
  intro j p hj
  have := lt_of_get hj
  rw [idA, if_pos (by omega), show aid + j - aid = j by omega]; exact hj
 have idCases : ∀ (i : Nat) p, (setAt ids aid idr)[i]? = some p → (∃ j, i = aid + j ∧ idr[j]? = some p) ∨ (¬ (aid ≤ i ∧ i < aid + idr.length) ∧ ids[i]? = some p) := by
  intro i p h
  rw [idA] at h
  split at h
  ·rename_i hh; exact .inl ⟨i - aid, by omega, h⟩
  ·rename_i hh; exact .inr ⟨hh, h⟩
 have hown : ∀ p', IdE.lv p' ∈ setAt ids aid idr → ∀ x, p'.has x → x < w'.heap.size ∧ (w.heap.size ≤ x ∨ ∃ (b : Nat) (p : Id), ids[b]? = some (.lv p) ∧ p.has x) := by
  intro p' hp x hx
  obtain ⟨i, hi⟩ := List.getElem?_of_mem hp
  rcases idCases i _ hi with ⟨j, _, hj⟩ | ⟨_, hi⟩
  ·have := hnewr j p' hj x hx; exact ⟨this.2, .inl this.1⟩
  ·exact ⟨Nat.lt_of_lt_of_le (hs.freshX p' (List.mem_of_getElem? hi) x hx).2 hfr.size, .inr ⟨i, p', hi, hx⟩⟩
 obtain ⟨hi1, hi2⟩ := hs.im_stays (w' := w') (ids' := setAt ids aid idr) hfr.size (fun k hk _ => hbl0 k hk) hown
 have hiN : ∀ b, imOf ⟨w, imOf c ids w, muOf [], []⟩ idr w' b → imOf c (setAt ids aid idr) w' b := by
  rintro b (h | ⟨h1, h2, h3⟩)
  ·exact hi1 b h
  ·have hge : w.heap.size ≤ b := by
    rcases h1 with h | h
    ·exact h
    ·exact (no_mu b h).elim
   refine .inr ⟨.inl (Nat.le_trans hs.frame.size hge), h2, fun p hp hx => ?_⟩
   obtain ⟨i, hi⟩ := List.getElem?_of_mem hp
   rcases idCases i _ hi with ⟨j, _, hj⟩ | ⟨_, hi⟩
   ·exact h3 p (List.mem_of_getElem? hj) hx
   ·have := (hs.freshX p (List.mem_of_getElem? hi) b hx).2; omega
 have hτ : RenOk (shN aid) idr (setAt ids aid idr) := by
  refine ⟨fun b b' p h1 h2 => ?_, fun b b' p h1 h2 _ => ?_, fun b b' p h1 h2 => ?_, fun b b' h1 h2 => ?_, fun b b' h1 h2 => ?_⟩
  all_goals cases h1
  ·exact ⟨p, idNew _ _ h2, rfl⟩
  ·exact ⟨p, idNew _ _ h2, likeE0_rfl p⟩
  ·exact ⟨p, idNew _ _ h2, rfl⟩
  ·exact idNew _ _ h2
  ·exact idNew _ _ h2
 have hsim : Sim c s (setAt m aid (mo.map (renB (shN aid) 4))) a w' (setAt ids aid idr) := by
  refine hs.goOn (hdr := hfr.drawn) hfr.os hfr.tape hfr.output hfr.size (fun k hk _ => hbl0 k hk) hown (fun vs h => ?_) ?_ rfl (by rw [setAt_len, setAt_len, hs.mlen]) (fun i h h' => (hs.slots i h h').mono hi1 hi2 (fun b p h1 h2 => idOld b p h1 h2)) ?_
  ·obtain ⟨i, hi⟩ := List.getElem?_of_mem h
   rcases idCases i _ hi with ⟨j, _, hj⟩ | ⟨_, hi⟩
   ·exact absurd rfl ((hnst j _ hj).1 vs)
   ·exact List.mem_of_getElem? hi
  ·intro k k' p q x e1 e2 x1 x2
   rcases idCases k _ e1 with ⟨j, rfl, hj⟩ | ⟨_, hj⟩ <;> rcases idCases k' _ e2 with ⟨j', rfl, hj'⟩ | ⟨_, hj'⟩
   ·rw [hr.distinctX j j' p q x hj hj' x1 x2]
   ·have := (hnewr j p hj x x1).1
    have := (hs.freshX q (List.mem_of_getElem? hj') x x2).2; omega
   ·have := (hnewr j' q hj' x x2).1
    have := (hs.freshX p (List.mem_of_getElem? hj) x x1).2; omega
   ·exact hs.distinctX k k' p q x hj hj' x1 x2
  ·intro k hk hk'
   have e1 : (setAt ids aid idr)[k]? = some (setAt ids aid idr)[k] := List.getElem?_eq_getElem hk'
   have e2 : (setAt m aid (mo.map (renB (shN aid) 4)))[k]? = some (setAt m aid (mo.map (renB (shN aid) 4)))[k] := List.getElem?_eq_getElem hk
   rw [setAt_get _ _ _ _ (by simpa using hlt)] at e2
   simp only [List.length_map] at e2
   rw [idA] at e1
   rw [hml] at e1
   by_cases hkk : aid ≤ k ∧ k < aid + mo.length
   ·rw [if_pos hkk] at e1 e2
    rw [List.getElem?_map] at e2
    have hj : k - aid < mo.length := by omega
    rw [List.getElem?_eq_getElem hj] at e2
    rw [List.getElem?_eq_getElem (by omega)] at e1
    simp only [Option.map_some] at e2
    rw [← Option.some.inj e1, ← Option.some.inj e2]
    exact renB_rel hiN (fun _ _ => rfl) hτ 4 (fun _ _ _ _ => rfl) (hr.blks (k - aid) hj (by omega))
   ·rw [if_neg hkk] at e1 e2
    have hkm : k < m.length := lt_of_get e2
    have hki : k < ids.length := lt_of_get e1
    rw [List.getElem?_eq_getElem hkm] at e2
    rw [List.getElem?_eq_getElem hki] at e1
    rw [← Option.some.inj e1, ← Option.some.inj e2]
    refine (hs.blks k hkm hki).mono hi1 hi2 (fun b p h1 h2 => idOld b p h1 h2) (fun q hq y hy => hbl0 y ?_)
    exact (hs.freshX q (by rw [← hq]; exact List.getElem_mem _) y hy).2
 refine ⟨v, _, rfl, fun d => hsim.putD d ?_⟩
 have := hr.slots 0 (by simp) (by simp)
 exact renA_rel hiN (fun _ _ => rfl) hτ 4 _ _ (by simpa using this)
theorem callN_run (hs : Sim c s m a w ids) (hG : G.ok c) {g : FuncId} {as : List A} {vs : List Value} (hlen : vs.length = as.length) (hrel : ∀ j (h : j < as.length) (h' : j < vs.length), RelI (imOf c ids w) w as[j] vs[j])
  {r : A} {mo : List Blk} (hc : MCalls P G g as [] r mo) (hng : noGhost mo = true) {aid : Nat} (hdd : ∀ j, j < mo.length → m[aid + j]? = some .dead) :
  Calls P g vs.toArray w fun e w' => ∃ v ids', e = .returned v ∧ ∀ d, Sim c (_root_.Go.Proofs.YtnkbkfjgbejhfaaGreat.Am.putD s d (renA (shN aid) 4 r)) (setAt m aid (mo.map (renB (shN aid) 4))) (a.put d v) w' ids' := by
 have h0 : Sim ⟨w, imOf c ids w, muOf [], []⟩ as [] ⟨vs.toArray, []⟩ w [] := by
  refine ⟨rfl, by simp [hlen], fun i h h' => .imm ((hrel i h (by simpa using h')).mono (fun b hb => .inl hb) (fun _ _ => rfl)), rfl, fun b h => absurd h (Nat.not_lt_zero _), (fun b b' p q x h => by simp at h), (fun p h => by cases h), Fr.refl _ _ _ _, fun b hb => ⟨imOf_lt hs hb, no_mu b⟩, fun vs h => by cases h⟩
 exact callN_fin hs hng hdd (hc.2 (imOf c ids w) w vs [] [] ⟨hG.now hs.frame, fun b hb => (no_mu b hb).elim⟩ h0)

/-! Blocks that are lent: the call reads them only, and what it answers holds no place. -/
def plainO : Nat → A → Bool
 | 0, _ => false
 | d + 1, x => match x with
  | .own _ => true
  | .tup cs => cs.all (plainO d)
  | x => plain (d + 1) x
def flatB : Blk → Prop
 | .row _ _ n row => ∀ i, i < n → ∀ x ∈ row i, plain 4 x = true
 | _ => False
theorem plainO_of : ∀ (d : Nat) (x : A), plain d x = true → plainO d x = true
 | 0, x, h => h
 | d + 1, x, h => by
  cases x with
  | tup cs =>
   simp only [plain, List.all_eq_true] at h
   simp only [plainO, List.all_eq_true]
   exact fun y hy => plainO_of d y (h y hy)
  | own b => rfl
  | _ => exact h
theorem plainO_rel : ∀ (d : Nat) (x : A) (v : Value), plainO d x = true → Rel ids im w x v → Rel ids im' w x v
 | 0, x, v, h, _ => by cases h
 | d + 1, x, v, h, hr => by
  have old : ∀ d, plain d x = true → RelI im w x v → Rel ids im' w x v := fun d h k => .imm (plain_rel d x v h k)
  cases hr with
  | imm hr =>
   cases x with
   | tup cs =>
    cases hr with | tup _ vs hl hr =>
    simp only [plainO, List.all_eq_true] at h
    exact .tup cs vs hl fun j h1 h2 => plainO_rel d _ _ (h _ (List.getElem_mem h1)) (.imm (hr j h1 h2))
   | own b => cases hr
   | _ => exact old _ h hr
  | own0 b e => exact .own0 b e
  | own b cap p e hn hm => exact .own b cap p e hn hm
  | ownS b x n cap e => exact .ownS b x n cap e
  | tup cs vs hl hr =>
   simp only [plainO, List.all_eq_true] at h
   exact .tup cs vs hl fun j h1 h2 => plainO_rel d _ _ (h _ (List.getElem_mem h1)) (hr j h1 h2)
  | agg cs vs hl ho hr =>
   refine .agg cs vs hl ho fun j h1 h2 => ?_
   simp only [plainO, plain, List.all_eq_true] at h
   refine plainO_rel d _ _ ?_ (hr j h1 h2)
   have := h _ (List.getElem_mem h1)
   revert this
   generalize cs[j] = y
   intro hy
   exact plainO_of d y hy
  | _ => cases h
theorem flatB_rel {x : Blk} {p : IdE} (h : flatB x) (hr : BRel ids im w x p) : BRel ids im' w x p := by
 cases x with
 | row ty sz n row =>
  cases p with
  | lv p =>
   obtain ⟨h1, h2, vs, h3, h4, h5, h6, h7⟩ := hr
   exact ⟨h1, h2, vs, h3, h4, h5, h6, fun i j hi hj hj' => ⟨plain_rel 4 _ _ (h i hi _ (List.getElem_mem hj)) (h7 i j hi hj hj').1, (h7 i j hi hj hj').2⟩⟩
  | virt => exact hr
  | dead => exact hr
  | stale => exact hr
  | gho _ => exact hr
 | _ => exact h.elim
theorem MCalls.lend {f : FuncId} {args : List A} {mi : List Blk} {r : A} {mo : List Blk} (h : MCalls P G f (args.map (wk mi 5)) [] r mo) (ha : args.isEmpty = false) (hr : plainO 4 r = true) (hm : ∀ x ∈ mo, flatB x) (hng : noGhost mo = true) :
  MCalls P G f args mi (renA (shN mi.length) 4 r) (mi ++ mo.map (renB (shN mi.length) 4)) := by
 refine ⟨h.1, ?_⟩
 intro im w vs gs ids hG hs
 have hlen : vs.length = args.length := by have := hs.len; simpa using this
 have h0 : Sim ⟨w, imAll ⟨w, im, muOf ids, gs⟩ ids w, muOf [], []⟩ (args.map (wk mi 5)) [] ⟨vs.toArray, []⟩ w [] := by
  refine ⟨rfl, by simp [hlen], fun i h h' => .imm ?_, rfl, fun b h => absurd h (Nat.not_lt_zero _), (fun b b' p q x h => by simp at h), (fun p h => by cases h), Fr.refl _ _ _ _, fun b hb => ⟨?_, no_mu b⟩, fun vs h => by cases h⟩
  ·have := wk_rel hs 5 _ _ (hs.slots i (by simpa using h) h')
   rw [List.getElem_map]
   exact this.mono (fun b hb => .inl hb) (fun _ _ => rfl)
  ·rcases hb with hb | ⟨p, hp, hb⟩
   ·exact imOf_lt hs hb
   ·exact (hs.freshX p hp b hb).2
 have hc := h.2 (imAll ⟨w, im, muOf ids, gs⟩ ids w) w vs [] [] ⟨hG.now hs.frame, fun b hb => (no_mu b hb).elim⟩ h0
 have hc' : Calls P f vs.toArray w fun e w' => ∃ v idr, e = .returned v ∧ Sim ⟨w, imOf ⟨w, im, muOf ids, gs⟩ (ids ++ List.replicate mo.length .dead) w, muOf [], []⟩ [r] mo ⟨#[v], []⟩ w' idr := by
  refine Calls_mono hc ?_
  rintro e w' ⟨v, idr, rfl, k⟩
  refine ⟨v, idr, rfl, ⟨rfl, rfl, fun i h1 h2 => ?_, k.mlen, fun b h1 h2 => flatB_rel (hm _ (List.getElem_mem h1)) (k.blks b h1 h2), k.distinctX, k.freshX, ⟨k.frame.os, k.frame.tape, k.frame.output, k.frame.size, k.frame.block, k.frame.drawn⟩, fun b hb => ⟨?_, no_mu b⟩, k.gho⟩⟩
  ·have : i = 0 := by simp at h1; omega
   subst this
   exact plainO_rel 4 _ _ hr (k.slots 0 (by simp) (by simp))
  ·rcases hb with hb | hb
   ·exact (hs.im0lt b hb).1
   ·exact hb.2.1
 have hg : Sim ⟨w, im, muOf ids, gs⟩ args (mi ++ List.replicate mo.length .dead) ⟨vs.toArray, []⟩ w (ids ++ List.replicate mo.length .dead) := by
  refine hs.grow (Bw.refl _ w) _ _ (by simp) ?_ ?_ ?_ ?_
  ·intro i g1 g2; simp only [List.getElem_replicate]; rfl
  ·intro p hp; rw [List.mem_replicate] at hp; cases hp.2
  ·intro p hp; rw [List.mem_replicate] at hp; cases hp.2
  ·intro i j p q x g1 g2 _ _; rw [List.getElem?_replicate] at g1; split at g1 <;> cases g1
 have := callN_fin (aid := mi.length) hg hng (fun j hj => by rw [List.getElem?_append_right (by omega), List.getElem?_replicate, if_pos (by omega)]) hc'
 refine Calls_mono this ?_
 rintro e w' ⟨v, ids', rfl, k⟩
 have k := k (some 0)
 have e := setAt_end mi (mo.map (renB (shN mi.length) 4)) []
 simp only [List.append_nil, List.length_map] at e
 rw [e] at k
 refine ⟨v, ids', rfl, ⟨rfl, rfl, fun i h1 h2 => ?_, k.mlen, k.blks, k.distinctX, k.freshX, k.frame, k.im0lt, k.gho⟩⟩
 have : i = 0 := by simp at h1; omega
 subst this
 have l1 : 0 < args.length := by
  cases args with
  | nil => cases ha
  | cons x xs => simp
 have k0 := k.slots 0 (by simp [putD]; exact l1) (by simp [Act.put]; omega)
 simp only [putD, Act.put] at k0
 simpa using k0

def callN (P : Program) (G : GInv) (f : A) (args : List A) (aid : Nat) (K : A → List Blk → Prop) : Prop :=
 match f with
 | .fn g cap => fd.fdl 4 (args ++ cap) fun as => match as.any (hasOwn 4) with
  | false => ∃ r mo, MCalls P G g as [] r mo ∧ match noGhost mo with
   | true => fd 4 (renA (shN aid) 4 r) fun r' => fbs (mo.map (renB (shN aid) 4)) fun mo' => K r' mo'
   | false => False
  | true => False
 | _ => False
def catB : List Blk → List Blk → (List Blk → Prop) → Prop
 | m, [], K => K m
 | m, x :: xs, K => appB m x fun m' => catB m' xs K
theorem catB_eq : ∀ (xs m : List Blk) (K : List Blk → Prop), catB m xs K = K (m ++ xs)
 | [], m, K => by simp [catB]
 | x :: xs, m, K => by rw [catB, appB_eq, catB_eq xs]; simp
theorem callN_sound (hs : Sim c s m a w ids) (hG : G.ok c) {F : Operand} {xs : Array Operand} {ts : Array TypeId} (ho : o.op = .call { callee := .value F, args := xs, argTypes := ts }) {aid : Nat} {K : A → List Blk → Prop}
  (h : callN P G (ev s F) (xs.toList.map (ev s)) aid K)
  (hn : ∀ r' mo', K r' mo' → (∃ (m' : List Blk) (ids1 : Ids), Sim c s m' a w ids1 ∧ (∀ j, j < mo'.length → m'[aid + j]? = some .dead) ∧ ∀ a' w' ids', Sim c (_root_.Go.Proofs.YtnkbkfjgbejhfaaGreat.Am.putD s o.dst r') (setAt m' aid mo') a' w' ids' → next a' w')) : o.wp P a w next Q := by
 have hf := hs.ev F
 unfold callN at h
 split at h
 ·rename_i g cap hv; rw [hv] at hf
  obtain ⟨us, hu1, hu2, hu3⟩ := hf.fn_inv
  rw [fdl_eq] at h
  have hrel : ∀ j (h : j < (xs.toList.map (ev s) ++ cap).length) (h' : j < (xs.toList.map a.eval ++ us).length), Rel ids (imOf c ids w) w (xs.toList.map (ev s) ++ cap)[j] (xs.toList.map a.eval ++ us)[j] := by
   intro j h h'
   by_cases hj : j < xs.toList.length
   ·rw [List.getElem_append_left (by simpa using hj), List.getElem_append_left (by simpa using hj)]
    exact evL_rel hs xs.toList j (by simpa using hj) (by simpa using hj)
   ·rw [List.getElem_append_right (by simpa using hj), List.getElem_append_right (by simpa using hj)]
    simp at h h' hj
    have := hu3 (j - xs.size) (by omega) (by omega)
    simpa using this
  have hlen : (xs.toList.map a.eval ++ us).length = (xs.toList.map (ev s) ++ cap).length := by simp [hu2]
  have run : ∀ fn cd, P.funcs[g]? = some fn → fn.body = some cd → (fn.name == "runtime.NumGoroutine") = false → (execOp a.eval o).run P w = .ok (.enter g (xs.toList.map a.eval ++ us).toArray) w := by
   intro fn cd h1 h2 h3
   have e : execOp a.eval o = (do let d ← resolve a.eval { callee := .value F, args := xs, argTypes := ts } o.type; invoke d.target d.args) := by unfold execOp; rw [ho]
   have e2 : (xs.map a.eval ++ us.toArray) = (xs.toList.map a.eval ++ us).toArray := by apply Array.ext'; simp
   have h4 : ¬ fn.name = "runtime.NumGoroutine" := by simpa using h3
   rw [e]
   simp [resolve, hu1, Deferred.ofValue, invoke, callFunc, h1, h2, h4, e2]
  split at h
  ·rename_i hown
   obtain ⟨r, mo, hc, hk⟩ := h
   split at hk
   ·rename_i hng
    rw [fd_eq, fbs_eq] at hk
    obtain ⟨m', ids1, hs1, hdd, hn⟩ := hn _ _ hk
    obtain ⟨fn, cd, h1, h2, h3⟩ := hc.1
    unfold Oper.wp
    rw [run fn cd h1 h2 h3]
    show Calls P g _ w _
    have hrel1 : ∀ j (h : j < (xs.toList.map (ev s) ++ cap).length) (h' : j < (xs.toList.map a.eval ++ us).length), RelI (imOf c ids1 w) w (xs.toList.map (ev s) ++ cap)[j] (xs.toList.map a.eval ++ us)[j] := by
     intro j h h'
     have hw : hasOwn 4 (xs.toList.map (ev s) ++ cap)[j] = false := by
      have := List.any_eq_false.1 hown _ (List.getElem_mem h)
      simpa using this
     have hF1 := hs1.ev F; rw [hv] at hF1
     obtain ⟨us1, hw1, hw2, hw3⟩ := hF1.fn_inv
     have hus : us1 = us := by rw [hu1] at hw1; simpa using hw1.symm
     subst hus
     refine hasOwn_rel (ids := ids1) 4 _ _ hw ?_
     by_cases hj : j < xs.toList.length
     ·rw [List.getElem_append_left (by simpa using hj), List.getElem_append_left (by simpa using hj)]
      exact evL_rel hs1 xs.toList j (by simpa using hj) (by simpa using hj)
     ·rw [List.getElem_append_right (by simpa using hj), List.getElem_append_right (by simpa using hj)]
      simp at h h' hj
      have := hw3 (j - xs.size) (by omega) (by omega)
      simpa using this
    refine Calls_mono (callN_run hs1 hG hlen hrel1 hc hng (fun j hj => hdd j (by simpa using hj))) ?_
    rintro e w' ⟨v, ids', rfl, hs'⟩
    exact hn _ _ _ (hs' o.dst)
   ·exact hk.elim
  ·exact h.elim
 ·exact h.elim
def sCallN (P : Program) (G : GInv) (f : A) (args : List A) (m : List Blk) (K : KT) : Prop := fnat m.length fun n => callN P G f args n fun r' mo' => catB m mo' fun m' => K r' m'
theorem sCallN_sound (hs : Sim c s m a w ids) (hG : G.ok c) {F : Operand} {xs : Array Operand} {ts : Array TypeId} (ho : o.op = .call { callee := .value F, args := xs, argTypes := ts }) {K : KT}
  (h : sCallN P G (ev s F) (xs.toList.map (ev s)) m K) (hn : NextOk c s o K next) : o.wp P a w next Q := by
 unfold sCallN at h
 rw [fnat_eq] at h
 refine callN_sound hs hG ho h ?_
 intro r' mo' hk
 rw [catB_eq] at hk
 refine ⟨m ++ List.replicate mo'.length .dead, ids ++ List.replicate mo'.length .dead, ?_, fun j hj => ?_, ?_⟩
 ·refine hs.grow (Bw.refl _ w) _ _ (by simp) ?_ ?_ ?_ ?_
  ·intro i g1 g2; simp only [List.getElem_replicate]; rfl
  ·intro p hp; rw [List.mem_replicate] at hp; cases hp.2
  ·intro p hp; rw [List.mem_replicate] at hp; cases hp.2
  ·intro i j p q x g1 g2 _ _; rw [List.getElem?_replicate] at g1; split at g1 <;> cases g1
 ·rw [List.getElem?_append_right (by omega), List.getElem?_replicate, if_pos (by omega)]
 ·intro a' w' ids' hs'
  have e := setAt_end m mo' []
  simp only [List.append_nil] at e
  rw [e] at hs'
  exact hn _ _ _ _ _ hk hs'
end
end Go.Proofs.YtnkbkfjgbejhfaaGreat.Am
namespace Go.Proofs.YtnkbkfjgbejhfaaGreat.Am
variable [Inhabited DRT]
open Go.RowKit (Below)

/-! ### Maps -/
def ks1 : A → Option KS
 | .int k _ => some (.int k)
 | .bool _ => some .bool
 | .str _ => some .str
 | _ => none
def shOf : List A → Option (List KS)
 | [] => some []
 | x :: xs => match ks1 x, shOf xs with
  | some s, some ss => some (s :: ss)
  | _, _ => none
def shOk : List Nat → List KS → Bool
 | [], [] => true
 | n :: ns, s :: ss => match s with
  | .int _ => match Nat.beq n 5 with
   | true => shOk ns ss
   | false => false
  | .bool => match Nat.beq n 6 with
   | true => shOk ns ss
   | false => false
  | .str => match Nat.beq n 4 with
   | true => shOk ns ss
   | false => false
 | _, _ => false
def ksEq : List KS → List KS → Bool
 | [], [] => true
 | s :: ss, u :: us => match s, u with
  | .int k, .int k' => match kindEq k k' with
   | true => ksEq ss us
   | false => false
  | .bool, .bool => ksEq ss us
  | .str, .str => ksEq ss us
  | _, _ => false
 | _, _ => false
theorem ksEq_iff : ∀ {a b : List KS}, ksEq a b = true → a = b
 | [], [], _ => rfl
 | s :: ss, u :: us, h => by
  unfold ksEq at h
  split at h
  ·split at h
   ·rename_i hk; rw [kindEq_iff.1 hk, ksEq_iff h]
   ·cases h
  ·rw [ksEq_iff h]
  ·rw [ksEq_iff h]
  ·cases h
 | [], _ :: _, h => by simp [ksEq] at h
 | _ :: _, [], h => by simp [ksEq] at h
def kc1 : KS → A → Option KC
 | .int k, .int k' n => match kindEq k' k with
  | true => some (.int n)
  | false => none
 | .bool, .bool b => some (.bool b)
 | .bool, .sb b => some (.bool b)
 | .str, .str s => some (.str s)
 | _, _ => none
def kcs : List KS → List A → Option (List KC)
 | [], [] => some []
 | s :: ss, x :: xs => match kc1 s x, kcs ss xs with
  | some k, some ks => some (k :: ks)
  | _, _ => none
 | _, _ => none
/-- A key, as cells. -/
def keyA (agg : Bool) (sh : List KS) (x : A) : Option (List KC) :=
 match agg, x with
 | true, .agg cs => kcs sh cs
 | true, _ => none
 | false, .agg _ => none
 | false, x => kcs sh [x]
def boolEq : Bool → Bool → Bool
 | true, true => true
 | false, false => true
 | _, _ => false
def fB (b : Bool) (K : Bool → Prop) : Prop :=
 match b with
 | true => K true
 | false => K false
theorem fB_eq (b : Bool) (K : Bool → Prop) : fB b K = K b := by cases b <;> rfl
/-- What is known of a map's type: the keys' kinds, the element's zero. -/
def mapTy (tt : TT) (t : TypeId) (K : Bool → List KS → A → Prop) : Prop :=
 match tt.lookup t with
 | none => False
 | some ti => match ti.kind, tt.lookup ti.alen, tt.lookup ti.ety with
  | 7, some tk, some te => match tk.eqs, shOf tk.zero with
   | some ns, some sh => match shOk ns sh, Nat.beq ns.length tk.size with
    | true, true => fB tk.agg fun ag => match te.agg with
     | true => fl te.zero fun z => K ag sh (.agg z)
     | false => match te.zero with
      | [z] => fv z fun z' => K ag sh z'
      | _ => False
    | _, _ => False
   | _, _ => False
  | _, _, _ => False
def lookR (z : A) (k : List KC) (ok : Bool) (has : List KC → Bool) (val : List KC → A) (K : A → Prop) : Prop :=
 match ok with
 | true => (has k = true → fd 3 (val k) fun v => K (.tup [v, .bool true])) ∧ (has k = false → K (.tup [z, .bool false]))
 | false => (has k = true → fd 3 (val k) fun v => K v) ∧ (has k = false → K z)
def lookG (agg : Bool) (sh : List KS) (z : A) (k : List KC) (ok : Bool) (agg' : Bool) (sh' : List KS) (has : List KC → Bool) (val : List KC → A) (K : A → Prop) : Prop :=
 match boolEq agg agg', ksEq sh sh' with
 | true, true => lookR z k ok has val K
 | _, _ => False
def sLook (tt : TT) (t : TypeId) (x key : A) (ok : Bool) (m : List Blk) (K : A → Prop) : Prop :=
 mapTy tt t fun agg sh z => match keyA agg sh key with
  | none => False
  | some k => match x with
   | .mv agg' sh' has val => lookG agg sh z k ok agg' sh' has val K
   | .omap b => match m.getD b .dead with
    | .mapb agg' sh' has val => lookG agg sh z k ok agg' sh' has val K
    | _ => False
   | .nilm => match ok with
    | true => K (.tup [z, .bool false])
    | false => K z
   | _ => False
def putH (has : List KC → Bool) (k : List KC) (b : Bool) : List KC → Bool := fun j => if j = k then b else has j
def putV (val : List KC → A) (k : List KC) (v : A) : List KC → A := fun j => if j = k then v else val j
def sUpd (tt : TT) (t : TypeId) (x key v : A) (m : List Blk) (K : KT) : Prop :=
 mapTy tt t fun agg sh _ => match keyA agg sh key, x, hasOwn 4 v with
  | some k, .omap b, false => match m.getD b .dead with
   | .mapb agg' sh' has val => match boolEq agg agg', ksEq sh sh' with
    | true, true => fd 4 v fun v' => setB m b (.mapb agg' sh' (putH has k true) (putV val k v')) fun m' => K .junk m'
    | _, _ => False
   | _ => False
  | _, _, _ => False
def sDel (tt : TT) (t : TypeId) (x key : A) (m : List Blk) (K : KT) : Prop :=
 mapTy tt t fun agg sh _ => match keyA agg sh key, x with
  | some k, .omap b => match m.getD b .dead with
   | .mapb agg' sh' has val => match boolEq agg agg', ksEq sh sh' with
    | true, true => setB m b (.mapb agg' sh' (putH has k false) val) fun m' => K (.tup []) m'
    | _, _ => False
   | _ => False
  | _, _ => False
def sMkMap (tt : TT) (t : TypeId) (m : List Blk) (K : KT) : Prop :=
 mapTy tt t fun agg sh _ => pushB m (.mapb agg sh (fun _ => false) (fun _ => .junk)) fun b m' => K (.omap b) m'

section
variable {c : Ctx} {s : List A} {m : List Blk} {a : Act} {w w' : World} {ids ids' : Ids} {P : Program} {im im' : Nat → Prop} {tt : TT} {G : GInv}
variable {next : Act → World → Prop} {Q : Exit → Act → World → Prop} {o : Oper}

theorem boolEq_iff {a b : Bool} (h : boolEq a b = true) : a = b := by cases a <;> cases b <;> simp [boolEq] at h <;> rfl
theorem okL_keys : ∀ {ns : List Nat} {sh : List KS} {k k' : List KC}, shOk ns sh = true → kOk sh k → kOk sh k' → okL ns (kVs sh k) (kVs sh k') (decide (k = k'))
 | [], [], [], [], _, _, _ => by simp [kVs, okL]
 | n :: ns, s :: ss, x :: k, y :: k', h, h1, h2 => by
  cases s with
  | int kd =>
   cases x <;> first | exact h1.elim | skip
   cases y <;> first | exact h2.elim | skip
   rename_i a b
   simp only [shOk] at h
   split at h
   ·rename_i hn
    have hn := Nat.eq_of_beq_eq_true hn
    subst hn
    refine ⟨decide (a = b), decide (k = k'), .inl ⟨rfl, kd, a, b, rfl, rfl, by rw [Bool.eq_iff_iff]; simp⟩, okL_keys h h1 h2, ?_⟩
    rw [← Bool.decide_and]; apply decide_eq_decide.2; simp
   ·cases h
  | bool =>
   cases x <;> first | exact h1.elim | skip
   cases y <;> first | exact h2.elim | skip
   rename_i a b
   simp only [shOk] at h
   split at h
   ·rename_i hn
    have hn := Nat.eq_of_beq_eq_true hn
    subst hn
    refine ⟨decide (a = b), decide (k = k'), .inr (.inl ⟨rfl, a, b, rfl, rfl, by rw [Bool.eq_iff_iff]; simp⟩), okL_keys h h1 h2, ?_⟩
    rw [← Bool.decide_and]; apply decide_eq_decide.2; simp
   ·cases h
  | str =>
   cases x <;> first | exact h1.elim | skip
   cases y <;> first | exact h2.elim | skip
   rename_i a b
   simp only [shOk] at h
   split at h
   ·rename_i hn
    have hn := Nat.eq_of_beq_eq_true hn
    subst hn
    refine ⟨decide (a = b), decide (k = k'), .inr (.inr ⟨rfl, _, _, rfl, rfl, by rw [ba_toList, ba_toList, Bool.eq_iff_iff]; simp⟩), okL_keys h h1 h2, ?_⟩
    rw [← Bool.decide_and]; apply decide_eq_decide.2; simp
   ·cases h
 | [], _ :: _, _, _, h, _, _ => by simp [shOk] at h
 | _ :: _, [], _, _, h, _, _ => by simp [shOk] at h
 | _, s :: _, [], _, _, h, _ => by cases s <;> exact h.elim
 | _, s :: _, _, [], _, _, h => by cases s <;> exact h.elim
 | _, [], _ :: _, _, _, h, _ => h.elim
 | _, [], _, _ :: _, _, _, h => h.elim
theorem kc1_rel {s : KS} {x : A} {k : KC} {v : Value} (h : kc1 s x = some k) (hx : Rel ids im w x v) : v = kV1 s k := by
 cases s <;> cases x <;> simp only [kc1] at h <;> first | (cases h; done) | skip
 ·split at h
  ·rename_i hk; cases h; rw [hx.int_inv, kindEq_iff.1 hk]; rfl
  ·cases h
 ·cases h; exact hx.bool_inv
 ·cases h; exact hx.sb_inv
 ·cases h; exact hx.str_inv
theorem kcs_rel : ∀ {sh : List KS} {cs : List A} {k : List KC} {vs : List Value}, kcs sh cs = some k → vs.length = cs.length → (∀ j (h : j < cs.length) (h' : j < vs.length), Rel ids im w cs[j] vs[j]) → kOk sh k ∧ vs = kVs sh k
 | [], [], k, vs, h, hl, _ => by
  simp only [kcs, Option.some.injEq] at h; subst h
  have : vs = [] := by simpa using hl
  subst this; exact ⟨trivial, rfl⟩
 | s :: ss, x :: xs, k, vs, h, hl, hr => by
  simp only [kcs] at h
  split at h
  ·rename_i k0 ks h1 h2
   cases h
   match vs, hl with
   | v :: vs, hl =>
    have e1 := kc1_rel h1 (hr 0 (by simp) (by simp))
    obtain ⟨e2, e3⟩ := kcs_rel (vs := vs) h2 (by simpa using hl) (fun j g g' => hr (j + 1) (by simpa using g) (by simpa using g'))
    simp only [List.getElem_cons_zero] at e1
    refine ⟨?_, by simp only [kVs]; rw [← e1, ← e3]⟩
    cases s <;> cases x <;> simp only [kc1] at h1 <;> first | (cases h1; done) | skip
    ·split at h1
     ·cases h1; exact e2
     ·cases h1
    ·cases h1; exact e2
    ·cases h1; exact e2
    ·cases h1; exact e2
  ·cases h
 | [], _ :: _, _, _, h, _, _ => by simp [kcs] at h
 | _ :: _, [], _, _, h, _, _ => by simp [kcs] at h
theorem keyA_rel {agg : Bool} {sh : List KS} {x : A} {k : List KC} {v : Value} (h : keyA agg sh x = some k) (hx : Rel ids im w x v) : kOk sh k ∧ v = kV agg sh k := by
 unfold keyA at h
 split at h
 ·rename_i cs
  obtain ⟨vs, rfl, hl, _, hr⟩ := hx.agg_inv
  obtain ⟨e1, e2⟩ := kcs_rel h hl hr
  exact ⟨e1, by rw [e2]; rfl⟩
 ·cases h
 ·cases h
 ·obtain ⟨e1, e2⟩ := kcs_rel (vs := [v]) h rfl (fun j g g' => by
   have : j = 0 := by simp at g; omega
   subst this; exact hx)
  exact ⟨e1, by unfold kV; rw [← e2]; rfl⟩

theorem chk_run (em : Bool) : ∀ (d : Nat) (t : TypeId) (sh : List Nat) (xs : List Value) (r : Bool) (dd : Nat), eqShape P d t = some sh → okL sh xs xs r → (Instr.checkKey em (d + dd) t (mkV P t xs)).run P w = .ok () w
 | 0, _, _, _, _, _, h, _ => by simp [eqShape] at h
 | d + 1, t, sh, xs, r, dd, h, hk => by
  have e : d + 1 + dd = (d + dd) + 1 := by omega
  rw [e]
  unfold eqShape at h
  unfold mkV
  split at h
  ·rename_i k hd
   cases h
   obtain ⟨x, y, rfl, _, _⟩ := okL_one hk
   rw [hd]; unfold Instr.checkKey
   simp only [Sem.run_bind, run_underlying hd, Result.andThen_ok]
   rfl
  ·rename_i hd
   cases h
   obtain ⟨x, y, rfl, _, _⟩ := okL_one hk
   rw [hd]; unfold Instr.checkKey
   simp only [Sem.run_bind, run_underlying hd, Result.andThen_ok]
   rfl
  ·rename_i hd
   cases h
   obtain ⟨x, y, rfl, _, _⟩ := okL_one hk
   rw [hd]; unfold Instr.checkKey
   simp only [Sem.run_bind, run_underlying hd, Result.andThen_ok]
   rfl
  ·rename_i fs hd
   split at h
   ·cases h
   ·rw [hd, Instr.checkKey]
    simp only [Sem.run_bind, run_underlying hd, Result.andThen_ok]
    rw [← Array.forIn_toList]
    have key : ∀ (fl : List Field) (acc : Nat) (sh : List Nat) (r : Bool), eqFs P (eqShape P d) acc fl = some sh → okL sh (xs.drop acc) (xs.drop acc) r →
      ((forIn fl PUnit.unit fun f _ => do
       if f.name ≠ "_" then Instr.checkKey em (d + dd) f.type (← part f.type xs.toArray f.offset)
       pure (ForInStep.yield PUnit.unit) : Sem PUnit)).run P w = .ok PUnit.unit w := by
     intro fl
     induction fl with
     | nil => intro acc sh r _ _; simp
     | cons f fl ih =>
      intro acc sh r h1 h2
      unfold eqFs at h1
      split at h1
      ·rename_i s1 i hs hi
       split at h1
       ·rename_i hc
        obtain ⟨hc1, hc2, hc3, hz⟩ := hc
        split at h1
        ·rename_i r0 hr0
         cases h1
         obtain ⟨r1, r2, g1, g2, rfl⟩ := okL_append h2
         obtain ⟨fd, hfd⟩ := eqShape_pos d f.type s1 hs
         have hl := okL_len h2
         simp at hl
         have p1 := run_part (w := w) hi hfd xs acc (by omega) (by omega)
         rw [hc3] at p1
         have q := chk_run em d f.type s1 _ r1 dd hs g1
         rw [List.drop_drop] at g2
         have ih' := ih (acc + s1.length) r0 r2 hr0 g2
         subst hc2
         rw [List.forIn_cons]
         simp only [Sem.run_bind, hc1, ne_eq, not_false_eq_true, if_true, p1, q, Result.andThen_ok, Sem.run_pure]
         exact ih'
        ·cases h1
       ·cases h1
      ·cases h1
    have := key fs.toList 0 sh r h (by simpa using hk)
    simp at this ⊢
    rw [this]; rfl
  ·rename_i n e hd
   split at h
   ·rename_i s1 i hs hi
    split at h
    ·rename_i hc
     cases h
     rw [hd, Instr.checkKey]
     obtain ⟨ed, hed⟩ := eqShape_pos d e s1 hs
     simp only [Sem.run_bind, run_underlying hd, Result.andThen_ok]
     simp only [Std.Legacy.Range.forIn_eq_forIn_range', Std.Legacy.Range.size, Nat.sub_zero, Nat.add_one_sub_one, Nat.div_one]
     have hcells : P.cellsOf e = s1.length := by unfold Program.cellsOf; rw [hi]; simp [hc.1]
     have key : ∀ (k b : Nat) (r : Bool), okL (List.replicate k s1).flatten (xs.drop (b * s1.length)) (xs.drop (b * s1.length)) r →
       ((forIn (List.range' b k) PUnit.unit fun i _ => do
        Instr.checkKey em (d + dd) e (← part e xs.toArray (i * (← sizeOf e)))
        pure (ForInStep.yield PUnit.unit) : Sem PUnit)).run P w = .ok PUnit.unit w := by
      intro k
      induction k with
      | zero => intro b r _; simp
      | succ k ih =>
       intro b r h2
       rw [List.replicate_succ, List.flatten_cons] at h2
       have hl := okL_len h2
       simp only [List.length_drop, List.length_append] at hl
       obtain ⟨r1, r2, g1, g2, rfl⟩ := okL_append h2
       have p1 := run_part (w := w) hi hed xs (b * s1.length) (by omega) (by omega)
       rw [hc.1] at p1
       have q := chk_run em d e s1 _ r1 dd hs g1
       rw [List.drop_drop, ← Nat.succ_mul] at g2
       have ih' := ih (b + 1) r2 g2
       rw [List.range'_succ, List.forIn_cons]
       simp only [Sem.run_bind, run_sizeOf w hi, hcells, p1, q, Result.andThen_ok, Sem.run_pure]
       exact ih'
     have := key n 0 r (by simpa using hk)
     simp at this ⊢
     rw [this]; rfl
    ·cases h
   ·cases h
  ·cases h
end
end Go.Proofs.YtnkbkfjgbejhfaaGreat.Am
namespace Go.Proofs.YtnkbkfjgbejhfaaGreat.Am
variable [Inhabited DRT]
open Go.RowKit (Below)
section
variable {c : Ctx} {s : List A} {m : List Blk} {a : Act} {w w' : World} {ids ids' : Ids} {P : Program} {im im' : Nat → Prop} {tt : TT} {G : GInv}
variable {next : Act → World → Prop} {Q : Exit → Act → World → Prop} {o : Oper}

/-- What is known of a key's type. -/
structure KeyT (P : Program) (kt : TypeId) (agg : Bool) (sh : List KS) : Prop where
 ex : ∃ d ns, P.underlying kt = some d ∧ agg = isRowD d ∧ eqShape P 6 kt = some ns ∧ shOk ns sh = true
theorem KeyT.mkV {kt : TypeId} {agg : Bool} {sh : List KS} (h : KeyT P kt agg sh) (k : List KC) : mkV P kt (kVs sh k) = kV agg sh k := by
 obtain ⟨d, ns, h1, h2, _, _⟩ := h.ex
 unfold Am.mkV kV
 rw [h1, h2]
 cases d <;> rfl
theorem KeyT.chk {kt : TypeId} {agg : Bool} {sh : List KS} (h : KeyT P kt agg sh) {k : List KC} (hk : kOk sh k) (em : Bool) : (Instr.checkKey em 10000 kt (kV agg sh k)).run P w = .ok () w := by
 rw [← h.mkV]
 obtain ⟨d, ns, _, _, h3, h4⟩ := h.ex
 exact chk_run em 6 kt ns _ _ 9994 h3 (okL_keys h4 hk hk)
theorem KeyT.eq {kt : TypeId} {agg : Bool} {sh : List KS} (h : KeyT P kt agg sh) {k k' : List KC} (hk : kOk sh k) (hk' : kOk sh k') : (Op.equal kt (kV agg sh k) (kV agg sh k')).run P w = .ok (decide (k = k')) w := by
 rw [← h.mkV, ← h.mkV]
 obtain ⟨d, ns, _, _, h3, h4⟩ := h.ex
 exact eqShape_run 6 kt ns _ _ _ 9994 h3 (okL_keys h4 hk hk')
theorem ask_run {kt : TypeId} {agg : Bool} {sh : List KS} (h : KeyT P kt agg sh) {k : List KC} (hk : kOk sh k) : ∀ (es : List MapEntry) (f : Nat → List KC) (i0 : Nat), (∀ i (h : i < es.length), kOk sh (f i) ∧ es[i].key = kV agg sh (f i)) →
  ∃ res, (Instr.findAsking kt (kV agg sh k) es i0).run P w = .ok res w ∧ ((res = none ∧ ∀ i, i < es.length → f i ≠ k) ∨ ∃ i, ∃ (h : i < es.length), f i = k ∧ res = some (i0 + i, es[i].val))
 | [], f, i0, _ => ⟨none, by simp [Instr.findAsking], .inl ⟨rfl, fun _ h => by simp at h⟩⟩
 | e :: es, f, i0, hf => by
  have h0 := hf 0 (by simp)
  have he := h.eq (w := w) hk h0.1
  have h0' : e.key = kV agg sh (f 0) := h0.2
  rw [← h0'] at he
  by_cases hkk : k = f 0
  ·refine ⟨some (i0, e.val), ?_, .inr ⟨0, by simp, hkk.symm, rfl⟩⟩
   simp only [Instr.findAsking, Sem.run_bind, he, Result.andThen_ok]
   rw [decide_eq_true hkk]; rfl
  ·obtain ⟨res, h1, h2⟩ := ask_run h hk es (fun i => f (i + 1)) (i0 + 1) (fun i hi => hf (i + 1) (by simpa using hi))
   refine ⟨res, ?_, ?_⟩
   ·simp only [Instr.findAsking, Sem.run_bind, he, Result.andThen_ok]
    rw [decide_eq_false hkk]; exact h1
   ·rcases h2 with ⟨e1, e2⟩ | ⟨i, hi, e1, e2⟩
    ·refine .inl ⟨e1, fun i hi => ?_⟩
     cases i with
     | zero => exact fun e => hkk e.symm
     | succ i => exact e2 i (by simpa using hi)
    ·exact .inr ⟨i + 1, by simpa using hi, e1, by rw [e2]; simp; omega⟩
theorem now_run {d : TypeDesc} {sh : List KS} (hsame : ∀ k k', kOk sh k → kOk sh k' → Instr.sameNow d (kV false sh k) (kV false sh k') = some (decide (k = k'))) {k : List KC} (hk : kOk sh k) : ∀ (es : List MapEntry) (f : Nat → List KC) (i0 : Nat), (∀ i (h : i < es.length), kOk sh (f i) ∧ es[i].key = kV false sh (f i)) →
  ∃ res, Instr.findNow d (kV false sh k) es i0 = some res ∧ ((res = none ∧ ∀ i, i < es.length → f i ≠ k) ∨ ∃ i, ∃ (h : i < es.length), f i = k ∧ res = some (i0 + i, es[i].val))
 | [], f, i0, _ => ⟨none, rfl, .inl ⟨rfl, fun _ h => by simp at h⟩⟩
 | e :: es, f, i0, hf => by
  have h0 := hf 0 (by simp)
  have he := hsame k (f 0) hk h0.1
  have h0' : e.key = kV false sh (f 0) := h0.2
  rw [← h0'] at he
  by_cases hkk : k = f 0
  ·refine ⟨some (i0, e.val), ?_, .inr ⟨0, by simp, hkk.symm, rfl⟩⟩
   rw [decide_eq_true hkk] at he
   simp only [Instr.findNow, he]
  ·rw [decide_eq_false hkk] at he
   obtain ⟨res, h1, h2⟩ := now_run hsame hk es (fun i => f (i + 1)) (i0 + 1) (fun i hi => hf (i + 1) (by simpa using hi))
   refine ⟨res, ?_, ?_⟩
   ·simp only [Instr.findNow, he]; exact h1
   ·rcases h2 with ⟨e1, e2⟩ | ⟨i, hi, e1, e2⟩
    ·refine .inl ⟨e1, fun i hi => ?_⟩
     cases i with
     | zero => exact fun e => hkk e.symm
     | succ i => exact e2 i (by simpa using hi)
    ·exact .inr ⟨i + 1, by simpa using hi, e1, by rw [e2]; simp; omega⟩
theorem kOk_one {s : KS} {k : List KC} (h : kOk [s] k) : ∃ x, k = [x] ∧ kOk [s] [x] := by
 match k, h with
 | [x], h => exact ⟨x, rfl, h⟩
 | [], h => cases s <;> exact h.elim
 | x :: y :: l, h => cases s <;> cases x <;> exact h.elim
theorem find_run {kt : TypeId} {agg : Bool} {sh : List KS} (h : KeyT P kt agg sh) {k : List KC} (hk : kOk sh k) (es : Array MapEntry) (f : Nat → List KC) (hf : ∀ i (h : i < es.size), kOk sh (f i) ∧ es[i].key = kV agg sh (f i)) :
  ∃ res, (Instr.findKey kt (kV agg sh k) es.toList).run P w = .ok res w ∧ ((res = none ∧ ∀ i, i < es.size → f i ≠ k) ∨ ∃ i, ∃ (h : i < es.size), f i = k ∧ res = some (i, es[i].val)) := by
 obtain ⟨d, ns, h1, h2, h3, h4⟩ := h.ex
 have hf' : ∀ i (h : i < es.toList.length), kOk sh (f i) ∧ es.toList[i].key = kV agg sh (f i) := fun i hi => by simpa using hf i (by simpa using hi)
 cases agg with
 | true =>
  have hw : (match P.underlying kt with | some (.array _ _) | some (.struct _) => true | _ => false) = true := by
   rw [h1]; cases d <;> simp [isRowD] at h2 <;> rfl
  obtain ⟨res, e1, e2⟩ := ask_run (w := w) h hk es.toList f 0 hf'
  exact ⟨res, by rw [run_findKey_eq w hw]; exact e1, by simpa using e2⟩
 | false =>
  have hsame : ∀ k k', kOk sh k → kOk sh k' → Instr.sameNow d (kV false sh k) (kV false sh k') = some (decide (k = k')) := by
   intro k k' g1 g2
   unfold eqShape at h3
   rw [h1] at h3
   cases d <;> simp [isRowD] at h2 <;> simp only at h3 <;> first | (cases h3; done) | skip
   all_goals
    cases h3
    match sh, h4, g1, g2 with
    | [s], h4, g1, g2 =>
     obtain ⟨x, rfl, g1⟩ := kOk_one g1
     obtain ⟨y, rfl, g2⟩ := kOk_one g2
     cases s <;> simp [shOk] at h4 <;> cases x <;> first | exact g1.elim | skip
     all_goals
      cases y <;> first | exact g2.elim | skip
      simp [kV, kVs, kV1, Instr.sameNow, Bool.beq_eq_decide_eq]
      try (rw [beq_toListBytes, ba_toList, ba_toList, Bool.eq_iff_iff]; simp)
    | [], h4, _, _ => simp [shOk] at h4
    | s :: s' :: ss, h4, _, _ => cases s <;> simp [shOk] at h4
  obtain ⟨res, e1, e2⟩ := now_run hsame hk es.toList f 0 hf'
  exact ⟨res, MapKept.run_findKey h1 e1, by simpa using e2⟩

/-- What a map's type tells. -/
theorem mapTy_inv (htt : TTok P tt) {t : TypeId} {K : Bool → List KS → A → Prop} (h : mapTy tt t K) (im : Nat → Prop) (w : World) :
  ∃ kt et agg sh z zv, P.underlying t = some (.map kt et) ∧ KeyT P kt agg sh ∧ (zeroValue et).run P w = .ok zv w ∧ RelI im w z zv ∧ K agg sh z := by
 unfold mapTy at h
 split at h
 ·exact h.elim
 ·rename_i ti hti
  split at h
  ·rename_i tk te hk htk hte
   split at h
   ·rename_i ns sh hns hsh
    split at h
    ·rename_i hok hlen
     obtain ⟨i, d, z0, g1, g2, g3, g4, g5, g6, g7, g8, _, _, _, _, _, _, g9, _⟩ := htt.facts htk
     obtain ⟨zv, z1, z2, z3⟩ := htt.zeroRun hte im w
     have hkt : KeyT P ti.alen tk.agg sh := ⟨d, ns, g2, g8, by rw [← g9]; exact hns, hok⟩
     rw [fB_eq] at h
     split at h
     ·rename_i ha
      rw [fl_eq] at h
      exact ⟨_, _, _, _, _, zv, htt.mapFact hti hk, hkt, z1, z2 ha, h⟩
     ·rename_i ha
      obtain ⟨z, e1, e2⟩ := z3 ha
      rw [e1] at h
      simp only [fv_eq] at h
      exact ⟨_, _, _, _, _, zv, htt.mapFact hti hk, hkt, z1, e2, h⟩
    ·exact h.elim
   ·exact h.elim
  ·exact h.elim

theorem look_run {t kt et : TypeId} {agg : Bool} {sh : List KS} (ht : P.underlying t = some (.map kt et)) (hkt : KeyT P kt agg sh) {zv : Value} (hz : (zeroValue et).run P w = .ok zv w) {k : List KC} (hk : kOk sh k)
  {r : Nat} {es : Array MapEntry} {clock : Nat} (hh : w.heap[r]? = some (.map es clock)) {f : Nat → List KC} (hf : ∀ i (h : i < es.size), kOk sh (f i) ∧ es[i].key = kV agg sh (f i)) (ok : Bool) :
  (∃ i, ∃ (h : i < es.size), f i = k ∧ (Instr.lookup t (.map (some r)) (kV agg sh k) ok).run P w = .ok (if ok then .tuple #[es[i].val, .bool true] else es[i].val) w) ∨
  ((∀ i, i < es.size → f i ≠ k) ∧ (Instr.lookup t (.map (some r)) (kV agg sh k) ok).run P w = .ok (if ok then .tuple #[zv, .bool false] else zv) w) := by
 obtain ⟨res, e1, e2⟩ := find_run (w := w) hkt hk es f hf
 have hc := hkt.chk (w := w) hk es.isEmpty
 rcases e2 with ⟨rfl, e2⟩ | ⟨i, hi, e2, rfl⟩
 ·refine .inr ⟨e2, ?_⟩
  simp only [Instr.lookup, Sem.run_bind, run_underlying ht, Result.andThen_ok, MapKept.run_getObj_map hh, Sem.run_pure, hc, e1, hz]
 ·refine .inl ⟨i, hi, e2, ?_⟩
  simp only [Instr.lookup, Sem.run_bind, run_underlying ht, Result.andThen_ok, MapKept.run_getObj_map hh, Sem.run_pure, hc, e1]

theorem sLook_sound (htt : TTok P tt) (hs : Sim c s m a w ids) {t : TypeId} {X Y : Operand} {ok : Bool} (ho : o.op = .lookup t X Y ok) {K : KT} (h : sLook tt t (ev s X) (ev s Y) ok m fun v => K v m) (hn : NextOk c s o K next) : o.wp P a w next Q := by
 have e : execOp a.eval o = (do pure (.value (← Instr.lookup t (a.eval X) (a.eval Y) ok))) := by
  obtain ⟨dst, op, ty, pos, after, guard⟩ := o
  simp only at ho; subst ho; rfl
 unfold sLook at h
 obtain ⟨kt, et, agg, sh, z, zv, h1, h2, h3, h4, h⟩ := mapTy_inv htt h (imOf c ids w) w
 split at h
 ·exact h.elim
 ·rename_i k hk
  obtain ⟨g1, g2⟩ := keyA_rel hk (hs.ev Y)
  have main : ∀ (has : List KC → Bool) (val : List KC → A) (r : Nat) (es : Array MapEntry) (clock : Nat) (f : Nat → List KC), a.eval X = .map (some r) → w.heap[r]? = some (.map es clock) →
    (∀ i (h : i < es.size), kOk sh (f i) ∧ es[i].key = kV agg sh (f i) ∧ has (f i) = true) → (∀ k, kOk sh k → has k = true → ∃ i, i < es.size ∧ f i = k) → (∀ i (h : i < es.size), RelI (imOf c ids w) w (val (f i)) es[i].val) →
    lookR z k ok has val (fun v => K v m) → o.wp P a w next Q := by
   intro has val r es clock f q1 q2 q3 q4 q5 q6
   simp only [lookR, fd_eq] at q6
   rcases look_run h1 h2 h3 g1 q2 (fun i hi => ⟨(q3 i hi).1, (q3 i hi).2.1⟩) ok with ⟨i, hi, e1, e2⟩ | ⟨e1, e2⟩
   ·have hhas : has k = true := by rw [← e1]; exact (q3 i hi).2.2
    have hrel := q5 i hi
    rw [e1] at hrel
    cases ok with
    | true =>
     refine wp_val hs hn ⟨_, .tuple #[es[i].val, .bool true], by rw [e, q1, g2]; simp only [Sem.run_bind, e2, Result.andThen_ok]; rfl, q6.1 hhas, ?_⟩
     exact .imm (.tup [val k, .bool true] [es[i].val, .bool true] rfl (fun j g g' => by
      match j with
      | 0 => exact hrel
      | 1 => exact .bool true
      | j + 2 => exact absurd g (by simp)))
    | false => exact wp_val hs hn ⟨_, es[i].val, by rw [e, q1, g2]; simp only [Sem.run_bind, e2, Result.andThen_ok]; rfl, q6.1 hhas, .imm hrel⟩
   ·have hhas : has k = false := by
     cases hb : has k with
     | false => rfl
     | true => obtain ⟨i, hi, he⟩ := q4 k g1 hb; exact absurd he (e1 i hi)
    cases ok with
    | true =>
     refine wp_val hs hn ⟨_, .tuple #[zv, .bool false], by rw [e, q1, g2]; simp only [Sem.run_bind, e2, Result.andThen_ok]; rfl, q6.2 hhas, ?_⟩
     exact .imm (.tup [z, .bool false] [zv, .bool false] rfl (fun j g g' => by
      match j with
      | 0 => exact h4
      | 1 => exact .bool false
      | j + 2 => exact absurd g (by simp)))
    | false => exact wp_val hs hn ⟨_, zv, by rw [e, q1, g2]; simp only [Sem.run_bind, e2, Result.andThen_ok]; rfl, q6.2 hhas, .imm h4⟩
  have hx := hs.ev X
  split at h
  ·rename_i agg' sh' has val hv; rw [hv] at hx
   unfold lookG at h
   split at h
   ·rename_i hb1 hb2
    have hb1 := boolEq_iff hb1
    have hb2 := ksEq_iff hb2
    subst hb1; subst hb2
    cases hx with
    | imm hx =>
     generalize hX : a.eval X = V at hx
     cases hx with
     | mv _ _ _ _ r es clock f hb hh hk' hd hc hv' => exact main has val r es clock f hX hh hk' hc hv' h
   ·exact h.elim
  ·rename_i b hv; rw [hv] at hx
   split at h
   ·rename_i agg' sh' has val hmb
    unfold lookG at h
    split at h
    ·rename_i hb1 hb2
     have hb1 := boolEq_iff hb1
     have hb2 := ksEq_iff hb2
     subst hb1; subst hb2
     obtain ⟨p, h5, h6⟩ := hs.omap_at hx (by rw [hmb]; simp)
     obtain ⟨x, hxm, hbr⟩ := hs.blk_at h5
     rw [getD_of_get hxm] at hmb; subst hmb
     obtain ⟨es, clock, f, q1, q2, q3, q4, q5⟩ := hbr
     exact main has val p.blk es clock f h6 q1 q2 q4 q5.1 h
    ·exact h.elim
   ·exact h.elim
  ·rename_i hv; rw [hv] at hx
   have hX := hx.nilm_inv
   have hc := h2.chk (w := w) g1 true
   have hrun : (Instr.lookup t (.map none) (kV agg sh k) ok).run P w = .ok (if ok then .tuple #[zv, .bool false] else zv) w := by
    have hfk : (Instr.findKey kt (kV agg sh k) ([] : List MapEntry)).run P w = .ok none w := by
     obtain ⟨res, e1, e2⟩ := find_run (w := w) h2 g1 #[] (fun _ => []) (fun i hi => by simp at hi)
     rcases e2 with ⟨rfl, _⟩ | ⟨i, hi, _⟩
     ·exact e1
     ·simp at hi
    simp only [Instr.lookup, Sem.run_bind, run_underlying h1, Result.andThen_ok, Sem.run_pure]
    simp only [Array.isEmpty_empty, hc, Result.andThen_ok, hfk]
    simp only [Sem.run_bind, h3, Result.andThen_ok, Sem.run_pure]
   split at h
   ·refine wp_val hs hn ⟨_, .tuple #[zv, .bool false], by rw [e, hX, g2]; simp only [Sem.run_bind, hrun, Result.andThen_ok]; rfl, h, ?_⟩
    exact .imm (.tup [z, .bool false] [zv, .bool false] rfl (fun j g g' => by
     match j with
     | 0 => exact h4
     | 1 => exact .bool false
     | j + 2 => exact absurd g (by simp)))
   ·exact wp_val hs hn ⟨_, zv, by rw [e, hX, g2]; simp only [Sem.run_bind, hrun, Result.andThen_ok]; rfl, h, .imm h4⟩
  ·exact h.elim

/-- A block of ours that is an object is written. -/
theorem Sim.setObj (hs : Sim c s m a w ids) (b : Nat) (p : Id) (hid : ids[b]? = some (.lv p)) (x : Blk) (ob : Obj)
  (hx : ∀ w', w'.heap[p.blk]? = some ob → (∀ a v, RelI (imOf c ids w) w a v → RelI (imOf c ids w') w' a v) → BRel ids (imOf c ids w') w' x (.lv p)) :
  Sim c s (m.set b x) a { w with heap := w.heap.setIfInBounds p.blk ob } ids := by
 have hmem : IdE.lv p ∈ ids := List.mem_of_getElem? hid
 have hfr := hs.fresh p hmem
 have hsz : ({ w with heap := w.heap.setIfInBounds p.blk ob } : World).heap.size = w.heap.size := by simp
 have hoth : ∀ k, k ≠ p.blk → ({ w with heap := w.heap.setIfInBounds p.blk ob } : World).heap[k]? = w.heap[k]? := by
  intro k hk; simp [Array.getElem?_setIfInBounds_ne (fun e => hk e.symm)]
 have hown : ∀ p', IdE.lv p' ∈ ids → ∀ x, p'.has x → x < ({ w with heap := w.heap.setIfInBounds p.blk ob } : World).heap.size ∧ (w.heap.size ≤ x ∨ ∃ (b : Nat) (p : Id), ids[b]? = some (.lv p) ∧ p.has x) := by
  intro p' hp' y hy
  obtain ⟨k, hk⟩ := List.getElem?_of_mem hp'
  exact ⟨by rw [hsz]; exact (hs.freshX p' hp' y hy).2, .inr ⟨k, p', hk, hy⟩⟩
 have hbl : ∀ k, k < w.heap.size → (∀ (b : Nat) (p : Id), ids[b]? = some (.lv p) → ¬ p.has k) → ({ w with heap := w.heap.setIfInBounds p.blk ob } : World).heap[k]? = w.heap[k]? :=
  fun k _ hk => hoth k (fun e => hk b p hid (.inl e))
 obtain ⟨hi1, hi2⟩ := hs.im_stays (w' := { w with heap := w.heap.setIfInBounds p.blk ob }) (ids' := ids) (by rw [hsz]; exact Nat.le_refl _) hbl hown
 refine hs.goOn rfl rfl rfl (by rw [hsz]; exact Nat.le_refl _) hbl hown (fun _ h => h) hs.distinctX rfl (by simp [hs.mlen]) (fun i h h' => (hs.slots i h h').mono hi1 hi2 (fun _ _ h _ => h)) ?_
 intro k hk hk'
 simp only [List.length_set] at hk
 rw [List.getElem_set]
 split
 ·rename_i he
  subst he
  have e : ids[b] = .lv p := by rw [List.getElem?_eq_getElem hk'] at hid; exact Option.some.inj hid
  rw [e]
  refine hx _ ?_ (fun a v h => h.mono hi1 hi2)
  simp [hfr.2]
 ·rename_i he
  refine (hs.blks k hk hk').mono hi1 hi2 (fun _ _ h _ => h) ?_
  intro q hq y hy
  refine hoth y (fun e => he ?_)
  exact hs.distinctX b k p q y hid (by rw [List.getElem?_eq_getElem hk', hq]) (.inl e) hy

theorem sameBits_keys : ∀ (sh : List KS) (k : List KC), kOk sh k → ∀ n, ((kVs sh k).zip (kVs sh k)).all (fun (x, y) => Instr.sameBits n x y) = true
 | [], [], _, n => rfl
 | s :: ss, x :: k, h, n => by
  cases s <;> cases x <;> first | exact h.elim | skip
  all_goals
   simp only [kVs, List.zip_cons_cons, List.all_cons, Bool.and_eq_true]
   refine ⟨by simp [kV1, Instr.sameBits, beq_toListBytes], sameBits_keys ss k h n⟩
 | [], _ :: _, h, _ => h.elim
 | s :: _, [], h, _ => by cases s <;> exact h.elim
theorem sameBits_kV {agg : Bool} {sh : List KS} {k : List KC} (hk : kOk sh k) (h1 : agg = false → sh.length = 1) : Instr.sameBits 10000 (kV agg sh k) (kV agg sh k) = true := by
 cases agg with
 | true =>
  have := sameBits_keys sh k hk 9999
  simp only [kV, Instr.sameBits]
  simpa using this
 | false =>
  match sh, k, hk, h1 rfl with
  | [s], k, hk, _ =>
   obtain ⟨x, rfl, hk⟩ := kOk_one hk
   cases s <;> cases x <;> first | exact hk.elim | simp [kV, kVs, kV1, Instr.sameBits, beq_toListBytes]
theorem KeyT.len1 {kt : TypeId} {agg : Bool} {sh : List KS} (h : KeyT P kt agg sh) (ha : agg = false) : sh.length = 1 := by
 obtain ⟨d, ns, h1, h2, h3, h4⟩ := h.ex
 subst ha
 unfold eqShape at h3
 rw [h1] at h3
 cases d <;> simp [isRowD] at h2 <;> simp only at h3 <;> first | (cases h3; done) | skip
 all_goals
  cases h3
  match sh, h4 with
  | [s], _ => rfl
  | [], h4 => simp [shOk] at h4
  | s :: s' :: ss, h4 => cases s <;> simp [shOk] at h4

theorem upd_run {t kt et : TypeId} {agg : Bool} {sh : List KS} (ht : P.underlying t = some (.map kt et)) (hkt : KeyT P kt agg sh) {k : List KC} (hk : kOk sh k)
  {r : Nat} {es : Array MapEntry} {clock : Nat} (hh : w.heap[r]? = some (.map es clock)) {f : Nat → List KC} (hf : ∀ i (h : i < es.size), kOk sh (f i) ∧ es[i].key = kV agg sh (f i)) (v : Value) :
  (∃ i, ∃ (_ : i < es.size), f i = k ∧ (Instr.mapUpdate t (.map (some r)) (kV agg sh k) v).run P w = .ok () { w with heap := w.heap.setIfInBounds r (.map (es.modify i fun e => { e with key := kV agg sh k, val := v }) clock) }) ∨
  ((∀ i, i < es.size → f i ≠ k) ∧ (Instr.mapUpdate t (.map (some r)) (kV agg sh k) v).run P w = .ok () { w with heap := w.heap.setIfInBounds r (.map (es.push { key := kV agg sh k, val := v, born := clock }) (clock + 1)) }) := by
 obtain ⟨res, e1, e2⟩ := find_run (w := w) hkt hk es f hf
 have hc := hkt.chk (w := w) hk false
 rcases e2 with ⟨rfl, e2⟩ | ⟨i, hi, e2, rfl⟩
 ·refine .inr ⟨e2, ?_⟩
  simp only [Instr.mapUpdate, Sem.run_bind, run_underlying ht, Result.andThen_ok, MapKept.run_getObj_map hh, hc, e1]
  exact MapKept.run_setObj_map _ hh
 ·refine .inl ⟨i, hi, e2, ?_⟩
  have hst : (Instr.keyThatStays (((es[i]?).map (·.key)).getD (kV agg sh k)) (kV agg sh k)).run P w = .ok (kV agg sh k) w := by
   have : ((es[i]?).map (·.key)).getD (kV agg sh k) = kV agg sh k := by
    rw [Array.getElem?_eq_getElem hi]
    show es[i].key = _
    rw [(hf i hi).2, e2]
   rw [this]
   unfold Instr.keyThatStays
   rw [if_pos (sameBits_kV hk hkt.len1)]
   rfl
  simp only [Instr.mapUpdate, Sem.run_bind, run_underlying ht, Result.andThen_ok, MapKept.run_getObj_map hh, hc, e1, hst]
  exact MapKept.run_setObj_map _ hh

theorem sUpd_sound (htt : TTok P tt) (hs : Sim c s m a w ids) {t : TypeId} {X Y Z : Operand} (ho : o.op = .mapUpdate t X Y Z ∨ o.op = .insert t X Y Z) {K : KT} (h : sUpd tt t (ev s X) (ev s Y) (ev s Z) m K) (hn : NextOk c s o K next) : o.wp P a w next Q := by
 have e : execOp a.eval o = (do Instr.mapUpdate t (a.eval X) (a.eval Y) (a.eval Z); pure .skip) := by
  obtain ⟨dst, op, ty, pos, after, guard⟩ := o
  simp only at ho; rcases ho with ho | ho <;> subst ho <;> rfl
 unfold sUpd at h
 obtain ⟨kt, et, agg, sh, z, zv, h1, h2, _, _, h⟩ := mapTy_inv htt h (imOf c ids w) w
 split at h
 ·rename_i k b hk hx' hown
  have hx := hs.ev X; rw [hx'] at hx
  obtain ⟨g1, g2⟩ := keyA_rel hk (hs.ev Y)
  have hv := hasOwn_rel 4 _ _ hown (hs.ev Z)
  split at h
  ·rename_i agg' sh' has val hmb
   split at h
   ·rename_i hb1 hb2
    have hb1 := boolEq_iff hb1
    have hb2 := ksEq_iff hb2
    subst hb1; subst hb2
    rw [fd_eq, setB_eq] at h
    obtain ⟨p, h5, h6⟩ := hs.omap_at hx (by rw [hmb]; simp)
    obtain ⟨x, hxm, hbr⟩ := hs.blk_at h5
    rw [getD_of_get hxm] at hmb; subst hmb
    obtain ⟨es, clock, f, q1, q2, q3, q4, q5, q6, q7⟩ := hbr
    rcases upd_run h1 h2 g1 q1 (fun i hi => ⟨(q2 i hi).1, (q2 i hi).2.1⟩) (a.eval Z) with ⟨i, hi, e1, e2⟩ | ⟨e1, e2⟩
    ·refine wp_of_skip (by rw [e, h6, g2]; simp only [Sem.run_bind, e2, Result.andThen_ok]; rfl) (hn _ _ _ _ ids h (Sim.junk_put (hs.setObj b p h5 _ _ ?_) _ _))
     intro w' hw' hm'
     refine ⟨_, clock, f, hw', ?_, ?_, ?_, ?_, ?_, ?_⟩
     ·intro j hj
      have hj' : j < es.size := by simpa using hj
      rw [Array.getElem_modify]
      split
      ·rename_i hij; subst hij
       exact ⟨(q2 i hj').1, by rw [e1], by simp [putH, e1]⟩
      ·exact ⟨(q2 j hj').1, (q2 j hj').2.1, by
        unfold putH; split
        ·rfl
        ·exact (q2 j hj').2.2⟩
     ·intro i j g3 g4; exact q3 i j (by simpa using g3) (by simpa using g4)
     ·intro k' g3 g4
      unfold putH at g4
      split at g4
      ·rename_i he; subst he; exact ⟨i, by simpa using hi, e1⟩
      ·obtain ⟨j, hj, hj'⟩ := q4 k' g3 g4; exact ⟨j, by simpa using hj, hj'⟩
     ·intro j hj
      have hj' : j < es.size := by simpa using hj
      rw [Array.getElem_modify]
      split
      ·rename_i hij; subst hij
       unfold putV; rw [if_pos e1]; exact hm' _ _ hv
      ·rename_i hij
       unfold putV; rw [if_neg (fun he => hij (q3 i j hi hj' (by rw [e1, he])))]
       exact hm' _ _ (q5 j hj')
     ·intro j hj
      have hj' : j < es.size := by simpa using hj
      rw [Array.getElem_modify]
      split
      ·exact q6 j hj'
      ·exact q6 j hj'
     ·intro j j' hj hj' he
      have h1 : j < es.size := by simpa using hj
      have h2 : j' < es.size := by simpa using hj'
      refine q7 j j' h1 h2 ?_
      rw [Array.getElem_modify, Array.getElem_modify] at he
      split at he <;> split at he <;> exact he
    ·refine wp_of_skip (by rw [e, h6, g2]; simp only [Sem.run_bind, e2, Result.andThen_ok]; rfl) (hn _ _ _ _ ids h (Sim.junk_put (hs.setObj b p h5 _ _ ?_) _ _))
     intro w' hw' hm'
     obtain ⟨F, F1, F2⟩ : ∃ F : Nat → List KC, F es.size = k ∧ ∀ j, j < es.size → F j = f j := ⟨fun j => if j = es.size then k else f j, by simp, fun j h => by simp [Nat.ne_of_lt h]⟩
     refine ⟨_, clock + 1, F, hw', ?_, ?_, ?_, ?_, ?_, ?_⟩
     ·intro j hj
      have hj' : j < es.size + 1 := by simpa using hj
      rw [Array.getElem_push]
      split
      ·rename_i hlt
       rw [F2 j hlt]
       exact ⟨(q2 j hlt).1, (q2 j hlt).2.1, by
        unfold putH; split
        ·rfl
        ·exact (q2 j hlt).2.2⟩
      ·rename_i hlt
       have : j = es.size := by omega
       rw [this, F1]
       exact ⟨g1, rfl, by simp [putH]⟩
     ·intro i j g3 g4 g5
      have g3 : i < es.size + 1 := by simpa using g3
      have g4 : j < es.size + 1 := by simpa using g4
      by_cases hi : i < es.size <;> by_cases hj : j < es.size
      ·rw [F2 i hi, F2 j hj] at g5; exact q3 i j hi hj g5
      ·have : j = es.size := by omega
       rw [this, F1, F2 i hi] at g5; exact absurd g5 (e1 i hi)
      ·have : i = es.size := by omega
       rw [this, F1, F2 j hj] at g5; exact absurd g5.symm (e1 j hj)
      ·omega
     ·intro k' g3 g4
      unfold putH at g4
      split at g4
      ·rename_i he; subst he; exact ⟨es.size, by simp, F1⟩
      ·obtain ⟨j, hj, hj'⟩ := q4 k' g3 g4
       exact ⟨j, by simp; omega, by rw [F2 j hj]; exact hj'⟩
     ·intro j hj
      have hj' : j < es.size + 1 := by simpa using hj
      rw [Array.getElem_push]
      split
      ·rename_i hlt
       rw [F2 j hlt]
       unfold putV; rw [if_neg (e1 j hlt)]
       exact hm' _ _ (q5 j hlt)
      ·rename_i hlt
       have : j = es.size := by omega
       rw [this, F1]
       unfold putV; rw [if_pos rfl]; exact hm' _ _ hv
     ·intro j hj
      rw [Array.getElem_push]
      split
      ·rename_i hlt; exact Nat.lt_succ_of_lt (q6 j hlt)
      ·exact Nat.lt_succ_self _
     ·intro j j' hj hj' he
      have h1 : j < es.size + 1 := by simpa using hj
      have h2 : j' < es.size + 1 := by simpa using hj'
      rw [Array.getElem_push, Array.getElem_push] at he
      split at he <;> split at he
      ·rename_i a b; exact q7 j j' a b he
      ·rename_i a b; have := q6 j a; simp only at he; omega
      ·rename_i a b; have := q6 j' b; simp only at he; omega
      ·omega
   ·exact h.elim
  ·exact h.elim
 ·exact h.elim

theorem sMkMap_sound (htt : TTok P tt) (hs : Sim c s m a w ids) {t : TypeId} (ho : o.op = .makeMap t none) {K : KT} (h : sMkMap tt t m K) (hn : NextOk c s o K next) : o.wp P a w next Q := by
 have e : execOp a.eval o = (do pure (.value (← Instr.makeMap t none))) := by
  obtain ⟨dst, op, ty, pos, after, guard⟩ := o
  simp only at ho; subst ho; rfl
 unfold sMkMap at h
 obtain ⟨kt, et, agg, sh, z, zv, h1, h2, _, _, h⟩ := mapTy_inv htt h (imOf c ids w) w
 rw [pushB_eq] at h
 have hb := below_alloc w (.map #[] 0)
 have hnew : (w.alloc (.map #[] 0)).heap[w.heap.size]? = some (.map #[] 0) := by
  show (w.heap.push _)[w.heap.size]? = _
  simp
 have hs' := hs.grow hb [.mapb agg sh (fun _ => false) (fun _ => .junk)] [.lv (mkId w.heap.size 0 0 0)] rfl (fun i g1 g2 => by
   have : i = 0 := by simp at g1; omega
   subst this
   exact ⟨#[], 0, fun _ => [], hnew, (fun i h => by simp at h), (fun i j h => by simp at h), (fun k _ h => by simp at h), (fun i h => by simp at h), (fun i h => by simp at h), (fun i j h => by simp at h)⟩)
  (fun p hp x hx => by
   simp at hp; subst hp
   rw [mkId_has hx]
   refine ⟨Nat.le_refl _, ?_⟩
   show _ < (w.heap.push _).size
   simp) (fun vs h => by simp at h) (fun i j p q x g1 g2 _ _ => by
   cases i with
   | zero => cases j with
    | zero => rfl
    | succ j => simp at g2
   | succ i => simp at g1)
 refine wp_of_run (v := .map (some w.heap.size)) (w' := w.alloc (.map #[] 0)) (by rw [e]; simp only [Sem.run_bind, RowKit.run_makeMap, Result.andThen_ok]; rfl) (hn _ _ _ _ _ h (hs'.putD o.dst (.omap m.length (mkId w.heap.size 0 0 0) ?_)))
 rw [← hs.mlen]; simp
end
end Go.Proofs.YtnkbkfjgbejhfaaGreat.Am
namespace Go.Proofs.YtnkbkfjgbejhfaaGreat.Am
variable [Inhabited DRT]
open Go.RowKit (Below)

/-! ### A row of ours becomes the one inner row of a new nest; a nest behind a nest -/
def catN {α : Type} (n : Nat) (f g : Nat → α) : Nat → α := fun i => match Nat.blt i n with
 | true => f i
 | false => g (i - n)
theorem catN_lt {α : Type} {n i : Nat} (f g : Nat → α) (h : i < n) : catN n f g i = f i := by
 unfold catN; rw [show Nat.blt i n = true from Nat.ble_eq_true_of_le h]
theorem catN_ge {α : Type} {n i : Nat} (f g : Nat → α) (h : n ≤ i) : catN n f g i = g (i - n) := by
 unfold catN
 split
 ·rename_i h'
  have : i < n := Nat.le_of_ble_eq_true h'
  omega
 ·rfl
def sBuildN (tt : TT) (t : TypeId) (b' : Nat) (s : List A) (m : List Blk) (K : List A → A → List Blk → Prop) : Prop :=
 match tt.lookup t, m.getD b' .dead with
 | some ti, .row ety sz n' row' => match ti.kind, Nat.beq ti.esz 1 with
  | 3, true => fnat ti.ety fun ty => setB m b' .gone fun m1 => pushB m1 (.nest ty ety sz 1 none (fun _ => n') (fun _ => row')) fun b m' => K s (.own b) m'
  | _, _ => False
 | _, _ => False
def sAppN (tt : TT) (t : TypeId) (b b2 : Nat) (ty ety sz n : Nat) (len : Nat → Nat) (row : Nat → Nat → List A) (ty2 ety2 sz2 n2 : Nat) (len2 : Nat → Nat) (row2 : Nat → Nat → List A) (s : List A) (m : List Blk) (K : List A → A → List Blk → Prop) : Prop :=
 match tt.lookup t with
 | none => False
 | some ti => match ti.kind, Nat.beq ti.esz 1, Nat.beq ty ti.ety, Nat.beq ty2 ty, Nat.beq ety2 ety, Nat.beq sz2 sz, Nat.beq b b2, n2 with
  | 3, true, true, true, true, true, false, k + 1 => fnat ti.ebytes fun eb => (n + (k + 1) ≤ 140737488355328 ∧ (n + (k + 1)) * eb ≤ 140737488355328) ∧
   fd.fdl 4 (s.map (scr b 4)) fun s' => fbs (((m.map (scrB b 4)).set b (.nest ty ety sz (n + (k + 1)) none (catN n len len2) (catN n row row2))).set b2 .gone) fun m' => K s' (.own b) m'
  | _, _, _, _, _, _, _, _ => False

def sLenN (tt : TT) (t : TypeId) (n : Nat) (s : List A) (m : List Blk) (K : List A → A → List Blk → Prop) : Prop :=
 match tt.lookup t with
 | none => False
 | some ti => match ti.kind with
  | 3 => K s (.int .i64 n) m
  | _ => False
section
variable {c : Ctx} {s : List A} {m : List Blk} {a : Act} {w w' : World} {ids ids' : Ids} {P : Program} {im im' : Nat → Prop} {tt : TT} {G : GInv}
variable {next : Act → World → Prop} {Q : Exit → Act → World → Prop} {o : Oper}

theorem sBuildN_sound (htt : TTok P tt) (hs : Sim c s m a w ids) {t : TypeId} {X : Operand} {b' : Nat} (ho : o.op = .buildSlice t 1 #[(0, X)]) (hX : ev s X = .own b')
  {K : List A → A → List Blk → Prop} (h : sBuildN tt t b' s m K)
  (hn : ∀ s1 v m' a' w' ids', K s1 v m' → Sim c (putD s1 o.dst v) m' a' w' ids' → next a' w') : o.wp P a w next Q := by
 have hx := hs.ev X
 rw [hX] at hx
 unfold sBuildN at h
 split at h
 ·rename_i ti ety sz n' row' hti hb'
  split at h
  ·rename_i hk he
   have hesz : ti.esz = 1 := Nat.eq_of_beq_eq_true he
   rw [fnat_eq, setB_eq, pushB_eq] at h
   obtain ⟨i0, d, z0, _, hd, _, _, _, _, _, _, _, _, _, hk3, _⟩ := htt.facts hti
   obtain ⟨ie, ze, hd', hie, hsz, hby, hz, hzs, hne⟩ := hk3 hk
   subst hd'
   obtain ⟨hbm', hm'⟩ := getD_some (by simp) hb'
   have hbi' : b' < ids.length := by rw [hs.mlen]; exact hbm'
   obtain ⟨o1, o2⟩ := one_rel (by rfl) hx
   have hrun : (Instr.buildSlice t 1 #[(0, a.eval X)]).run P w = .ok (.slice (some ⟨w.heap.size, 0, none⟩) 1 1) (w.alloc (.cells #[a.eval X] ti.ety)) := by
    simp [Instr.buildSlice, underlying, hd, sizeOf, typeInfo, hie, hsz, hesz, zeroValue, hz, Instr.fill, newRow, o2, show Array.range 1 = #[0] from rfl]
   obtain ⟨v, hv⟩ : ∃ v, a.eval X = v := ⟨_, rfl⟩
   rw [hv] at hrun hx
   obtain ⟨w', hw'⟩ : ∃ w', w.alloc (.cells #[v] ti.ety) = w' := ⟨_, rfl⟩
   rw [hw'] at hrun
   have hsz' : w'.heap.size = w.heap.size + 1 := by rw [← hw']; simp
   have hnew : w'.heap[w.heap.size]? = some (.cells #[v] ti.ety (0, 0)) := by rw [← hw']; exact heap_alloc_new w _
   have hold : ∀ k, k < w.heap.size → w'.heap[k]? = w.heap[k]? := fun k hk => by rw [← hw']; exact Below.heap_alloc w _ k hk
   -- the inner block's name
   have hxx : ∃ x : Option Nat, (∀ y, x = some y → ∃ q, ids[b']? = some (.lv q) ∧ q.blk = y) ∧
     (∀ im w', (∀ y, x = some y → w'.heap[y]? = w.heap[y]?) → (∀ u v, RelI (imOf c ids w) w u v → RelI im w' u v) → Inner im w' ety sz n' row' v x) := by
    rcases own_len hs hx hb' with ⟨e1, e2, e3⟩ | ⟨q, cap, e1, e2, e3, e4, e5, e6⟩
    ·exact ⟨none, (fun y h => by cases h), fun _ _ _ _ => .inl ⟨e2, e1, rfl⟩⟩
    ·have hB' := hs.blks b' hbm' hbi'
     rw [List.getElem?_eq_getElem hbi'] at e1
     rw [hm', Option.some.inj e1] at hB'
     obtain ⟨q1, q2, us, q3, q4, q5, q6, q7⟩ := hB'
     refine ⟨some q.blk, (fun y h => by cases h; exact ⟨q, by rw [List.getElem?_eq_getElem hbi']; exact e1, rfl⟩), fun im w' hk hm => .inr ⟨q.blk, cap, us, e6, rfl, by rw [hk _ rfl]; exact q3, by rw [q4, e3], e2.1, e2.2, q6, fun i' j hi' h h' => ⟨hm _ _ (q7 i' j hi' h h').1, (q7 i' j hi' h h').2⟩⟩⟩
   obtain ⟨x, hx1, hx2⟩ := hxx
   have hxlt : ∀ y, x = some y → y < w.heap.size := fun y hy => by
    obtain ⟨q, q1, q2⟩ := hx1 y hy
    exact (hs.freshX q (List.mem_of_getElem? q1) y (.inl q2.symm)).2
   let p' : Id := ⟨w.heap.size, 1, 1, 1, fun y => x = some y, fun _ => none⟩
   let ids' := ids.set b' .stale ++ [.lv p']
   have hl' : ids'.length = ids.length + 1 := by simp [ids']
   have get_old : ∀ k, k < ids.length → k ≠ b' → ids'[k]? = ids[k]? := by
    intro k hk hne
    simp only [ids']
    rw [List.getElem?_append_left (by simpa using hk), List.getElem?_set_ne (fun e => hne e.symm)]
   have get_b' : ids'[b']? = some .stale := by
    simp only [ids']
    rw [List.getElem?_append_left (by simpa using hbi'), List.getElem?_set_self hbi']
   have get_q : ids'[ids.length]? = some (.lv p') := by
    simp only [ids']
    rw [List.getElem?_append_right (by simp)]; simp
   have cases_id : ∀ (k : Nat) (r : Id), ids'[k]? = some (.lv r) → (k = ids.length ∧ r = p') ∨ (k ≠ b' ∧ k < ids.length ∧ ids[k]? = some (.lv r)) := by
    intro k r h
    by_cases hkb : k = b'
    ·subst hkb; rw [get_b'] at h; cases h
    ·rcases Nat.lt_trichotomy k ids.length with hk | hk | hk
     ·rw [get_old k hk hkb] at h; exact .inr ⟨hkb, hk, h⟩
     ·subst hk; rw [get_q] at h; cases h; exact .inl ⟨rfl, rfl⟩
     ·rw [List.getElem?_eq_none (by omega)] at h; cases h
   have hown : ∀ r, IdE.lv r ∈ ids' → ∀ y, r.has y → y < w'.heap.size ∧ (w.heap.size ≤ y ∨ ∃ (b : Nat) (p : Id), ids[b]? = some (.lv p) ∧ p.has y) := by
    intro r hr y hy
    rw [hsz']
    obtain ⟨k, hk⟩ := List.getElem?_of_mem hr
    rcases cases_id k r hk with ⟨_, rfl⟩ | ⟨_, _, e⟩
    ·rcases hy with h | h
     ·have h : y = w.heap.size := h
      exact ⟨by omega, .inl (by omega)⟩
     ·obtain ⟨q, q1, q2⟩ := hx1 y h
      have hq : q.has y := .inl q2.symm
      have := hxlt y h
      exact ⟨by omega, .inr ⟨b', q, q1, hq⟩⟩
    ·have := (hs.freshX r (List.mem_of_getElem? e) y hy).2
     exact ⟨by omega, .inr ⟨k, r, e, hy⟩⟩
   obtain ⟨hi1, hi2⟩ := hs.im_stays (w' := w') (ids' := ids') (by omega) (fun k hk _ => hold k hk) hown
   have hd : ∀ (k : Nat) r, k ≠ b' → ids[k]? = some r → r ≠ .dead → ∃ q, ids'[k]? = some q ∧ likeE r q := by
    intro k r hk hr _
    have hlt : k < ids.length := by
     rcases Nat.lt_or_ge k ids.length with h' | h'
     ·exact h'
     ·rw [List.getElem?_eq_none h'] at hr; cases hr
    exact ⟨r, by rw [get_old k hlt hk]; exact hr, likeE_rfl r⟩
   have hmono : ∀ u v, RelI (imOf c ids w) w u v → RelI (imOf c ids' w') w' u v := fun u v h => h.mono hi1 hi2
   have hS : Sim c s (m.set b' .gone ++ [.nest ti.ety ety sz 1 none (fun _ => n') (fun _ => row')]) a w' ids' := by
    refine hs.goOn (by rw [← hw']; rfl) (by rw [← hw']; rfl) (by rw [← hw']; rfl) (by omega) (fun k hk _ => hold k hk) hown (fun vs h => by
     simp only [ids'] at h
     rcases List.mem_append.1 h with h | h
     ·rcases List.mem_or_eq_of_mem_set h with h | h
      ·exact h
      ·cases h
     ·simp at h) ?_ rfl (by simp [ids', hs.mlen]) (fun k h h' => (hs.slots k h h').restale hi1 hi2 hd get_b') ?_ (.of (by rw [← hw']; exact Nat.le_refl _))
    ·intro k k' r r' y e1 e2 x1 x2
     rcases cases_id k r e1 with ⟨rfl, rfl⟩ | ⟨ne, hlt, e⟩ <;> rcases cases_id k' r' e2 with ⟨rfl, rfl⟩ | ⟨ne', hlt', e'⟩
     ·rfl
     ·exfalso
      have hy := (hs.freshX r' (List.mem_of_getElem? e') y x2).2
      rcases x1 with h | h
      ·have h : y = w.heap.size := h
       omega
      ·obtain ⟨q, q1, q2⟩ := hx1 y h
       exact ne' (hs.distinctX _ _ r' q y e' q1 x2 (.inl q2.symm))
     ·exfalso
      have hy := (hs.freshX r (List.mem_of_getElem? e) y x1).2
      rcases x2 with h | h
      ·have h : y = w.heap.size := h
       omega
      ·obtain ⟨q, q1, q2⟩ := hx1 y h
       exact ne (hs.distinctX _ _ r q y e q1 x1 (.inl q2.symm))
     ·exact hs.distinctX k k' r r' y e e' x1 x2
    ·intro k hk hk'
     have hat : ids'[k]? = some ids'[k] := List.getElem?_eq_getElem hk'
     simp only [List.length_append, List.length_set, List.length_singleton] at hk
     rcases Nat.lt_or_ge k m.length with hkm | hkm
     ·rw [List.getElem_append_left (by simpa using hkm), List.getElem_set]
      split
      ·rename_i he; subst he
       rw [get_b'] at hat
       rw [← Option.some.inj hat]; exact rfl
      ·rename_i he
       have hki : k < ids.length := by rw [hs.mlen]; exact hkm
       rw [get_old k hki (fun e => he e.symm), List.getElem?_eq_getElem hki] at hat
       rw [← Option.some.inj hat]
       refine (hs.blks k hkm hki).restale hi1 hi2 hd get_b' (fun q hq y hy => hold y ?_)
       exact (hs.freshX q (by rw [← hq]; exact List.getElem_mem _) y hy).2
     ·have hkk : k = ids.length := by rw [hs.mlen]; omega
      have e2 : ids'[k]? = some (.lv p') := by rw [show k = ids.length from hkk]; exact get_q
      have hat : IdE.lv p' = ids'[k] := Option.some.inj (e2.symm.trans hat)
      rw [← hat, List.getElem_append_right (by simpa using hkm)]
      simp only [List.length_set, show k - m.length = 0 by omega, List.getElem_cons_zero]
      refine ⟨rfl, rfl, ?_, #[v], hnew, rfl, Nat.le_refl _, fun _ => x, ?_⟩
      ·intro h
       have h : x = some w.heap.size := h
       have := hxlt _ h
       omega
      ·intro i hi _ hv'
       have hi0 : i = 0 := by omega
       subst hi0
       refine ⟨hx2 _ _ (fun y hy => hold y (hxlt y hy)) hmono, fun y hy => hy, fun j hj _ _ _ => by omega⟩
   refine wp_of_run (v := .slice (some ⟨w.heap.size, 0, none⟩) 1 1) (w' := w') ?_ (hn s _ _ _ _ ids' h (hS.putD o.dst ?_))
   ·unfold execOp; rw [ho]; simp [hv, hrun]
   ·have hid : ids'[(m.set b' .gone).length]? = some (.lv p') := by rw [List.length_set, ← hs.mlen]; exact get_q
    exact .own _ 1 p' hid ⟨Nat.le_refl _, by simp [maxLen]⟩ rfl
  ·exact h.elim
 ·exact h.elim

theorem Inner.one {ety : TypeId} {sz n : Nat} {row : Nat → List A} {v : Value} {x : Option Nat} (h : Inner im w ety sz n row v x) : v.oneCell' = true := by
 rcases h with ⟨rfl, _⟩ | ⟨q, cap, vs, rfl, _⟩ <;> rfl
/-- What a nest's block holds. -/
theorem nest_vals (hs : Sim c s m a w ids) {b : Nat} {v : Value} (hx : Rel ids (imOf c ids w) w (.own b) v) {ty ety : TypeId} {sz n : Nat} {len : Nat → Nat} {row : Nat → Nat → List A} (hb : m.getD b .dead = .nest ty ety sz n none len row) :
  ∃ (xs : List Value) (kx : Nat → Option Nat), xs.length = n ∧ (∀ i (hi : i < xs.length), Inner (imOf c ids w) w ety sz (len i) (row i) xs[i] (kx i)) ∧
   (∀ i, i < n → ∀ y, kx i = some y → ∃ p, ids[b]? = some (.lv p) ∧ p.kid y) ∧ (∀ p, ids[b]? = some (.lv p) → ¬ p.kid p.blk) ∧ (∀ i j, i < n → j < n → kx j = kx i → kx i ≠ none → j = i) ∧
   ((v = .slice none 0 0 ∧ n = 0 ∧ xs = []) ∨ ∃ p cap cur, ids[b]? = some (.lv p) ∧ v = .slice (some ⟨p.blk, 0, none⟩) n cap ∧ w.heap[p.blk]? = some (.cells cur ty (0, 0)) ∧ n ≤ cap ∧ cap ≤ maxLen ∧ cur.size = cap ∧ cur.toList.take n = xs) := by
 obtain ⟨hbm, hm⟩ := getD_some (by simp) hb
 have hbi : b < ids.length := by rw [hs.mlen]; exact hbm
 have hB := hs.blks b hbm hbi
 rw [hm] at hB
 rcases hs.own_at hx (by rw [hb]; simp) with ⟨h1, h2⟩ | ⟨p, cap, h1, h2, h3, h4⟩
 ·have : ids[b] = .virt := by rw [List.getElem?_eq_getElem hbi] at h1; exact Option.some.inj h1
  rw [this] at hB
  have hB : n = 0 := hB
  subst hB
  exact ⟨[], fun _ => none, rfl, fun i hi => by simp at hi, fun i hi => by omega, (fun p hp => by rw [h1] at hp; cases hp), fun i j hi => by omega, .inl ⟨h2, rfl, rfl⟩⟩
 ·have : ids[b] = .lv p := by rw [List.getElem?_eq_getElem hbi] at h1; exact Option.some.inj h1
  rw [this] at hB
  obtain ⟨g1, g2, g3, vs, e1, e2, e3, kb, e4⟩ := hB
  have hl : (vs.toList.take n).length = n := by rw [List.length_take, Array.length_toList]; omega
  refine ⟨vs.toList.take n, kb, hl, fun i hi => ?_, fun i hi y hy => ⟨p, h1, (e4 i hi (by simp) (by omega)).2.1 y hy⟩, (fun p' hp => by rw [h1] at hp; cases hp; exact g3),
   fun i j hi hj h1 h2 => (e4 i hi (by simp) (by omega)).2.2 j hj (by simp) h1 h2, .inr ⟨p, cap, vs, h1, by rw [h4, g2], e1, by omega, h2.2, by rw [e2, ← h3, g1]; omega, rfl⟩⟩
  have hi' : i < n := by omega
  have := (e4 i hi' (by simp) (by omega)).1
  simpa using this

theorem sAppN_sound (htt : TTok P tt) (hs : Sim c s m a w ids) {t : TypeId} {X Y : Operand} {b b2 : Nat} (ho : o.op = .call { callee := .builtin .append, args := #[X, Y], argTypes := #[t, t] }) (hX : ev s X = .own b) (hY : ev s Y = .own b2)
  {ty ety : TypeId} {sz n : Nat} {len : Nat → Nat} {row : Nat → Nat → List A} {ty2 ety2 : TypeId} {sz2 n2 : Nat} {len2 : Nat → Nat} {row2 : Nat → Nat → List A}
  (hb : m.getD b .dead = .nest ty ety sz n none len row) (hb2 : m.getD b2 .dead = .nest ty2 ety2 sz2 n2 none len2 row2)
  {K : List A → A → List Blk → Prop} (h : sAppN tt t b b2 ty ety sz n len row ty2 ety2 sz2 n2 len2 row2 s m K)
  (hn : ∀ s1 v m' a' w' ids', K s1 v m' → Sim c (putD s1 o.dst v) m' a' w' ids' → next a' w') : o.wp P a w next Q := by
 have hx := hs.ev X
 have hy := hs.ev Y
 rw [hX] at hx
 rw [hY] at hy
 have e : (execOp a.eval o) = (do pure (.value (← Builtin.append_ #[t, t] o.type #[a.eval X, a.eval Y]))) := by
  obtain ⟨dst, op, ty, pos, after, guard⟩ := o
  simp only at ho; subst ho
  simp [execOp, resolve, invoke, builtin]
 unfold sAppN at h
 split at h
 ·exact h.elim
 ·rename_i ti hti
  split at h
  ·rename_i k hk he q1 q2 q3 q4 q5
   have hesz : ti.esz = 1 := Nat.eq_of_beq_eq_true he
   obtain rfl := Nat.eq_of_beq_eq_true q1
   obtain rfl := Nat.eq_of_beq_eq_true q2
   obtain rfl := Nat.eq_of_beq_eq_true q3
   obtain rfl := Nat.eq_of_beq_eq_true q4
   have hne : b ≠ b2 := fun e => by subst e; rw [Nat.beq_refl] at q5; cases q5
   rw [fnat_eq] at h
   obtain ⟨⟨hc1, hc2⟩, h⟩ := h
   rw [fdl_eq, fbs_eq] at h
   obtain ⟨i0, d, z0, _, hd, _, _, _, _, _, _, _, _, _, hk3, _⟩ := htt.facts hti
   obtain ⟨ie, ze, hd', hie, hsz, hby, hz, hzs, hne0⟩ := hk3 hk
   subst hd'
   have hzs' : ze.cells.size = ie.size := by rw [hzs, hsz]
   have hsz1 : ie.size = 1 := by rw [hsz, hesz]
   obtain ⟨hbm, hm⟩ := getD_some (by simp) hb
   have hbi : b < ids.length := by rw [hs.mlen]; exact hbm
   obtain ⟨hbm2, hm2⟩ := getD_some (by simp) hb2
   have hbi2 : b2 < ids.length := by rw [hs.mlen]; exact hbm2
   obtain ⟨xs, kx, x1, x2, x3, x4, x5, x6⟩ := nest_vals hs hx hb
   obtain ⟨ys, ky, y1, y2, y3, y4, y5, y6⟩ := nest_vals hs hy hb2
   obtain ⟨q, cap2, cur2, r1, r2, r3, r4, r5, r6, r7⟩ : ∃ p cap cur, ids[b2]? = some (.lv p) ∧ a.eval Y = .slice (some ⟨p.blk, 0, none⟩) (k + 1) cap ∧ w.heap[p.blk]? = some (.cells cur ti.ety (0, 0)) ∧ k + 1 ≤ cap ∧ cap ≤ maxLen ∧ cur.size = cap ∧ cur.toList.take (k + 1) = ys := by
    rcases y6 with ⟨_, h, _⟩ | h
    ·omega
    ·exact h
   have hyv : (a.eval Y = .slice none 0 0 ∧ k + 1 = 0 ∧ ys = []) ∨ ∃ ad cp, a.eval Y = .slice (some ad) (k + 1) cp ∧ ys.length = (k + 1) * ie.size ∧ (∀ j u, ys[j]? = some u → w.cell? (ad.add j) = some u) := by
    refine .inr ⟨⟨q.blk, 0, none⟩, cap2, r2, by rw [hsz1, y1]; omega, fun j u hu => ?_⟩
    have hadd : (⟨q.blk, 0, none⟩ : Addr).add j = ⟨q.blk, j, none⟩ := by unfold Addr.add; split <;> simp_all
    rw [hadd, cell_of_row w q.blk j cur2 ti.ety (0, 0) r3]
    rw [← r7, List.getElem?_take] at hu
    split at hu
    ·simpa using hu
    ·cases hu
   have hxv : (a.eval X = .slice none 0 0 ∧ n = 0 ∧ xs = []) ∨ ∃ g cap cur, a.eval X = .slice (some ⟨g, 0, none⟩) n cap ∧ w.heap[g]? = some (.cells cur ti.ety (0, 0)) ∧ n ≤ cap ∧ cap ≤ maxLen ∧ cur.size = cap * ie.size ∧ cur.toList.take (n * ie.size) = xs := by
    rcases x6 with h | ⟨p, cap, cur, e1, e2, e3, e4, e5, e6, e7⟩
    ·exact .inl h
    ·exact .inr ⟨p.blk, cap, cur, e2, e3, e4, e5, by rw [hsz1, e6]; omega, by rw [hsz1, Nat.mul_one]; exact e7⟩
   have hownb : (a.eval X).ownBlock = none ∨ ∃ p, ids[b]? = some (.lv p) ∧ (a.eval X).ownBlock = some p.blk := by
    rcases x6 with ⟨h, _⟩ | ⟨p, cap, cur, e1, e2, _⟩
    ·exact .inl (by rw [h]; rfl)
    ·exact .inr ⟨p, e1, by rw [e2]; rfl⟩
   obtain ⟨v', w', hrun, o1, o2, o3, o4, o5, odr, o6⟩ := append_out (P := P) (w := w) t o.type ti.ety ie ze hd hie hz hzs' (a.eval X) n xs hxv (a.eval Y) (k + 1) ys hyv
    (fun u hu => by obtain ⟨i, hi, rfl⟩ := List.getElem_of_mem hu; exact (y2 i hi).one) hc1 (by rw [hby]; exact hc2)
   rcases o6 with ⟨_, hz0⟩ | ⟨g, cap, cur, rfl, g1, g2, g3, g4, g5, g6, g7⟩
   ·omega
   rw [hsz1] at g4 g5
   rw [Nat.mul_one] at g4 g5
   have hblk : ∀ k, k < w.heap.size → (∀ p, ids[b]? = some (.lv p) → p.blk ≠ k) → w'.heap[k]? = w.heap[k]? := by
    intro k hk hp
    refine o5 k hk (fun e => ?_)
    rcases hownb with h | ⟨p, h1, h2⟩
    ·rw [h] at e; cases e
    ·rw [h2] at e; exact hp p h1 (Option.some.inj e)
   have hbl : ∀ k, k < w.heap.size → (∀ (b : Nat) (p : Id), ids[b]? = some (.lv p) → ¬ p.has k) → w'.heap[k]? = w.heap[k]? := fun k hk hp => hblk k hk (fun p h1 h2 => hp b p h1 (.inl h2.symm))
   let p' : Id := ⟨g, cur.size, n + (k + 1), 1, fun y => (∃ i, i < n ∧ kx i = some y) ∨ ∃ i, i < k + 1 ∧ ky i = some y, fun _ => none⟩
   let ids' := (ids.set b (.lv p')).set b2 .stale
   have get_old : ∀ k, k ≠ b → k ≠ b2 → ids'[k]? = ids[k]? := by
    intro k h1 h2
    simp only [ids']
    rw [List.getElem?_set_ne (fun e => h2 e.symm), List.getElem?_set_ne (fun e => h1 e.symm)]
   have get_b : ids'[b]? = some (.lv p') := by
    simp only [ids']
    rw [List.getElem?_set_ne (fun e => hne e.symm), List.getElem?_set_self hbi]
   have get_b2 : ids'[b2]? = some .stale := by
    simp only [ids']
    rw [List.getElem?_set_self (by simpa using hbi2)]
   have cases_id : ∀ (k : Nat) (r : Id), ids'[k]? = some (.lv r) → (k = b ∧ r = p') ∨ (k ≠ b ∧ k ≠ b2 ∧ ids[k]? = some (.lv r)) := by
    intro k r h
    by_cases hkb : k = b
    ·subst hkb; rw [get_b] at h; cases h; exact .inl ⟨rfl, rfl⟩
    ·by_cases hkb' : k = b2
     ·subst hkb'; rw [get_b2] at h; cases h
     ·rw [get_old k hkb hkb'] at h; exact .inr ⟨hkb, hkb', h⟩
   -- whose a block of the new nest was
   have hwas : ∀ y, p'.has y → (w.heap.size ≤ y ∧ y = g) ∨ ∃ (b' : Nat) (p : Id), (b' = b ∨ b' = b2) ∧ ids[b']? = some (.lv p) ∧ p.has y := by
    rintro y (h | ⟨i, hi, h⟩ | ⟨i, hi, h⟩)
    ·have h : y = g := h
     rcases g7 with h' | h'
     ·exact .inl ⟨by omega, h⟩
     ·rcases hownb with h1 | ⟨p, h1, h2⟩
      ·rw [h1] at h'; cases h'
      ·rw [h2] at h'
       exact .inr ⟨b, p, .inl rfl, h1, .inl (by rw [h]; exact (Option.some.inj h').symm)⟩
    ·obtain ⟨p, h1, h2⟩ := x3 i hi y h
     exact .inr ⟨b, p, .inl rfl, h1, .inr h2⟩
    ·obtain ⟨p, h1, h2⟩ := y3 i hi y h
     exact .inr ⟨b2, p, .inr rfl, h1, .inr h2⟩
   have hown : ∀ r, IdE.lv r ∈ ids' → ∀ y, r.has y → y < w'.heap.size ∧ (w.heap.size ≤ y ∨ ∃ (b : Nat) (p : Id), ids[b]? = some (.lv p) ∧ p.has y) := by
    intro r hr y hy
    obtain ⟨k, hk⟩ := List.getElem?_of_mem hr
    rcases cases_id k r hk with ⟨_, rfl⟩ | ⟨_, _, e⟩
    ·rcases hwas y hy with ⟨h1, h2⟩ | ⟨b', p, _, h1, h2⟩
     ·exact ⟨by omega, .inl h1⟩
     ·exact ⟨Nat.lt_of_lt_of_le (hs.freshX p (List.mem_of_getElem? h1) y h2).2 o4, .inr ⟨b', p, h1, h2⟩⟩
    ·exact ⟨Nat.lt_of_lt_of_le (hs.freshX r (List.mem_of_getElem? e) y hy).2 o4, .inr ⟨k, r, e, hy⟩⟩
   obtain ⟨hi1, hi2⟩ := hs.im_stays (w' := w') (ids' := ids') o4 hbl hown
   -- first the names of b are struck, then b2 is gone
   have hdS : ∀ (b' : Nat) p, b' ≠ b → ids[b']? = some p → p ≠ .dead → ∃ q, (ids.set b .dead)[b']? = some q ∧ likeE p q := by
    intro b' p hb' hp _
    exact ⟨p, by rw [List.getElem?_set_ne (fun e => hb' e.symm)]; exact hp, likeE_rfl p⟩
   have hdT : ∀ (b' : Nat) p, b' ≠ b2 → (ids.set b .dead)[b']? = some p → p ≠ .dead → ∃ q, ids'[b']? = some q ∧ likeE p q := by
    intro b' p hb' hp hpd
    by_cases hbb : b' = b
    ·subst hbb
     rw [List.getElem?_set_self hbi] at hp
     cases hp; exact absurd rfl hpd
    ·rw [List.getElem?_set_ne (fun e => hbb e.symm)] at hp
     exact ⟨p, by rw [get_old b' hbb hb']; exact hp, likeE_rfl p⟩
   have hmono : ∀ u v, RelI (imOf c ids w) w u v → RelI (imOf c ids' w') w' u v := fun u v h => h.mono hi1 hi2
   have hkx : ∀ i, i < n → ∀ y, kx i = some y → w'.heap[y]? = w.heap[y]? := by
    intro i hi y hy
    obtain ⟨p, h1, h2⟩ := x3 i hi y hy
    refine hblk y (hs.freshX p (List.mem_of_getElem? h1) y (.inr h2)).2 (fun p0 h0 e0 => ?_)
    rw [h1] at h0; cases h0
    exact x4 p h1 (by rw [e0]; exact h2)
   have hky : ∀ i, i < k + 1 → ∀ y, ky i = some y → w'.heap[y]? = w.heap[y]? := by
    intro i hi y hy
    obtain ⟨p, h1, h2⟩ := y3 i hi y hy
    refine hblk y (hs.freshX p (List.mem_of_getElem? h1) y (.inr h2)).2 (fun p0 h0 e0 => ?_)
    exact hne (hs.distinctX b b2 p0 p y h0 h1 (.inl e0.symm) (.inr h2))
   have hS : Sim c (s.map (scr b 4)) (((m.map (scrB b 4)).set b (.nest ti.ety ety2 sz2 (n + (k + 1)) none (catN n len len2) (catN n row row2))).set b2 .gone) a w' ids' := by
    refine hs.goOn o1 o2 o3 o4 hbl hown (fun vs h => by
     simp only [ids'] at h
     rcases List.mem_or_eq_of_mem_set h with h | h
     ·rcases List.mem_or_eq_of_mem_set h with h | h
      ·exact h
      ·cases h
     ·cases h) ?_ (by simp) (by simp [ids', hs.mlen]) ?_ ?_ odr
    ·intro k k' r r' y e1 e2 z1 z2
     have go : ∀ (kk : Nat) (rr : Id), kk ≠ b → kk ≠ b2 → ids[kk]? = some (.lv rr) → p'.has y → rr.has y → False := by
      intro kk rr n1 n2 ek a1 a2
      have hlt := (hs.freshX rr (List.mem_of_getElem? ek) y a2).2
      rcases hwas y a1 with ⟨h1, _⟩ | ⟨b', p, hb', h1, h2⟩
      ·omega
      ·have := hs.distinctX _ _ p rr y h1 ek h2 a2
       rcases hb' with rfl | rfl
       ·exact n1 this.symm
       ·exact n2 this.symm
     rcases cases_id k r e1 with ⟨rfl, rfl⟩ | ⟨ne, ne2, e⟩ <;> rcases cases_id k' r' e2 with ⟨rfl, rfl⟩ | ⟨ne', ne2', e'⟩
     ·rfl
     ·exact (go k' r' ne' ne2' e' z1 z2).elim
     ·exact (go k r ne ne2 e z2 z1).elim
     ·exact hs.distinctX k k' r r' y e e' z1 z2
    ·intro k h h'
     rw [List.getElem_map]
     have q0 := scr_reid (im' := imOf c ids w) (w' := w) (ids' := ids.set b .dead) (fun _ h => h) (fun _ _ => rfl) hdS 4 _ _ (hs.slots k (by simpa using h) h')
     exact q0.restale hi1 hi2 hdT get_b2
    ·intro k hk hk'
     have hat : ids'[k]? = some ids'[k] := List.getElem?_eq_getElem hk'
     simp only [List.length_set, List.length_map] at hk
     rw [List.getElem_set]
     split
     ·rename_i he; subst he
      rw [get_b2] at hat
      rw [← Option.some.inj hat]; exact rfl
     ·rename_i he
      rw [List.getElem_set]
      split
      ·rename_i he2; subst he2
       rw [get_b] at hat
       rw [← Option.some.inj hat]
       have hcat : ∀ i (hi : i < (xs ++ ys).length) (hv : i < cur.size), cur[i] = (xs ++ ys)[i] := by
        intro i hi hv
        have hi2 : i < n + (k + 1) := by rw [List.length_append, x1, y1] at hi; exact hi
        simp only [← g5]
        simp
       refine ⟨rfl, rfl, ?_, cur, g1, rfl, by show n + (k + 1) ≤ cur.size; omega, catN n kx ky, ?_⟩
       ·rintro (⟨i, hi, h⟩ | ⟨i, hi, h⟩)
        ·obtain ⟨p, h1, h2⟩ := x3 i hi _ h
         rcases g7 with h' | h'
         ·have h' : w.heap.size ≤ p'.blk := h'
          have := (hs.freshX p (List.mem_of_getElem? h1) _ (.inr h2)).2
          omega
         ·rcases hownb with h3 | ⟨p0, h3, h4⟩
          ·rw [h3] at h'; cases h'
          ·rw [h4] at h'
           rw [h1] at h3; cases h3
           have e0 : p.blk = p'.blk := Option.some.inj h'
           exact x4 p h1 (by rw [e0]; exact h2)
        ·obtain ⟨p, h1, h2⟩ := y3 i hi _ h
         rcases g7 with h' | h'
         ·have h' : w.heap.size ≤ p'.blk := h'
          have := (hs.freshX p (List.mem_of_getElem? h1) _ (.inr h2)).2
          omega
         ·rcases hownb with h3 | ⟨p0, h3, h4⟩
          ·rw [h3] at h'; cases h'
          ·rw [h4] at h'
           have e0 : p0.blk = p'.blk := Option.some.inj h'
           exact hne (hs.distinctX b b2 p0 p p'.blk h3 h1 (.inl e0.symm) (.inr h2))
       ·intro i hi _ hv
        have hl : (xs ++ ys).length = n + (k + 1) := by rw [List.length_append, x1, y1]
        rw [hcat i (by omega) hv]
        rcases Nat.lt_or_ge i n with hin | hin
        ·rw [catN_lt _ _ hin, catN_lt _ _ hin, catN_lt _ _ hin, List.getElem_append_left (by omega)]
         refine ⟨(x2 i (by omega)).mono hi1 hi2 (hkx i hin), fun y hy => .inl ⟨i, hin, hy⟩, fun j hj _ e1 e2 => ?_⟩
         rcases Nat.lt_or_ge j n with hjn | hjn
         ·rw [catN_lt _ _ hjn] at e1; exact x5 i j hin hjn e1 e2
         ·rw [catN_ge _ _ hjn] at e1
          exfalso
          obtain ⟨y, hy⟩ := Option.ne_none_iff_exists'.1 e2
          obtain ⟨p, h1, h2⟩ := x3 i hin y hy
          obtain ⟨p2, h3, h4⟩ := y3 (j - n) (by omega) y (by rw [e1, hy])
          exact hne (hs.distinctX b b2 p p2 y h1 h3 (.inr h2) (.inr h4))
        ·rw [catN_ge _ _ hin, catN_ge _ _ hin, catN_ge _ _ hin, List.getElem_append_right (by omega)]
         have ei : i - xs.length = i - n := by rw [x1]
         simp only [ei]
         refine ⟨(y2 (i - n) (by omega)).mono hi1 hi2 (hky (i - n) (by omega)), fun y hy => .inr ⟨i - n, by omega, hy⟩, fun j hj _ e1 e2 => ?_⟩
         rcases Nat.lt_or_ge j n with hjn | hjn
         ·rw [catN_lt _ _ hjn] at e1
          exfalso
          obtain ⟨y, hy⟩ := Option.ne_none_iff_exists'.1 e2
          obtain ⟨p, h1, h2⟩ := y3 (i - n) (by omega) y hy
          obtain ⟨p2, h3, h4⟩ := x3 j hjn y (by rw [e1, hy])
          exact hne (hs.distinctX b b2 p2 p y h3 h1 (.inr h4) (.inr h2))
         ·rw [catN_ge _ _ hjn] at e1
          have := y5 (i - n) (j - n) (by omega) (by omega) e1 e2
          omega
      ·rename_i he2
       have hki : k < ids.length := by rw [hs.mlen]; exact hk
       rw [get_old k (fun e => he2 e.symm) (fun e => he e.symm), List.getElem?_eq_getElem hki] at hat
       rw [← Option.some.inj hat, List.getElem_map]
       have q0 := BRel.rescr (im' := imOf c ids w) (w' := w) (ids' := ids.set b .dead) (fun _ h => h) (fun _ _ => rfl) hdS 4 (fun _ _ _ _ => rfl) (hs.blks k hk hki)
       refine q0.restale hi1 hi2 hdT get_b2 (fun r hr y hy => ?_)
       have er : ids[k]? = some (.lv r) := by rw [List.getElem?_eq_getElem hki, hr]
       exact hblk y (hs.freshX r (List.mem_of_getElem? er) y hy).2 (fun p h1 h2 => he2 (hs.distinctX b k p r y h1 er (.inl h2.symm) hy))
   refine wp_of_run (v := .slice (some ⟨g, 0, none⟩) (n + (k + 1)) cap) (w' := w') (by rw [e]; simp [hrun]) (hn _ _ _ _ _ _ h (hS.putD o.dst (.own b cap p' get_b ⟨g2, g3⟩ ?_)))
   show cap * 1 = cur.size
   omega
  ·exact h.elim
theorem sLenN_sound (htt : TTok P tt) (hs : Sim c s m a w ids) {t : TypeId} {X : Operand} {b : Nat} (ho : o.op = .call { callee := .builtin .len, args := #[X], argTypes := #[t] }) (hX : ev s X = .own b)
  {ty ety : TypeId} {sz n : Nat} {hole : Option Nat} {len : Nat → Nat} {row : Nat → Nat → List A} (hb : m.getD b .dead = .nest ty ety sz n hole len row)
  {K : List A → A → List Blk → Prop} (h : sLenN tt t n s m K)
  (hn : ∀ s1 v m' a' w' ids', K s1 v m' → Sim c (putD s1 o.dst v) m' a' w' ids' → next a' w') : o.wp P a w next Q := by
 have hx := hs.ev X
 rw [hX] at hx
 have e : (execOp a.eval o) = (do pure (.value (← Builtin.len_ #[t] o.type #[a.eval X]))) := by
  obtain ⟨dst, op, ty, pos, after, guard⟩ := o
  simp only at ho; subst ho
  rw [BigFrame.execOp_builtin, BigFrame.builtin_len]; simp
 unfold sLenN at h
 split at h
 ·exact h.elim
 ·rename_i ti hti
  split at h
  ·rename_i hk
   obtain ⟨i0, d, z0, _, hd, _, _, _, _, _, _, _, _, _, hk3, _⟩ := htt.facts hti
   obtain ⟨ie, ze, hd', _⟩ := hk3 hk
   subst hd'
   obtain ⟨hbm, hm⟩ := getD_some (by simp) hb
   have hbi : b < ids.length := by rw [hs.mlen]; exact hbm
   have hB := hs.blks b hbm hbi
   rw [hm] at hB
   have hv : ∃ ad cap, a.eval X = .slice ad n cap := by
    rcases hs.own_at hx (by rw [hb]; simp) with ⟨h1, h2⟩ | ⟨p, cap, h1, h2, h3, h4⟩
    ·have : ids[b] = .virt := by rw [List.getElem?_eq_getElem hbi] at h1; exact Option.some.inj h1
     rw [this] at hB
     have hB : n = 0 := hB
     subst hB
     exact ⟨_, _, h2⟩
    ·have : ids[b] = .lv p := by rw [List.getElem?_eq_getElem hbi] at h1; exact Option.some.inj h1
     rw [this] at hB
     have e2 : p.n = n := hB.2.1
     exact ⟨_, _, by rw [h4, e2]⟩
   obtain ⟨ad, cap, hv⟩ := hv
   refine wp_of_run (v := .int .i64 n) (w' := w) ?_ (hn s _ m _ _ ids h (hs.putD o.dst (.imm (.int _ _))))
   rw [e, hv]; simp [Builtin.len_, underlying, hd, goInt]
  ·exact h.elim
end
end Go.Proofs.YtnkbkfjgbejhfaaGreat.Am
namespace Go.Proofs.YtnkbkfjgbejhfaaGreat.Am
variable [Inhabited DRT]
open Go.RowKit (Below)
/-! ### Going through a map that is written no more -/
def kAs : List KS → List KC → List A
 | .int k :: ss, .int n :: ks => .int k n :: kAs ss ks
 | .bool :: ss, .bool b :: ks => .sb b :: kAs ss ks
 | .str :: ss, .str s :: ks => .str s :: kAs ss ks
 | _, _ => []
/-- A key's cells, as a value. -/
def kA (agg : Bool) (ss : List KS) (ks : List KC) : A :=
 match agg with
 | true => .agg (kAs ss ks)
 | false => match kAs ss ks with
  | [x] => x
  | _ => .junk
def sRange (tt : TT) (t : TypeId) (x : A) (m : List Blk) (K : KT) : Prop :=
 mapTy tt t fun agg sh _ => match x with
  | .mv agg' sh' has val => match boolEq agg agg', ksEq sh sh' with
   | true, true => ∀ keys : List (List KC), keys.Nodup → (∀ k ∈ keys, kOk sh k ∧ has k = true) → (∀ k, kOk sh k → has k = true → k ∈ keys) →
    pushB m (.mit agg sh has val []) fun b m' => K (.ref b 0) m'
   | _, _ => False
  | _ => False
def sNext (x : A) (str : Bool) (m : List Blk) (K : KT) : Prop :=
 match x, str with
 | .ref b o, false => match o, m.getD b .dead with
  | 0, .mit agg sh has val seen =>
   ((∀ k, kOk sh k → has k = true → k ∈ seen) → K (.tup [.bool false]) m) ∧
   ∀ k, kOk sh k → has k = true → k ∉ seen → fd 4 (kA agg sh k) fun kv => fd 3 (val k) fun v => setB m b (.mit agg sh has val (seen ++ [k])) fun m' => K (.tup [.bool true, kv, v]) m'
  | _, _ => False
 | _, _ => False
/-- How many entries a map has: as many as any list of them, each once. -/
def lenK (sh : List KS) (has : List KC → Bool) (K : A → Prop) : Prop :=
 ∀ keys : List (List KC), keys.Nodup → (∀ k ∈ keys, kOk sh k ∧ has k = true) → (∀ k, kOk sh k → has k = true → k ∈ keys) → K (.int .i64 keys.length)
def sLenMap (tt : TT) (t : TypeId) (x : A) (m : List Blk) (K : A → Prop) : Prop :=
 mapTy tt t fun _ _ _ => match x with
  | .mv _ sh has _ => lenK sh has K
  | .omap b => match m.getD b .dead with
   | .mapb _ sh has _ => lenK sh has K
   | _ => False
  | _ => False
/-- The entry that came last. -/
def sEntry (x : A) (m : List Blk) (K : A → Prop) : Prop :=
 match x with
 | .ref b o => match o, m.getD b .dead with
  | 0, .mit agg sh _ val seen => match seen.getLast? with
   | some k => fd 4 (kA agg sh k) fun kv => fd 3 (val k) fun v => K (.tup [kv, v])
   | none => False
  | _, _ => False
 | _ => False
section
variable {c : Ctx} {s : List A} {m : List Blk} {a : Act} {w w' : World} {ids ids' : Ids} {P : Program} {im im' : Nat → Prop} {tt : TT} {G : GInv}
variable {next : Act → World → Prop} {Q : Exit → Act → World → Prop} {o : Oper}
theorem kAs_rel (im : Nat → Prop) (w : World) : ∀ (ss : List KS) (ks : List KC), kOk ss ks → (kVs ss ks).length = (kAs ss ks).length ∧ (∀ v ∈ kVs ss ks, oneV v) ∧ ∀ j (h : j < (kAs ss ks).length) (h' : j < (kVs ss ks).length), RelI im w (kAs ss ks)[j] (kVs ss ks)[j]
 | [], [], _ => ⟨rfl, fun v h => absurd h (by simp [kVs]), fun j h => absurd h (by simp [kAs])⟩
 | s :: ss, k :: ks, h => by
  cases s <;> cases k <;> simp only [kOk] at h
  all_goals
   obtain ⟨h1, h2, h3⟩ := kAs_rel im w ss ks h
   simp only [kVs, kAs, kV1]
   refine ⟨by simp [h1], ?_, ?_⟩
   ·intro v hv
    rcases List.mem_cons.1 hv with rfl | hv
    ·rfl
    ·exact h2 v hv
   ·intro j hj hj'
    cases j with
    | zero => first | exact .int _ _ | exact .sb _ | exact .str _
    | succ j => exact h3 j (by simpa using hj) (by simpa using hj')
 | [], _ :: _, h => by simp [kOk] at h
 | _ :: _, [], h => by simp [kOk] at h
theorem kA_rel {agg : Bool} {ss : List KS} {ks : List KC} (h : kOk ss ks) : RelI im w (kA agg ss ks) (kV agg ss ks) := by
 obtain ⟨h1, h2, h3⟩ := kAs_rel im w ss ks h
 cases agg with
 | true => exact .agg _ _ h1 h2 h3
 | false =>
  unfold kA kV
  simp only
  split
  ·rename_i x e
   have l1 : (kVs ss ks).length = 1 := by rw [h1, e]; rfl
   have k := h3 0 (by rw [e]; simp) (by omega)
   have e1 : (kAs ss ks)[0]'(by rw [e]; simp) = x := by simp [e]
   rw [e1] at k
   have e2 : (kVs ss ks).getD 0 undef = (kVs ss ks)[0]'(by omega) := by rw [List.getD_eq_getElem?_getD, List.getElem?_eq_getElem (by omega)]; rfl
   rw [e2]
   exact k
  ·exact .junk _
/-- A new block that is an object. -/
theorem Sim.allocO (hs : Sim c s m a w ids) (x : Blk) (ob : Obj)
  (hx : ∀ ids' im' w', (∀ b, imOf c ids w b → im' b) → (∀ b, imOf c ids w b → w'.heap[b]? = w.heap[b]?) → w'.heap[w.heap.size]? = some ob → BRel ids' im' w' x (.lv (mkId w.heap.size 0 0 0))) :
  Sim c s (m ++ [x]) a (w.alloc ob) (ids ++ [.lv (mkId w.heap.size 0 0 0)]) := by
 have hb := below_alloc w ob
 refine hs.grow hb [x] [.lv (mkId w.heap.size 0 0 0)] rfl ?_ ?_ (fun vs h => by simp at h) ?_
 ·intro i h h'
  have : i = 0 := by simp at h; omega
  subst this
  refine hx _ _ _ ?_ ?_ ?_
  ·intro b h
   have hlt := imOf_lt hs h
   rcases h with h | ⟨h1, h2, h3⟩
   ·exact .inl h
   ·refine .inr ⟨h1, Nat.lt_of_lt_of_le h2 hb.size, fun p hp => ?_⟩
    rcases List.mem_append.1 hp with hp | hp
    ·exact h3 p hp
    ·simp at hp; subst hp; intro hx; have := mkId_has hx; omega
  ·exact fun b h => hb.block b (imOf_lt hs h)
  ·show (w.heap.push _)[w.heap.size]? = _
   simp
 ·intro p hp x hx
  simp at hp; subst hp
  have := mkId_has hx
  subst this
  show w.heap.size ≤ w.heap.size ∧ w.heap.size < (w.heap.push _).size
  simp
 ·intro i j p q x g1 g2 _ _
  cases i with
  | zero => cases j with
   | zero => rfl
   | succ j => simp at g2
  | succ i => simp at g1
/-- A block of ours that is an object is written; what is written no more stays as it is. -/
theorem Sim.setObjI (hs : Sim c s m a w ids) (b : Nat) (p : Id) (hid : ids[b]? = some (.lv p)) (x : Blk) (ob : Obj)
  (hx : ∀ w', w'.heap[p.blk]? = some ob → (∀ b, imOf c ids w b → imOf c ids w' b) → (∀ b, imOf c ids w b → w'.heap[b]? = w.heap[b]?) → BRel ids (imOf c ids w') w' x (.lv p)) :
  Sim c s (m.set b x) a { w with heap := w.heap.setIfInBounds p.blk ob } ids ∧ (∀ b, imOf c ids w b → imOf c ids { w with heap := w.heap.setIfInBounds p.blk ob } b) ∧
   ∀ b, imOf c ids w b → ({ w with heap := w.heap.setIfInBounds p.blk ob } : World).heap[b]? = w.heap[b]? := by
 have hmem : IdE.lv p ∈ ids := List.mem_of_getElem? hid
 have hfr := hs.fresh p hmem
 have hsz : ({ w with heap := w.heap.setIfInBounds p.blk ob } : World).heap.size = w.heap.size := by simp
 have hoth : ∀ k, k ≠ p.blk → ({ w with heap := w.heap.setIfInBounds p.blk ob } : World).heap[k]? = w.heap[k]? := by
  intro k hk; simp [Array.getElem?_setIfInBounds_ne (fun e => hk e.symm)]
 have hown : ∀ p', IdE.lv p' ∈ ids → ∀ x, p'.has x → x < ({ w with heap := w.heap.setIfInBounds p.blk ob } : World).heap.size ∧ (w.heap.size ≤ x ∨ ∃ (b : Nat) (p : Id), ids[b]? = some (.lv p) ∧ p.has x) := by
  intro p' hp' y hy
  obtain ⟨k, hk⟩ := List.getElem?_of_mem hp'
  exact ⟨by rw [hsz]; exact (hs.freshX p' hp' y hy).2, .inr ⟨k, p', hk, hy⟩⟩
 have hbl : ∀ k, k < w.heap.size → (∀ (b : Nat) (p : Id), ids[b]? = some (.lv p) → ¬ p.has k) → ({ w with heap := w.heap.setIfInBounds p.blk ob } : World).heap[k]? = w.heap[k]? :=
  fun k _ hk => hoth k (fun e => hk b p hid (.inl e))
 obtain ⟨hi1, hi2⟩ := hs.im_stays (w' := { w with heap := w.heap.setIfInBounds p.blk ob }) (ids' := ids) (by rw [hsz]; exact Nat.le_refl _) hbl hown
 refine ⟨hs.goOn rfl rfl rfl (by rw [hsz]; exact Nat.le_refl _) hbl hown (fun _ h => h) hs.distinctX rfl (by simp [hs.mlen]) (fun i h h' => (hs.slots i h h').mono hi1 hi2 (fun _ _ h _ => h)) ?_, hi1, hi2⟩
 intro k hk hk'
 simp only [List.length_set] at hk
 rw [List.getElem_set]
 split
 ·rename_i he
  subst he
  have e : ids[b] = .lv p := by rw [List.getElem?_eq_getElem hk'] at hid; exact Option.some.inj hid
  rw [e]
  refine hx _ ?_ hi1 hi2
  simp [hfr.2]
 ·rename_i he
  refine (hs.blks k hk hk').mono hi1 hi2 (fun _ _ h _ => h) ?_
  intro q hq y hy
  refine hoth y (fun e => he ?_)
  exact hs.distinctX b k p q y hid (by rw [List.getElem?_eq_getElem hk', hq]) (.inl e) hy
theorem Sim.drew (hs : Sim c s m a w ids) : Sim c s m a w.drew ids := by
 have h := hs.grow (below_drew w) [] [] rfl (fun i h => by simp at h) (fun p h => by simp at h) (fun vs h => by simp at h) (fun i j p q x h => by simp at h)
 simpa using h
theorem sRange_sound (htt : TTok P tt) (hs : Sim c s m a w ids) {t : TypeId} {X : Operand} (ho : o.op = .range t X) {K : KT} (h : sRange tt t (ev s X) m K) (hn : NextOk c s o K next) : o.wp P a w next Q := by
 have hx := hs.ev X
 unfold sRange at h
 obtain ⟨kt, et, agg, sh, z, zv, h1, h2, _, _, h⟩ := mapTy_inv htt h (imOf c ids w) w
 split at h
 ·rename_i agg' sh' has val hX
  rw [hX] at hx
  split at h
  ·rename_i e1 e2
   obtain rfl := boolEq_iff e1
   obtain rfl := ksEq_iff e2
   cases hx with
   | imm hi =>
    generalize hv : a.eval X = v at hi
    cases hi with
    | mv _ _ _ _ r es clock f hb hh hk hd hc hvv hbn hbu =>
     have h := h ((List.range es.size).map f) ?_ ?_ ?_
     ·rw [pushB_eq] at h
      have hs' := hs.allocO (.mit agg sh has val []) (.mapIter (some r) clock #[] clock) (fun ids' im' w' g1 g2 g3 => ⟨r, es, clock, f, #[], g3, g1 _ hb, by rw [g2 _ hb]; exact hh, hk, hd, hc, fun i h => (hvv i h).mono g1 g2, hbn, hbu, fun i h => by simp, fun k h => by simp at h⟩)
      have e : execOp a.eval o = (do pure (.value (← Instr.range t (a.eval X)))) := by
       obtain ⟨dst, op, ty, pos, after, guard⟩ := o
       simp only at ho; subst ho; rfl
      refine wp_of_run (v := .pointer (some ⟨w.heap.size, 0, none⟩)) (w' := w.alloc (.mapIter (some r) clock #[] clock)) ?_ (hn _ _ _ _ _ h (hs'.putD o.dst (.ref m.length 0 (mkId w.heap.size 0 0 0) ?_)))
      ·rw [e, hv]
       simp only [Sem.run_bind, run_range_map w t kt et r es clock h1 hh, Result.andThen_ok]
       rfl
      ·rw [← hs.mlen]; simp
     ·unfold List.Nodup
      rw [List.pairwise_map]
      exact List.Pairwise.imp_of_mem (fun ha hb hab e => hab (hd _ _ (List.mem_range.1 ha) (List.mem_range.1 hb) e)) List.nodup_range
     ·intro k hk'
      obtain ⟨i, hi, rfl⟩ := List.mem_map.1 hk'
      exact ⟨(hk i (List.mem_range.1 hi)).1, (hk i (List.mem_range.1 hi)).2.2⟩
     ·intro k h1 h2
      obtain ⟨i, hi, rfl⟩ := hc k h1 h2
      exact List.mem_map.2 ⟨i, List.mem_range.2 hi, rfl⟩
  ·exact h.elim
 ·exact h.elim
theorem sNext_sound (hs : Sim c s m a w ids) {X : Operand} {str : Bool} (ho : o.op = .next X str) {K : KT} (h : sNext (ev s X) str m K) (hn : NextOk c s o K next) : o.wp P a w next Q := by
 have hx := hs.ev X
 unfold sNext at h
 split at h
 ·rename_i b of hX
  rw [hX] at hx
  split at h
  ·rename_i agg sh has val seen hb
   obtain ⟨hbm, hm⟩ := getD_some (by simp) hb
   have hbi : b < ids.length := by rw [hs.mlen]; exact hbm
   have hB := hs.blks b hbm hbi
   rw [hm] at hB
   cases hp : ids[b] with
   | dead => rw [hp] at hB; exact hB.elim
   | stale => rw [hp] at hB; exact hB.elim
   | gho vs => rw [hp] at hB; exact hB.elim
   | virt => rw [hp] at hB; exact hB.elim
   | lv p =>
    rw [hp] at hB
    obtain ⟨r, es, clock, f, sb, g1, g2, g3, g4, g5, g6, g7, g8, g9, g10, _⟩ := hB
    have hid : ids[b]? = some (.lv p) := by rw [List.getElem?_eq_getElem hbi, hp]
    have hv : a.eval X = .pointer (some ⟨p.blk, 0, none⟩) := by
     generalize a.eval X = v at hx
     cases hx with
     | ref _ _ q hq => rw [hid] at hq; cases hq; rfl
     | refS _ _ x y hq => rw [hid] at hq; cases hq
     | imm hi => cases hi
    have e : execOp a.eval o = (do pure (.value (← Instr.next (a.eval X) false o.type))) := by
     obtain ⟨dst, op, ty, pos, after, guard⟩ := o
     simp only at ho; subst ho; rfl
    obtain ⟨h1, h2⟩ := h
    rcases run_next_at (P := P) w o.type p.blk r clock clock sb es clock g1 g3 (fun x hx => by
     obtain ⟨i, hi, rfl⟩ := List.getElem_of_mem hx
     simpa using g8 i (by simpa using hi)) (Nat.le_refl _) with ⟨k1, k2⟩ | ⟨en, k1, w1, k2, k3⟩
    ·have h1 := h1 (fun k q1 q2 => by
      obtain ⟨i, hi, rfl⟩ := g6 k q1 q2
      rw [← g10 i hi]
      by_cases q : es[i].born ∈ sb
      ·exact q
      ·exfalso
       have : es[i] ∈ (leftOf es sb) := by
        unfold leftOf
        simp [q]
       have := Array.size_pos_of_mem this
       omega)
     refine wp_of_run (v := .tuple #[.bool false]) (w' := w) ?_ (hn _ _ _ _ _ h1 (hs.putD o.dst (.imm (.tup [.bool false] [.bool false] rfl (fun j hj hj' => by
      have : j = 0 := by simp at hj; omega
      subst this; exact .bool false)))))
     rw [e, hv]
     simp only [Sem.run_bind, k2, Result.andThen_ok]
     rfl
    ·have hen : en ∈ leftOf es sb := by simpa using k1
     have hmem : en ∈ es ∧ en.born ∉ sb := by
      unfold leftOf at hen
      simpa using hen
     obtain ⟨i, hi, hei⟩ := Array.getElem_of_mem hmem.1
     subst hei
     have h2 := h2 (f i) (g4 i hi).1 (g4 i hi).2.2 (fun q => hmem.2 ((g10 i hi).2 q))
     rw [fd_eq, fd_eq, setB_eq] at h2
     have hs1 : Sim c s m a w1 ids := by
      rcases k2 with rfl | rfl
      ·exact hs
      ·exact hs.drew
     have hh1 : w1.heap = w.heap := by rcases k2 with rfl | rfl <;> rfl
     have him : ∀ b, imOf c ids w b → imOf c ids w1 b := by
      rcases k2 with rfl | rfl
      ·exact fun b h => h
      ·exact fun b h => h
     obtain ⟨hs2, hj1, hj2⟩ := hs1.setObjI b p hid (.mit agg sh has val (seen ++ [f i])) (.mapIter (some r) clock (sb.push es[i].born) clock) (fun w' q1 q2 q3 => ⟨r, es, clock, f, sb.push es[i].born, q1, q2 _ (him _ g2), by rw [q3 _ (him _ g2), hh1]; exact g3, g4, g5, g6, fun j hj => (g7 j hj).mono (fun b hb => q2 b (him b hb)) (fun b hb => by rw [q3 b (him b hb), hh1]), g8, g9, fun j hj => by
      constructor
      ·intro q
       rcases Array.mem_push.1 q with q | q
       ·exact List.mem_append.2 (.inl ((g10 j hj).1 q))
       ·have := g9 j i hj hi q
        subst this
        exact List.mem_append.2 (.inr (by simp))
      ·intro q
       rcases List.mem_append.1 q with q | q
       ·exact Array.mem_push.2 (.inl ((g10 j hj).2 q))
       ·have := g5 j i hj hi (by simpa using q)
        subst this
        exact Array.mem_push.2 (.inr rfl), fun k hk => ⟨i, hi, sb, by simpa using hk, rfl⟩⟩)
     refine wp_of_run (v := .tuple #[.bool true, es[i].key, es[i].val]) (w' := { w1 with heap := w1.heap.setIfInBounds p.blk (.mapIter (some r) clock (sb.push es[i].born) clock) }) ?_ (hn _ _ _ _ _ h2 (hs2.putD o.dst (.imm (.tup [.bool true, kA agg sh (f i), val (f i)] [.bool true, es[i].key, es[i].val] rfl ?_))))
     ·rw [e, hv]
      simp only [Sem.run_bind, k3, Result.andThen_ok]
      rfl
     ·have hval := g7 i hi
      have hkey : es[i].key = kV agg sh (f i) := (g4 i hi).2.1
      intro j hj hj'
      have hj3 : j < 3 := by simpa using hj
      rcases (show j = 0 ∨ j = 1 ∨ j = 2 by omega) with rfl | rfl | rfl
      ·exact .bool true
      ·show RelI _ _ (kA agg sh (f i)) es[i].key
       rw [hkey]
       exact kA_rel (g4 i hi).1
      ·show RelI _ _ (val (f i)) es[i].val
       exact hval.mono (fun b hb => hj1 b (him b hb)) (fun b hb => by rw [hj2 b (him b hb), hh1])
  ·exact h.elim
 ·exact h.elim
theorem sEntry_sound (hs : Sim c s m a w ids) {X : Operand} (ho : o.op = .entry X) {K : KT} (h : sEntry (ev s X) m fun v => K v m) (hn : NextOk c s o K next) : o.wp P a w next Q := by
 have hx := hs.ev X
 unfold sEntry at h
 split at h
 ·rename_i b of hX
  rw [hX] at hx
  split at h
  ·rename_i agg sh has val seen hb
   split at h
   ·rename_i k hk
    rw [fd_eq, fd_eq] at h
    obtain ⟨hbm, hm⟩ := getD_some (by simp) hb
    have hbi : b < ids.length := by rw [hs.mlen]; exact hbm
    have hB := hs.blks b hbm hbi
    rw [hm] at hB
    cases hp : ids[b] with
    | dead => rw [hp] at hB; exact hB.elim
    | stale => rw [hp] at hB; exact hB.elim
    | gho vs => rw [hp] at hB; exact hB.elim
    | virt => rw [hp] at hB; exact hB.elim
    | lv p =>
     rw [hp] at hB
     obtain ⟨r, es, clock, f, sb, g1, g2, g3, g4, g5, g6, g7, g8, g9, g10, g11⟩ := hB
     have hid : ids[b]? = some (.lv p) := by rw [List.getElem?_eq_getElem hbi, hp]
     have hv : a.eval X = .pointer (some ⟨p.blk, 0, none⟩) := by
      generalize a.eval X = v at hx
      cases hx with
      | ref _ _ q hq => rw [hid] at hq; cases hq; rfl
      | refS _ _ x y hq => rw [hid] at hq; cases hq
      | imm hi => cases hi
     obtain ⟨i, hi, sb', rfl, rfl⟩ := g11 k hk
     have e : execOp a.eval o = (do pure (.value (← Instr.entry (a.eval X)))) := by
      obtain ⟨dst, op, ty, pos, after, guard⟩ := o
      simp only at ho; subst ho; rfl
     have hnd : (es.toList.map (·.born)).Nodup := by
      unfold List.Nodup
      rw [List.pairwise_map]
      rw [List.pairwise_iff_getElem]
      intro x y hx hy hxy q
      have := g9 x y (by simpa using hx) (by simpa using hy) (by simpa using q)
      omega
     have k3 := run_entry_at (P := P) w p.blk r clock sb' es clock es[i] g1 g3 (by simp) hnd
     refine wp_of_run (v := .tuple #[es[i].key, es[i].val]) (w' := w) ?_ (hn _ _ _ _ _ h (hs.putD o.dst (.imm (.tup [kA agg sh (f i), val (f i)] [es[i].key, es[i].val] rfl ?_))))
     ·rw [e, hv]
      simp only [Sem.run_bind, k3, Result.andThen_ok]
      rfl
     ·have hkey : es[i].key = kV agg sh (f i) := (g4 i hi).2.1
      intro j hj hj'
      have hj3 : j < 2 := by simpa using hj
      rcases (show j = 0 ∨ j = 1 by omega) with rfl | rfl
      ·show RelI _ _ (kA agg sh (f i)) es[i].key
       rw [hkey]
       exact kA_rel (g4 i hi).1
      ·exact g7 i hi
   ·exact h.elim
  ·exact h.elim
 ·exact h.elim
theorem lenK_at {sh : List KS} {has : List KC → Bool} {K : A → Prop} {n : Nat} {f : Nat → List KC} (hk : ∀ i, i < n → kOk sh (f i) ∧ has (f i) = true) (hd : ∀ i j, i < n → j < n → f i = f j → i = j)
  (hc : ∀ k, kOk sh k → has k = true → ∃ i, i < n ∧ f i = k) (h : lenK sh has K) : K (.int .i64 n) := by
 have h := h ((List.range n).map f) ?_ ?_ ?_
 ·simpa using h
 ·unfold List.Nodup
  rw [List.pairwise_map]
  exact List.Pairwise.imp_of_mem (fun ha hb hab e => hab (hd _ _ (List.mem_range.1 ha) (List.mem_range.1 hb) e)) List.nodup_range
 ·intro k hk'
  obtain ⟨i, hi, rfl⟩ := List.mem_map.1 hk'
  exact hk i (List.mem_range.1 hi)
 ·intro k h1 h2
  obtain ⟨i, hi, rfl⟩ := hc k h1 h2
  exact List.mem_map.2 ⟨i, List.mem_range.2 hi, rfl⟩
theorem sLenMap_sound (htt : TTok P tt) (hs : Sim c s m a w ids) {X : Operand} {t : TypeId}
  (ho : o.op = .call { callee := .builtin .len, args := #[X], argTypes := #[t] }) {K : KT} (h : sLenMap tt t (ev s X) m fun v => K v m) (hn : NextOk c s o K next) : o.wp P a w next Q := by
 have hx := hs.ev X
 have e : (execOp a.eval o) = (do pure (.value (← Builtin.len_ #[t] o.type #[a.eval X]))) := by
  obtain ⟨dst, op, ty, pos, after, guard⟩ := o
  simp only at ho; subst ho
  rw [BigFrame.execOp_builtin, BigFrame.builtin_len]; simp
 unfold sLenMap at h
 obtain ⟨kt, et, agg, sh, z, zv, h1, h2, _, _, h⟩ := mapTy_inv htt h (imOf c ids w) w
 have fin : ∀ (r : Nat) (es : Array MapEntry) (clock : Nat), a.eval X = .map (some r) → w.heap[r]? = some (.map es clock) → K (.int .i64 es.size) m → o.wp P a w next Q := by
  intro r es clock hv hh hk
  refine wp_of_run (v := .int .i64 es.size) (w' := w) ?_ (hn _ _ _ _ _ hk (hs.putD o.dst (.imm (.int _ _))))
  rw [e, hv]
  simp [Builtin.len_, run_underlying h1, MapKept.run_getObj_map hh, goInt]
 split at h
 ·rename_i agg' sh' has val hX
  rw [hX] at hx
  cases hx with
  | imm hi =>
   generalize hv : a.eval X = v at hi
   cases hi with
   | mv _ _ _ _ r es clock f hb hh hk hd hc hvv hbn hbu =>
    exact fin r es clock hv hh (lenK_at (fun i hi => ⟨(hk i hi).1, (hk i hi).2.2⟩) hd hc h)
 ·rename_i b hX
  rw [hX] at hx
  split at h
  ·rename_i agg' sh' has val hb
   obtain ⟨hbm, hm⟩ := getD_some (by simp) hb
   have hbi : b < ids.length := by rw [hs.mlen]; exact hbm
   have hB := hs.blks b hbm hbi
   rw [hm] at hB
   cases hp : ids[b] with
   | dead => rw [hp] at hB; exact hB.elim
   | stale => rw [hp] at hB; exact hB.elim
   | gho vs => rw [hp] at hB; exact hB.elim
   | virt => rw [hp] at hB; exact hB.elim
   | lv p =>
    rw [hp] at hB
    obtain ⟨es, clock, f, g1, g2, g3, g4, _⟩ := hB
    have hid : ids[b]? = some (.lv p) := by rw [List.getElem?_eq_getElem hbi, hp]
    have hv : a.eval X = .map (some p.blk) := by
     generalize a.eval X = v at hx
     cases hx with
     | omap _ q hq => rw [hid] at hq; cases hq; rfl
     | omapS _ x hq => rw [hid] at hq; cases hq
     | imm hi => cases hi
    exact fin p.blk es clock hv g1 (lenK_at (fun i hi => ⟨(g2 i hi).1, (g2 i hi).2.2⟩) g3 g4 h)
  ·exact h.elim
 ·exact h.elim
end
end Go.Proofs.YtnkbkfjgbejhfaaGreat.Am
namespace Go.Proofs.YtnkbkfjgbejhfaaGreat.Am
variable [Inhabited DRT]
open Go.RowKit (Below)
/-! ### Slices of maps: a map is taken out, and put back -/
def sIdxG (tt : TT) (t : TypeId) (b n : Nat) (i : A) (K : A → Prop) : Prop :=
 match tt.lookup t, i with
 | some ti, .int _ ix => match ti.kind, Nat.beq ti.esz 1 with
  | 3, true => (0 ≤ ix ∧ ix < (n : Int)) ∧ K (.oref b ix.toNat 0)
  | _, _ => False
 | _, _ => False
def sLoadG (tt : TT) (t : TypeId) (i off n hi : Nat) (cs : List A) (K : A → Prop) : Prop :=
 match tt.lookup t, off, cs with
 | some ti, 0, [x] => match ti.agg with
  | false => (i = hi ∧ i < n) ∧ fd 3 x K
  | true => False
 | _, _, _ => False
def sStoreG (tt : TT) (t : TypeId) (i off : Nat) (y : A) (ty : TypeId) (agg : Bool) (sh : List KS) (n : Nat) (cs : List A) (ini : Nat → Nat) (has : Nat → List KC → Bool) (val : Nat → List KC → A) (K : Blk → Prop) : Prop :=
 match tt.lookup t, off, cs, y with
 | some ti, 0, [], .omap k => match Nat.beq ti.size 1 with
  | true => i < n ∧ K (.mgrid ty agg sh n i [.omap k] ini has val)
  | false => False
 | _, _, _, _ => False
section
variable {c : Ctx} {s : List A} {m : List Blk} {a : Act} {w w' : World} {ids ids' : Ids} {P : Program} {im im' : Nat → Prop} {tt : TT} {G : GInv}
variable {next : Act → World → Prop} {Q : Exit → Act → World → Prop} {o : Oper}
variable {ty : TypeId} {agg : Bool} {sh : List KS} {n hi : Nat} {cs : List A} {ini : Nat → Nat} {has : Nat → List KC → Bool} {val : Nat → List KC → A}
theorem grid_at (hs : Sim c s m a w ids) {b : Nat} (hb : m.getD b .dead = .mgrid ty agg sh n hi cs ini has val) (h0 : 0 < n) :
  ∃ p, ids[b]? = some (.lv p) ∧ BRel ids (imOf c ids w) w (.mgrid ty agg sh n hi cs ini has val) (.lv p) ∧ b < m.length ∧ b < ids.length := by
 obtain ⟨h1, h2⟩ := getD_some (by simp) hb
 have h3 : b < ids.length := by rw [hs.mlen]; exact h1
 have hB := hs.blks b h1 h3
 rw [h2] at hB
 cases hp : ids[b] with
 | dead => rw [hp] at hB; exact hB.elim
 | stale => rw [hp] at hB; exact hB.elim
 | virt => rw [hp] at hB; have hB : n = 0 := hB; omega
 | gho vs => rw [hp] at hB; exact hB.elim
 | lv p => rw [hp] at hB; exact ⟨p, by rw [List.getElem?_eq_getElem h3, hp], hB, h1, h3⟩
theorem sIdxG_sound (htt : TTok P tt) (hs : Sim c s m a w ids) {t : TypeId} {X Y : Operand} (ho : o.op = .indexAddr t X Y) {b : Nat} (hX : ev s X = .own b) (hb : m.getD b .dead = .mgrid ty agg sh n hi cs ini has val) {K : A → Prop}
  (h : sIdxG tt t b n (ev s Y) K) (hn : ∀ v a' w' ids', K v → Sim c (putD s o.dst v) m a' w' ids' → next a' w') : o.wp P a w next Q := by
 unfold sIdxG at h
 split at h
 ·rename_i ti kk ix hti hY
  split at h
  ·rename_i hk he
   obtain ⟨h01, h⟩ := h
   obtain ⟨i, d, z, hi, hd, _, _, _, _, _, _, _, _, hk2, hk3, _⟩ := htt.facts hti
   obtain ⟨ie, ze, hde, hie, hesz, _⟩ := hk3 hk
   subst hde
   have hx := hs.ev X
   have hy := hs.ev Y
   rw [hX] at hx
   rw [hY] at hy
   obtain ⟨p, hid, hB, _, _⟩ := grid_at hs hb (by omega)
   obtain ⟨g1, g2, _⟩ := hB
   have e : execOp a.eval o = (do let z ← Instr.indexAt t (a.eval X) (a.eval Y); pure (.value z)) := by unfold execOp; rw [ho]
   have hesz1 : ti.esz = 1 := Nat.eq_of_beq_eq_true he
   rcases hs.own_at hx (by rw [hb]; simp) with ⟨q1, _⟩ | ⟨p', cap, q1, q2, q3, q4⟩
   ·rw [hid] at q1; cases q1
   ·rw [hid] at q1; cases q1
    refine wp_of_run (v := .pointer (some ⟨p.blk, 0 + ix.toNat * 1, none⟩)) (w' := w) ?_ (hn _ _ _ ids h (hs.putD o.dst ?_))
    ·rw [e, q4, hy.int_inv, g2]
     simp [Instr.indexAt, asIntOf, underlying, hd, h01.1, h01.2, sizeOf, typeInfo, hie, hesz, hesz1, addr_add]
    ·have := Rel.oref (ids := ids) (im := imOf c ids w) (w := w) b ix.toNat 0 p hid
     rw [g1] at this; simpa using this
  ·exact h.elim
 ·exact h.elim
theorem sLoadG_sound (htt : TTok P tt) (hs : Sim c s m a w ids) {t : TypeId} {X : Operand} (ho : o.op = .load t X) {b i off : Nat} (hX : ev s X = .oref b i off) (hb : m.getD b .dead = .mgrid ty agg sh n hi cs ini has val) {K : A → Prop}
  (h : sLoadG tt t i off n hi cs K) (hn : ∀ v a' w' ids', K v → Sim c (putD s o.dst v) m a' w' ids' → next a' w') : o.wp P a w next Q := by
 unfold sLoadG at h
 split at h
 ·rename_i ti x hti
  split at h
  ·rename_i hag0
   obtain ⟨⟨rfl, hin⟩, h⟩ := h
   rw [fd_eq] at h
   obtain ⟨i0, d, z, hi, hd, _, _, _, _, _, hag, _⟩ := htt.facts hti
   obtain ⟨p, hid, hB, _, _⟩ := grid_at hs hb (by omega)
   obtain ⟨g1, g2, g3, vs, h1, h2, h3, h4, _⟩ := hB
   have hv : i < vs.size := by omega
   have hx := hs.ev X
   rw [hX] at hx
   obtain ⟨p', r1, r2⟩ := hs.oref_at hx (by rw [hb]; simp)
   rw [hid] at r1; cases r1
   have hc : w.cell? ⟨p.blk, i * p.sz + 0, none⟩ = some vs[i] := by
    rw [g1, cell_of_row w p.blk _ vs ty (0, 0) h1]; simp [hv]
   have hrun := run_loadVar_one (P := P) (w := w) hd (by rw [← hag]; exact hag0) p.blk (i * p.sz + 0) _ hc
   refine wp_of_run (v := vs[i]) (w' := w) ?_ (hn _ _ _ ids h (hs.putD o.dst (h4 0 (by simp) hv)))
   have e1 : execOp a.eval o = (do let z ← loadVar t ⟨p.blk, i * p.sz + 0, none⟩; pure (.value z)) := by
    unfold execOp; rw [ho]; simp only [r2]; rfl
   rw [e1]; simp at hrun; simp [hrun]
  ·exact h.elim
 ·exact h.elim
theorem sStoreG_sound (htt : TTok P tt) (hs : Sim c s m a w ids) {t : TypeId} {X Y : Operand} (ho : o.op = .store t X Y) {b i off : Nat} (hX : ev s X = .oref b i off) (hb : m.getD b .dead = .mgrid ty agg sh n hi cs ini has val) {K : Blk → Prop}
  (h : sStoreG tt t i off (ev s Y) ty agg sh n cs ini has val K) (hn : ∀ x a' w' ids', K x → Sim c (putD s o.dst .junk) (m.set b x) a' w' ids' → next a' w') : o.wp P a w next Q := by
 unfold sStoreG at h
 split at h
 ·rename_i ti k hti hY
  split at h
  ·rename_i hsz1
   have hsz1 : ti.size = 1 := Nat.eq_of_beq_eq_true hsz1
   obtain ⟨hin, h⟩ := h
   have hx := hs.ev X
   have hy := hs.ev Y
   rw [hX] at hx; rw [hY] at hy
   obtain ⟨i0, d, z, hi, hd, _, hsz0, _⟩ := htt.facts hti
   obtain ⟨p, hid, hB, _, _⟩ := grid_at hs hb (by omega)
   obtain ⟨g1, g2, g3, vs, h1, h2, h3, h4, kb, h5⟩ := hB
   have hv : i < vs.size := by omega
   obtain ⟨p', r1, r2⟩ := hs.oref_at hx (by rw [hb]; simp)
   rw [hid] at r1; cases r1
   obtain ⟨o1, o2⟩ := one_rel (by rfl) hy
   have hst := run_storeVar (P := P) (w := w) hi p.blk (i * p.sz + 0) ty vs (a.eval Y) [a.eval Y] o2 (by rw [hsz0, hsz1]; rfl) (by intro u hu; rw [List.mem_singleton.1 hu]; exact o1) h1 (by rw [g1]; simp; omega)
   rw [g1] at hst
   simp only [Nat.mul_one, Nat.add_zero] at hst
   rw [set_take vs i _ hv] at hst
   have hmap : ∃ x, a.eval Y = .map x := by
    rcases hy.omap_inv with ⟨q, _, e⟩ | ⟨_, x, e⟩
    ·exact ⟨_, e⟩
    ·exact ⟨_, e⟩
   have hpk : ∀ y, p.kid y → (w.setRow p.blk (vs.setIfInBounds i (a.eval Y))).heap[y]? = w.heap[y]? := fun y hy => setRow_other w p.blk y _ (fun e => g3 (by rw [← e]; exact hy))
   have hs2 := hs.setRow b p hid (.mgrid ty agg sh n i [.omap k] ini has val) vs (vs.setIfInBounds i (a.eval Y)) ty h1 (fun q1 q2 q3 => by
    refine ⟨g1, g2, g3, _, q1, by simp [h2], h3, fun j hj hj' => ?_, kb, fun j hj hj' => ?_⟩
    ·have : j = 0 := by simp at hj; omega
     subst this
     simp only [List.getElem_cons_zero, Array.getElem_setIfInBounds_self]
     exact q2 _ _ hy
    ·have hjv : j < vs.size := by simpa using hj'
     obtain ⟨k0, k1⟩ := h5 j hj hjv
     rw [show (vs.setIfInBounds i (a.eval Y))[j] = if i = j then a.eval Y else vs[j] by rw [Array.getElem_setIfInBounds]]
     split
     ·rename_i e; subst e
      exact ⟨hmap, fun hl => by rcases hl with hl | hl; · simp at hl
                                · exact absurd rfl hl⟩
     ·rename_i e
      refine ⟨k0, fun _ => ⟨(k1 (.inl rfl)).1, fun e1 => ?_⟩⟩
      obtain ⟨l1, l2, l3, l4⟩ := (k1 (.inl rfl)).2 e1
      exact ⟨l1, l2, l3.up q3 (hpk _ l2), fun j' hj' _ e2 e3 => l4 j' hj' (.inl rfl) e2 e3⟩)
   refine wp_of_skip (w' := w.setRow p.blk (vs.setIfInBounds i (a.eval Y))) ?_ (hn _ _ _ ids h (hs2.junk_put o.dst _))
   have e1 : execOp a.eval o = (do storeVar t ⟨p.blk, i * p.sz + 0, none⟩ (a.eval Y); pure .skip) := by
    unfold execOp; rw [ho]; simp only [r2]; rfl
   rw [e1, g1]; simp [hst]
  ·exact h.elim
 ·exact h.elim

/-- A map is taken out of a slice of maps. -/
theorem Sim.takeG (hs : Sim c s m a w ids) {b i : Nat} (hb : m.getD b .dead = .mgrid ty agg sh n hi [] ini has val) (hin : i < n) (hini : ini i = 1) :
  ∃ ids', Sim c s (m.set b (.mgrid ty agg sh n i [.omap m.length] ini has val) ++ [.mapb agg sh (has i) (val i)]) a w ids' := by
 obtain ⟨p, hid, hB, hbm, hbi⟩ := grid_at hs hb (by omega)
 obtain ⟨g1, g2, g3, vs, h1, h2, h3, h4, kb, h5⟩ := hB
 have hivs : i < vs.size := by omega
 obtain ⟨_, k1⟩ := h5 i hin hivs
 obtain ⟨e1, k2, k3, k4⟩ := (k1 (.inl rfl)).2 hini
 let p' : Id := ⟨p.blk, p.k, p.n, p.sz, fun x => p.kid x ∧ x ≠ kb i, p.hist⟩
 have hsub : ∀ x, p'.has x → p.has x := by
  rintro x (h | h)
  ·exact .inl h
  ·exact .inr h.1
 let q : Id := mkId (kb i) 0 0 0
 have hqb : q.blk = kb i := rfl
 have hq1 : ∀ x, q.has x → x = kb i := fun x hx => mkId_has hx
 let ids' := ids.set b (.lv p') ++ [.lv q]
 have get_old : ∀ k, k < ids.length → k ≠ b → ids'[k]? = ids[k]? := by
  intro k hk hne
  simp only [ids']
  rw [List.getElem?_append_left (by simpa using hk), List.getElem?_set_ne (fun e => hne e.symm)]
 have get_b : ids'[b]? = some (.lv p') := by
  simp only [ids']
  rw [List.getElem?_append_left (by simpa using hbi), List.getElem?_set_self hbi]
 have get_q : ids'[ids.length]? = some (.lv q) := by
  simp only [ids']
  rw [List.getElem?_append_right (by simp)]; simp
 have cases_id : ∀ (k : Nat) (r : Id), ids'[k]? = some (.lv r) → (k = b ∧ r = p') ∨ (k = ids.length ∧ r = q) ∨ (k ≠ b ∧ k < ids.length ∧ ids[k]? = some (.lv r)) := by
  intro k r h
  by_cases hkb : k = b
  ·subst hkb; rw [get_b] at h; cases h; exact .inl ⟨rfl, rfl⟩
  ·rcases Nat.lt_trichotomy k ids.length with hk | hk | hk
   ·rw [get_old k hk hkb] at h; exact .inr (.inr ⟨hkb, hk, h⟩)
   ·subst hk; rw [get_q] at h; cases h; exact .inr (.inl ⟨rfl, rfl⟩)
   ·rw [List.getElem?_eq_none (by simp [ids']; omega)] at h; cases h
 have hown : ∀ r, IdE.lv r ∈ ids' → ∀ x, r.has x → x < w.heap.size ∧ (w.heap.size ≤ x ∨ ∃ (b : Nat) (p : Id), ids[b]? = some (.lv p) ∧ p.has x) := by
  intro r hr x hx
  obtain ⟨k, hk⟩ := List.getElem?_of_mem hr
  rcases cases_id k r hk with ⟨_, rfl⟩ | ⟨_, rfl⟩ | ⟨_, _, e⟩
  ·exact ⟨(hs.freshX p (List.mem_of_getElem? hid) x (hsub x hx)).2, .inr ⟨b, p, hid, hsub x hx⟩⟩
  ·have hx' : p.has x := .inr (by rw [hq1 x hx]; exact k2)
   exact ⟨(hs.freshX p (List.mem_of_getElem? hid) x hx').2, .inr ⟨b, p, hid, hx'⟩⟩
  ·exact ⟨(hs.freshX r (List.mem_of_getElem? e) x hx).2, .inr ⟨k, r, e, hx⟩⟩
 obtain ⟨hi1, hi2⟩ := hs.im_stays (w' := w) (ids' := ids') (Nat.le_refl _) (fun _ _ _ => rfl) hown
 have hd : ∀ (b' : Nat) r, ids[b']? = some r → r ≠ .dead → ∃ q, ids'[b']? = some q ∧ likeE r q := by
  intro b' r hr _
  have hlt : b' < ids.length := by
   rcases Nat.lt_or_ge b' ids.length with h' | h'
   ·exact h'
   ·rw [List.getElem?_eq_none h'] at hr; cases hr
  by_cases hbb : b' = b
  ·subst hbb; rw [hid] at hr; cases hr
   exact ⟨_, get_b, p', rfl, rfl, rfl, rfl, rfl, fun _ _ h => h⟩
  ·exact ⟨r, by rw [get_old b' hlt hbb]; exact hr, likeE_rfl r⟩
 have hmono : ∀ u v, RelI (imOf c ids w) w u v → RelI (imOf c ids' w) w u v := fun u v h => h.mono hi1 hi2
 refine ⟨ids', hs.goOn rfl rfl rfl (Nat.le_refl _) (fun _ _ _ => rfl) hown (fun vs h => by
  simp only [ids'] at h
  rcases List.mem_append.1 h with h | h
  ·rcases List.mem_or_eq_of_mem_set h with h | h
   ·exact h
   ·cases h
  ·simp at h) ?_ rfl (by simp [ids', hs.mlen]) (fun i h h' => (hs.slots i h h').reid hi1 hi2 hd) ?_⟩
 ·intro k k' r r' x e1 e2 x1 x2
  rcases cases_id k r e1 with ⟨rfl, rfl⟩ | ⟨rfl, rfl⟩ | ⟨ne, _, e⟩ <;> rcases cases_id k' r' e2 with ⟨rfl, rfl⟩ | ⟨rfl, rfl⟩ | ⟨ne', _, e'⟩
  ·rfl
  ·exfalso
   have hx := hq1 x x2
   rcases x1 with h | h
   ·exact g3 (by rw [← show x = p.blk from h, hx]; exact k2)
   ·exact h.2 hx
  ·exact absurd (hs.distinctX _ _ p r' x hid e' (hsub x x1) x2).symm ne'
  ·exfalso
   have hx := hq1 x x1
   rcases x2 with h | h
   ·exact g3 (by rw [← show x = p.blk from h, hx]; exact k2)
   ·exact h.2 hx
  ·rfl
  ·exact absurd (hs.distinctX _ _ p r' x hid e' (.inr (by rw [hq1 x x1]; exact k2)) x2).symm ne'
  ·exact absurd (hs.distinctX _ _ r p x e hid x1 (hsub x x2)) ne
  ·exact absurd (hs.distinctX _ _ r p x e hid x1 (.inr (by rw [hq1 x x2]; exact k2))) ne
  ·exact hs.distinctX k k' r r' x e e' x1 x2
 ·intro k hk hk'
  simp only [List.length_append, List.length_set, List.length_singleton] at hk
  have hat : ids'[k]? = some ids'[k] := List.getElem?_eq_getElem hk'
  rcases Nat.lt_or_ge k m.length with hkm | hkm
  ·rw [List.getElem_append_left (by simpa using hkm), List.getElem_set]
   split
   ·rename_i he; subst he
    rw [get_b] at hat
    rw [← Option.some.inj hat]
    refine ⟨g1, g2, (fun h => g3 h.1), vs, h1, h2, h3, fun j hj hj' => ?_, kb, ?_⟩
    ·have : j = 0 := by simp at hj; omega
     subst this
     simp only [List.getElem_cons_zero]
     rw [e1]
     exact .omap m.length q (by rw [← hs.mlen]; exact get_q)
    ·intro j hj hjv
     obtain ⟨j0, j1⟩ := h5 j hj hjv
     refine ⟨j0, fun hl => ?_⟩
     have hji : j ≠ i := by
      rcases hl with hl | hl
      ·simp at hl
      ·exact hl
     refine ⟨(j1 (.inl rfl)).1, fun ej => ?_⟩
     obtain ⟨l1, l2, l3, l4⟩ := (j1 (.inl rfl)).2 ej
     exact ⟨l1, ⟨l2, fun e => hji (k4 j hj (.inl rfl) ej e)⟩, l3.up hmono rfl, fun j' hj' _ e2 e3 => l4 j' hj' (.inl rfl) e2 e3⟩
   ·rename_i he
    have hki : k < ids.length := by rw [hs.mlen]; exact hkm
    rw [get_old k hki (fun e => he e.symm), List.getElem?_eq_getElem hki] at hat
    rw [← Option.some.inj hat]
    exact (hs.blks k hkm hki).reid hi1 hi2 hd (fun _ _ _ _ => rfl)
  ·have hq' : ids'[k]? = some (.lv q) := by rw [show k = ids.length by rw [hs.mlen]; omega]; exact get_q
   rw [hq'] at hat
   rw [← Option.some.inj hat, List.getElem_append_right (by simpa using hkm)]
   simp only [List.length_set, show k - m.length = 0 by omega, List.getElem_cons_zero]
   exact k3.up hmono rfl
/-- It is put back. -/
theorem Sim.backG (hs : Sim c s m a w ids) {b b' i : Nat} {H : List KC → Bool} {V : List KC → A} (hb : m.getD b .dead = .mgrid ty agg sh n i [.omap b'] ini has val)
  (hb' : m.getD b' .dead = .mapb agg sh H V) (hne : b ≠ b') (hin : i < n) :
  ∃ ids', Sim c (s.map (scr b' 4)) (((m.map (scrB b' 4)).set b (.mgrid ty agg sh n 0 [] (updN ini i 1) (updN has i H) (updN val i V))).set b' .dead) a w ids' := by
 obtain ⟨p, hid, hB, hbm, hbi⟩ := grid_at hs hb (by omega)
 obtain ⟨g1, g2, g3, vs, h1, h2, h3, h4, kb, h5⟩ := hB
 have hivs : i < vs.size := by omega
 obtain ⟨hbm', hm'⟩ := getD_some (by simp) hb'
 have hbi' : b' < ids.length := by rw [hs.mlen]; exact hbm'
 obtain ⟨q, hq, hvq⟩ := hs.omap_at (h4 0 (by simp) hivs) (by rw [hb']; simp)
 have hM : MapAt (imOf c ids w) w agg sh H V q.blk := by
  have hB' := hs.blks b' hbm' hbi'
  rw [List.getElem?_eq_getElem hbi'] at hq
  rw [hm', Option.some.inj hq] at hB'
  exact hB'
 let p' : Id := ⟨p.blk, p.k, p.n, p.sz, fun y => p.kid y ∨ y = q.blk, p.hist⟩
 have hsub : ∀ y, p'.has y → p.has y ∨ y = q.blk := by
  rintro y (h | h | h)
  ·exact .inl (.inl h)
  ·exact .inl (.inr h)
  ·exact .inr h
 let ids' := (ids.set b (.lv p')).set b' .dead
 have get_old : ∀ k, k ≠ b → k ≠ b' → ids'[k]? = ids[k]? := by
  intro k h1 h2
  simp only [ids']
  rw [List.getElem?_set_ne (fun e => h2 e.symm), List.getElem?_set_ne (fun e => h1 e.symm)]
 have get_b : ids'[b]? = some (.lv p') := by
  simp only [ids']
  rw [List.getElem?_set_ne (fun e => hne e.symm), List.getElem?_set_self hbi]
 have get_b' : ids'[b']? = some .dead := by
  simp only [ids']
  rw [List.getElem?_set_self (by simpa using hbi')]
 have cases_id : ∀ (k : Nat) (r : Id), ids'[k]? = some (.lv r) → (k = b ∧ r = p') ∨ (k ≠ b ∧ k ≠ b' ∧ ids[k]? = some (.lv r)) := by
  intro k r h
  by_cases hkb : k = b
  ·subst hkb; rw [get_b] at h; cases h; exact .inl ⟨rfl, rfl⟩
  ·by_cases hkb' : k = b'
   ·subst hkb'; rw [get_b'] at h; cases h
   ·rw [get_old k hkb hkb'] at h; exact .inr ⟨hkb, hkb', h⟩
 have hqh : q.has q.blk := .inl rfl
 have hown : ∀ r, IdE.lv r ∈ ids' → ∀ y, r.has y → y < w.heap.size ∧ (w.heap.size ≤ y ∨ ∃ (b : Nat) (p : Id), ids[b]? = some (.lv p) ∧ p.has y) := by
  intro r hr y hy
  obtain ⟨k, hk⟩ := List.getElem?_of_mem hr
  rcases cases_id k r hk with ⟨_, rfl⟩ | ⟨_, _, e⟩
  ·rcases hsub y hy with h | h
   ·exact ⟨(hs.freshX p (List.mem_of_getElem? hid) y h).2, .inr ⟨b, p, hid, h⟩⟩
   ·rw [h]; exact ⟨(hs.freshX q (List.mem_of_getElem? hq) _ hqh).2, .inr ⟨b', q, hq, hqh⟩⟩
  ·exact ⟨(hs.freshX r (List.mem_of_getElem? e) y hy).2, .inr ⟨k, r, e, hy⟩⟩
 obtain ⟨hi1, hi2⟩ := hs.im_stays (w' := w) (ids' := ids') (Nat.le_refl _) (fun _ _ _ => rfl) hown
 have hd : ∀ (k : Nat) r, k ≠ b' → ids[k]? = some r → r ≠ .dead → ∃ q, ids'[k]? = some q ∧ likeE r q := by
  intro k r hk hr _
  by_cases hbb : k = b
  ·subst hbb; rw [hid] at hr; cases hr
   exact ⟨_, get_b, p', rfl, rfl, rfl, rfl, rfl, fun _ _ h => h⟩
  ·exact ⟨r, by rw [get_old k hbb hk]; exact hr, likeE_rfl r⟩
 have hmono : ∀ u v, RelI (imOf c ids w) w u v → RelI (imOf c ids' w) w u v := fun u v h => h.mono hi1 hi2
 refine ⟨ids', hs.goOn rfl rfl rfl (Nat.le_refl _) (fun _ _ _ => rfl) hown (fun vs h => by
  simp only [ids'] at h
  rcases List.mem_or_eq_of_mem_set h with h | h
  ·rcases List.mem_or_eq_of_mem_set h with h | h
   ·exact h
   ·cases h
  ·cases h) ?_ (by simp) (by simp [ids', hs.mlen]) ?_ ?_⟩
 ·intro k k' r r' y e1 e2 x1 x2
  rcases cases_id k r e1 with ⟨rfl, rfl⟩ | ⟨ne, ne2, e⟩ <;> rcases cases_id k' r' e2 with ⟨rfl, rfl⟩ | ⟨ne', ne2', e'⟩
  ·rfl
  ·rcases hsub y x1 with h | h
   ·exact absurd (hs.distinctX _ _ p r' y hid e' h x2).symm ne'
   ·exact absurd (hs.distinctX _ _ q r' y hq e' (by rw [h]; exact hqh) x2).symm ne2'
  ·rcases hsub y x2 with h | h
   ·exact absurd (hs.distinctX _ _ r p y e hid x1 h) ne
   ·exact absurd (hs.distinctX _ _ r q y e hq x1 (by rw [h]; exact hqh)) ne2
  ·exact hs.distinctX k k' r r' y e e' x1 x2
 ·intro k h h'
  rw [List.getElem_map]
  exact scr_reid hi1 hi2 hd 4 _ _ (hs.slots k (by simpa using h) h')
 ·intro k hk hk'
  have hat : ids'[k]? = some ids'[k] := List.getElem?_eq_getElem hk'
  simp only [List.length_set, List.length_map] at hk
  rw [List.getElem_set]
  split
  ·rename_i he; subst he
   rw [get_b'] at hat
   rw [← Option.some.inj hat]; exact rfl
  ·rename_i he
   rw [List.getElem_set]
   split
   ·rename_i he2; subst he2
    rw [get_b] at hat
    rw [← Option.some.inj hat]
    have hqk : ¬ p.has q.blk := fun h => hne (hs.distinctX _ _ p q _ hid hq h hqh)
    refine ⟨g1, g2, ?_, vs, h1, h2, h3, fun j hj => absurd hj (by simp), updN kb i q.blk, ?_⟩
    ·rintro (h | h)
     ·exact g3 h
     ·exact hqk (.inl h.symm)
    ·intro j hj hjv
     obtain ⟨j0, j1⟩ := h5 j hj hjv
     refine ⟨j0, fun _ => ?_⟩
     by_cases hji : j = i
     ·subst hji
      simp only [updN, if_pos]
      refine ⟨fun e => absurd e (by omega), fun _ => ⟨hvq, .inr rfl, hM.up hmono rfl, fun j' hj' _ e2 e3 => ?_⟩⟩
      by_cases hjj : j' = j
      ·exact hjj
      ·exfalso
       simp only [if_neg hjj] at e2 e3
       obtain ⟨_, m1⟩ := h5 j' hj' (by omega)
       obtain ⟨_, m2, _⟩ := (m1 (.inr hjj)).2 e2
       exact hqk (.inr (by rw [← e3]; exact m2))
     ·simp only [updN, if_neg hji]
      refine ⟨(j1 (.inr hji)).1, fun ej => ?_⟩
      obtain ⟨l1, l2, l3, l4⟩ := (j1 (.inr hji)).2 ej
      refine ⟨l1, .inl l2, l3.up hmono rfl, fun j' hj' _ e2 e3 => ?_⟩
      by_cases hjj : j' = i
      ·exfalso
       simp only [hjj, if_pos] at e3
       exact hqk (.inr (by rw [e3]; exact l2))
      ·simp only [if_neg hjj] at e2 e3
       exact l4 j' hj' (.inr hjj) e2 e3
   ·rename_i he2
    rw [List.getElem_map]
    have hki : k < ids.length := by rw [hs.mlen]; exact hk
    rw [get_old k (fun e => he2 e.symm) (fun e => he e.symm), List.getElem?_eq_getElem hki] at hat
    rw [← Option.some.inj hat]
    exact BRel.rescr hi1 hi2 hd 4 (fun _ _ _ _ => rfl) (hs.blks k hk hki)
end
end Go.Proofs.YtnkbkfjgbejhfaaGreat.Am

/-
  THE ENGINE, part 2: more operations, calls by contracts, one region, code.
-/
import Derived.Test.YtfhdmhoeopbhnaaDoorAm1
import Derived.Laws.Slices
namespace Go.Proofs.YtfhdmhoeopbhnaaDoor.Am
open Go.RowKit (Below)
section
variable {c : Ctx} {s : List A} {m : List Blk} {a : Act} {w w' : World} {ids ids' : Ids} {P : Program} {im im' : Nat → Prop} {tt : TT}
variable {next : Act → World → Prop} {Q : Exit → Act → World → Prop}

theorem foldl_splice : ∀ (vs : List Value) (k off : Nat) (cs : Array Value), off + k + vs.length ≤ cs.size →
    (vs.zipIdx k).foldl (fun cs (p : Value × Nat) => cs.setIfInBounds (off + p.2) p.1) cs = (cs.toList.take (off + k) ++ vs ++ cs.toList.drop (off + k + vs.length)).toArray
  | [], k, off, cs, h => by simp
  | v :: vs, k, off, cs, h => by
    simp only [List.length_cons] at h
    rw [List.zipIdx_cons, List.foldl_cons, foldl_splice vs (k + 1) off _ (by simp; omega)]
    congr 1
    have hlt : off + k < cs.size := by omega
    apply List.ext_getElem
    · simp; omega
    · intro j h1 h2
      simp only [Array.toList_setIfInBounds]
      by_cases c1 : j < off + k
      · rw [List.getElem_append_left (by simp; omega), List.getElem_append_left (by simp; omega), List.getElem_append_left (by simp; omega), List.getElem_append_left (by simp; omega)]
        simp [List.getElem_set]; omega
      · by_cases c2 : j = off + k
        · subst c2
          rw [List.getElem_append_left (by simp; omega), List.getElem_append_left (by simp; omega), List.getElem_append_left (by simp; omega), List.getElem_append_right (by simp; omega)]
          simp
          have e : min (off + k) cs.size = off + k := by omega
          simp [e]
        · by_cases c3 : j < off + k + 1 + vs.length
          · rw [List.getElem_append_left (by simp; omega), List.getElem_append_right (by simp; omega), List.getElem_append_left (by simp; omega), List.getElem_append_right (by simp; omega)]
            have e1 : min (off + (k + 1)) cs.size = off + k + 1 := by omega
            have e2 : min (off + k) cs.size = off + k := by omega
            simp only [List.length_take, List.length_set, Array.length_toList, e1, e2]
            rw [List.getElem_cons]
            rw [dif_neg (by omega)]
            congr 1
          · rw [List.getElem_append_right (by simp; omega), List.getElem_append_right (by simp; omega)]
            have e1 : min (off + (k + 1)) cs.size = off + k + 1 := by omega
            have e2 : min (off + k) cs.size = off + k := by omega
            simp only [List.getElem_drop, List.length_append, List.length_take, List.length_set, Array.length_toList, e1, e2, List.length_cons]
            rw [List.getElem_set, if_neg (by omega)]
            congr 1; omega

theorem fill_cons (place : Nat → Option (Nat × Nat)) (cells : Array Value) (i : Nat) (v : Value) (rest : List (Nat × Value)) (off size : Nat) (vs : List Value)
    (hp : place i = some (off, size)) (hv : v.cells = vs.toArray) (hl : vs.length = size) (hle : off + size ≤ cells.size) :
    Instr.fill place cells ((i, v) :: rest) = Instr.fill place (cells.toList.take off ++ vs ++ cells.toList.drop (off + vs.length)).toArray rest := by
  have := foldl_splice vs 0 off cells (by omega)
  rw [Instr.fill, hp]
  simp only [hv]
  rw [if_neg (by simp; omega)]
  congr 1
  simp only [Nat.add_zero] at this
  rw [← this]
  simp

/-- Parts and their values, one by one. -/
def PartsRel (ids : Ids) (im : Nat → Prop) (w : World) (ps : List (Nat × A)) (qs : List (Nat × Value)) : Prop :=
  ps.length = qs.length ∧ ∀ j (h : j < ps.length) (h' : j < qs.length), ps[j].1 = qs[j].1 ∧ Rel ids im w ps[j].2 qs[j].2

theorem PartsRel.cons_inv {p : Nat × A} {ps : List (Nat × A)} {qs : List (Nat × Value)} (h : PartsRel ids im w (p :: ps) qs) :
    ∃ v qs', qs = (p.1, v) :: qs' ∧ Rel ids im w p.2 v ∧ PartsRel ids im w ps qs' := by
  obtain ⟨hl, hr⟩ := h
  cases qs with
  | nil => simp at hl
  | cons q qs =>
    have h0 := hr 0 (by simp) (by simp)
    simp at h0
    refine ⟨q.2, qs, ?_, h0.2, by simpa using hl, ?_⟩
    · rw [h0.1]
    · intro j h1 h2
      have := hr (j + 1) (by simpa using h1) (by simpa using h2)
      simpa using this

theorem bldF_sound {ti : TI} : ∀ (ps : List (Nat × A)) (qs : List (Nat × Value)) (cs : List A) (vs : List Value) (K : List A → Prop), PartsRel ids im w ps qs → vs.length = cs.length → (∀ v ∈ vs, oneV v) →
    (∀ j (h : j < cs.length) (h' : j < vs.length), Rel ids im w cs[j] vs[j]) → bldF ti ps cs K →
    ∃ (cs' : List A) (vs' : List Value), Instr.fill (placeOf ti) vs.toArray qs = some vs'.toArray ∧ K cs' ∧ vs'.length = cs'.length ∧ (∀ v ∈ vs', oneV v) ∧ (∀ j (h : j < cs'.length) (h' : j < vs'.length), Rel ids im w cs'[j] vs'[j])
  | [], qs, cs, vs, K, hp, hl, ho, hr, h => by
    have : qs = [] := by have := hp.1; cases qs <;> simp at this ⊢
    subst this
    exact ⟨cs, vs, rfl, h, hl, ho, hr⟩
  | (i, x) :: ps, qs, cs, vs, K, hp, hl, ho, hr, h => by
    obtain ⟨v, qs', rfl, hv, hp'⟩ := hp.cons_inv
    simp only [bldF] at h
    split at h
    · rename_i off size us hpl hc
      split at h
      · rename_i h1 h2
        have h1 := Nat.eq_of_beq_eq_true h1
        have h2 := Nat.le_of_ble_eq_true h2
        rw [fl_eq] at h
        obtain ⟨xs, hxs, hxl, hxo, hxr⟩ := cells_rel hc hv
        obtain ⟨q1, q2, q3⟩ := splice_rel (ids := ids) (im := im) (w := w) (cs := cs) (us := us) (vs := vs) (xs := xs) (off := off) (by omega) hl hxl hr hxr ho hxo
        obtain ⟨cs', vs', f1, f2, f3, f4, f5⟩ := bldF_sound ps qs' _ _ K hp' q1 q2 q3 h
        refine ⟨cs', vs', ?_, f2, f3, f4, f5⟩
        rw [fill_cons _ _ i v qs' off size xs hpl hxs (by omega) (by simp; omega)]
        simpa using f1
      · exact h.elim
    · exact h.elim
end
end Go.Proofs.YtfhdmhoeopbhnaaDoor.Am
namespace Go.Proofs.YtfhdmhoeopbhnaaDoor.Am
open Go.RowKit (Below)
section
variable {c : Ctx} {s : List A} {m : List Blk} {a : Act} {w w' : World} {ids ids' : Ids} {P : Program} {im im' : Nat → Prop} {tt : TT}
variable {next : Act → World → Prop} {Q : Exit → Act → World → Prop} {o : Oper}

abbrev NextOk (c : Ctx) (s : List A) (o : Oper) (K : KT) (next : Act → World → Prop) : Prop :=
  ∀ v m' a' w' ids', K v m' → Sim c (putD s o.dst v) m' a' w' ids' → next a' w'

/-- An operation that yields a value, the world as it was. -/
theorem wp_val (hs : Sim c s m a w ids) {K : KT} (hn : NextOk c s o K next)
    (h : ∃ r v, (execOp a.eval o).run P w = .ok (.value v) w ∧ K r m ∧ Rel ids (imOf c ids w) w r v) : o.wp P a w next Q := by
  obtain ⟨r, v, h1, h2, h3⟩ := h
  exact wp_of_run h1 (hn r m _ _ ids h2 (hs.putD o.dst h3))

theorem sMove_sound (hs : Sim c s m a w ids) {X : Operand} (ho : o.op = .move X ∨ o.op = .assign X) {K : KT} (h : K (ev s X) m) (hn : NextOk c s o K next) : o.wp P a w next Q :=
  wp_val hs hn ⟨_, a.eval X, by unfold execOp; rcases ho with ho | ho <;> rw [ho] <;> rfl, h, hs.ev X⟩

theorem sPick_sound (hs : Sim c s m a w ids) {X Y Z : Operand} (ho : o.op = .pick X Y Z) {K : KT} (h : sPick (ev s X) (ev s Y) (ev s Z) fun v => K v m) (hn : NextOk c s o K next) : o.wp P a w next Q := by
  have hx := hs.ev X
  have e : execOp a.eval o = (do pure (.value (if ← asBool (a.eval X) then a.eval Y else a.eval Z))) := by unfold execOp; rw [ho]
  unfold sPick at h
  split at h
  · rename_i hv; rw [hv] at hx; rw [fv_eq] at h
    exact wp_val hs hn ⟨_, a.eval Y, by rw [e, hx.bool_inv]; rfl, h, hs.ev Y⟩
  · rename_i hv; rw [hv] at hx; rw [fv_eq] at h
    exact wp_val hs hn ⟨_, a.eval Z, by rw [e, hx.bool_inv]; rfl, h, hs.ev Z⟩
  · rename_i b hv; rw [hv] at hx
    rw [fv_eq, fv_eq] at h
    cases b
    · exact wp_val hs hn ⟨_, a.eval Z, by rw [e, hx.sb_inv]; rfl, h.2 rfl, hs.ev Z⟩
    · exact wp_val hs hn ⟨_, a.eval Y, by rw [e, hx.sb_inv]; rfl, h.1 rfl, hs.ev Y⟩
  · exact h.elim

theorem sExtract_sound (hs : Sim c s m a w ids) {X : Operand} {ix : Nat} (ho : o.op = .extract X ix) {K : KT} (h : sExtract (ev s X) ix fun v => K v m) (hn : NextOk c s o K next) : o.wp P a w next Q := by
  have hx := hs.ev X
  have e : execOp a.eval o = (do let z ← Instr.extract (a.eval X) ix; pure (.value z)) := by unfold execOp; rw [ho]
  unfold sExtract at h
  split at h
  · rename_i vs hv; rw [hv] at hx
    split at h
    · rename_i hlt
      have hlt : ix < vs.length := Nat.le_of_ble_eq_true hlt
      rw [fv_eq] at h
      obtain ⟨us, h1, h2, h3⟩ := hx.tup_inv
      refine wp_val hs hn ⟨_, us[ix]'(by omega), ?_, h, ?_⟩
      · rw [e, h1]; simp [Instr.extract, List.getElem?_eq_getElem (show ix < us.length by omega)]
      · simpa [List.getD_eq_getElem?_getD, hlt] using h3 ix hlt (by omega)
    · exact h.elim
  · exact h.elim

theorem sNil_sound (hs : Sim c s m a w ids) {X : Operand} (ho : o.op = .nilCheck X) {K : KT} (h : sNil (ev s X) fun v => K v m) (hn : NextOk c s o K next) : o.wp P a w next Q := by
  have hx := hs.ev X
  have fin : ∀ v, a.eval X = v → (∀ p, v = .pointer p → p ≠ none) → ((∃ p, v = .pointer p) ∨ ∃ f us, v = .func (.func f) #[] us) → (execOp a.eval o).run P w = .ok (.value v) w := by
    intro v hv h1 h2
    unfold execOp; rw [ho]; simp only [hv]
    rcases h2 with ⟨p, rfl⟩ | ⟨f, us, rfl⟩
    · cases p with
      | none => exact absurd rfl (h1 none rfl)
      | some p => rfl
    · rfl
  unfold sNil at h
  split at h
  · rename_i hv; rw [hv] at hx
    obtain ⟨p, h1, h2⟩ := hx.ref_inv
    exact wp_val hs hn ⟨_, a.eval X, fin _ rfl (fun q hq => by rw [h2] at hq; cases hq; simp) (.inl ⟨_, h2⟩), h, hx⟩
  · rename_i hv; rw [hv] at hx
    obtain ⟨p, h1, h2⟩ := hx.oref_inv
    exact wp_val hs hn ⟨_, a.eval X, fin _ rfl (fun q hq => by rw [h2] at hq; cases hq; simp) (.inl ⟨_, h2⟩), h, hx⟩
  · rename_i hv; rw [hv] at hx
    have h2 : ∃ q, a.eval X = .pointer (some q) := by
      cases hx with | imm hx => generalize a.eval X = vv at hx; cases hx; exact ⟨_, rfl⟩
    obtain ⟨q, h2⟩ := h2
    exact wp_val hs hn ⟨_, a.eval X, fin _ rfl (fun q hq => by rw [h2] at hq; cases hq; simp) (.inl ⟨_, h2⟩), h, hx⟩
  · rename_i hv; rw [hv] at hx
    obtain ⟨us, h2, _⟩ := hx.fn_inv
    exact wp_val hs hn ⟨_, a.eval X, fin _ rfl (fun q hq => by rw [h2] at hq; cases hq) (.inr ⟨_, _, h2⟩), h, hx⟩
  · exact h.elim

theorem sConv_sound (htt : TTok P tt) (hs : Sim c s m a w ids) {X : Operand} {src dst : TypeId} (ho : o.op = .convert src dst X) {K : KT} (h : sConv tt src dst (ev s X) fun v => K v m) (hn : NextOk c s o K next) : o.wp P a w next Q := by
  have hx := hs.ev X
  have e : execOp a.eval o = (do let z ← convert src dst (a.eval X); pure (.value z)) := by unfold execOp; rw [ho]
  unfold sConv at h
  split at h
  · rename_i tj ti hj hi
    obtain ⟨i, d, z, _, hd, _⟩ := htt.facts hj
    obtain ⟨i', d', z', _, hd', _, _, _, _, _, _, _, _, _, _, hk5, hk4, _⟩ := htt.facts hi
    split at h
    · rename_i k n hk hv; rw [hv] at hx
      rw [hk5 hk] at hd'
      refine wp_val hs hn ⟨_, .int ti.ik (ti.ik.wrap n), ?_, h, .imm (.int _ _)⟩
      rw [e, hx.int_inv]
      simp [convert, underlying, hd, hd', Conv.intToInt]
    · rename_i st hk hv; rw [hv] at hx
      rw [hk4 hk] at hd'
      refine wp_val hs hn ⟨_, .string ⟨st.toArray⟩, ?_, h, .imm (.str _)⟩
      rw [e, hx.str_inv]
      simp [convert, underlying, hd, hd']
    · exact h.elim
  · exact h.elim
end
end Go.Proofs.YtfhdmhoeopbhnaaDoor.Am
namespace Go.Proofs.YtfhdmhoeopbhnaaDoor.Am
open Go.RowKit (Below)
section
variable {c : Ctx} {s : List A} {m : List Blk} {a : Act} {w w' : World} {ids ids' : Ids} {P : Program} {im im' : Nat → Prop} {tt : TT}
variable {next : Act → World → Prop} {Q : Exit → Act → World → Prop} {o : Oper}

theorem bref_inv {cs : List A} {off : Nat} {v : Value} (h : Rel ids im w (.bref cs off) v) :
    ∃ blk base, v = .pointer (some ⟨blk, base + off, none⟩) ∧ ∀ off', Rel ids im w (.bref cs off') (.pointer (some ⟨blk, base + off', none⟩)) := by
  cases h with
  | imm h => cases h with | bref blk base _ _ vs hb hc ho hr => exact ⟨blk, base, rfl, fun off' => .imm (.bref blk base off' cs vs hb hc ho hr)⟩

theorem sFieldAddr_sound (htt : TTok P tt) (hs : Sim c s m a w ids) {t : TypeId} {X : Operand} {f : Nat} (ho : o.op = .fieldAddr t X f) {K : KT}
    (h : sFieldAddr tt t (ev s X) f m K) (hn : NextOk c s o K next) : o.wp P a w next Q := by
  have hx := hs.ev X
  have e : execOp a.eval o = (do let z ← Instr.fieldAt t (a.eval X) f; pure (.value z)) := by unfold execOp; rw [ho]
  unfold sFieldAddr at h
  split at h
  · exact h.elim
  · rename_i ti ht
    obtain ⟨i, d, z, hi, hd, _, _, _, _, _, _, hk1, hk1', _⟩ := htt.facts ht
    split at h
    · rename_i hk
      obtain ⟨fs, hdf, hoffs⟩ := hk1 hk
      obtain ⟨fs', hdf', hall⟩ := hk1' hk
      have : fs' = fs := by rw [hdf] at hdf'; cases hdf'; rfl
      subst this; subst hdf
      split at h
      · exact h.elim
      · rename_i fo fsz hof
        rw [hoffs, List.getElem?_map] at hof
        cases hfd : fs'.toList[f]? with
        | none => rw [hfd] at hof; cases hof
        | some fd =>
          rw [hfd] at hof
          simp only [Option.map_some, Option.some.injEq, Prod.mk.injEq] at hof
          obtain ⟨rfl, rfl⟩ := hof
          have hsz : ((P.info? fd.type).map (·.size)).getD 0 ≠ 0 := by
            have := List.all_eq_true.1 hall fd (List.mem_of_getElem? hfd)
            simpa using this
          have run : ∀ blk off, a.eval X = .pointer (some ⟨blk, off, none⟩) → (execOp a.eval o).run P w = .ok (.value (.pointer (some ⟨blk, off + fd.offset, none⟩))) w := by
            intro blk off hv
            rw [e, hv]
            cases hinf : P.info? fd.type with
            | none => rw [hinf] at hsz; simp at hsz
            | some fi =>
              rw [hinf] at hsz
              simp only [Option.map_some, Option.getD_some] at hsz
              have hfa : fs'[f]? = some fd := by simpa using hfd
              have hadd : Addr.add ⟨blk, off, none⟩ fd.offset = ⟨blk, off + fd.offset, none⟩ := by
                unfold Addr.add; split
                · rename_i h0; rw [h0]; rfl
                · rfl
              simp [Instr.fieldAt, underlying, hd, hfa, Instr.sureAddr, fieldPlace, sizeOf, typeInfo, hinf, hsz, hadd]
          split at h
          · rename_i b off hv; rw [hv] at hx
            obtain ⟨p, h1, h2⟩ := hx.ref_inv
            rw [fnat_eq] at h
            exact wp_val hs hn ⟨_, _, run _ _ h2, h, .ref b _ p h1⟩
          · rename_i b i' off hv; rw [hv] at hx
            obtain ⟨p, h1, h2⟩ := hx.oref_inv
            rw [fnat_eq] at h
            refine wp_val hs hn ⟨_, _, run _ _ h2, h, ?_⟩
            rw [Nat.add_assoc]; exact .oref b i' _ p h1
          · rename_i cs off hv; rw [hv] at hx
            obtain ⟨blk, base, h1, h2⟩ := bref_inv hx
            rw [fnat_eq] at h
            refine wp_val hs hn ⟨_, _, run _ _ h1, h, ?_⟩
            rw [Nat.add_assoc]; exact h2 _
          · exact h.elim
    · exact h.elim

theorem addr_add (blk off n : Nat) : Addr.add ⟨blk, off, none⟩ n = ⟨blk, off + n, none⟩ := by
  unfold Addr.add; split
  · rename_i h0; rw [h0]; rfl
  · rfl

theorem sIndexAddr_sound (htt : TTok P tt) (hs : Sim c s m a w ids) {t : TypeId} {X Y : Operand} (ho : o.op = .indexAddr t X Y) {K : KT}
    (h : sIndexAddr tt t (ev s X) (ev s Y) m K) (hn : NextOk c s o K next) : o.wp P a w next Q := by
  have hx := hs.ev X
  have hy := hs.ev Y
  have e : execOp a.eval o = (do let z ← Instr.indexAt t (a.eval X) (a.eval Y); pure (.value z)) := by unfold execOp; rw [ho]
  unfold sIndexAddr at h
  split at h
  · exact h.elim
  · rename_i ti ht
    obtain ⟨i, d, z, hi, hd, _, _, _, _, _, _, _, _, hk2, hk3, _⟩ := htt.facts ht
    split at h
    · rename_i k ix hk hv; rw [hv] at hy
      obtain ⟨ie, ze, hde, hie, hesz, _⟩ := hk3 hk
      subst hde
      have run : ∀ blk base n cap, a.eval X = .slice (some ⟨blk, base, none⟩) n cap → 0 ≤ ix → ix < n → (execOp a.eval o).run P w = .ok (.value (.pointer (some ⟨blk, base + ix.toNat * ti.esz, none⟩))) w := by
        intro blk base n cap hvx h0 h1
        rw [e, hvx, hy.int_inv]
        simp [Instr.indexAt, asIntOf, underlying, hd, h0, h1, sizeOf, typeInfo, hie, hesz, addr_add]
      split at h
      · rename_i n sz row hvx; rw [hvx] at hx
        split at h
        · rename_i hsz
          have hsz : sz = ti.esz := Nat.eq_of_beq_eq_true hsz
          obtain ⟨⟨h0, h1⟩, h⟩ := h
          rw [fl_eq] at h
          cases hx with
          | imm hx =>
            generalize hvv : a.eval X = vv at hx
            cases hx with
            | sl0 => exact absurd h1 (by simp; omega)
            | sl _ _ _ blk base cap vs hb hcap hl hc hov hr =>
              have hlt : ix.toNat < n := by omega
              refine wp_val hs hn ⟨_, _, run _ _ _ _ hvv h0 h1, h, ?_⟩
              rw [← hsz]
              refine .imm (.bref blk (base + ix.toNat * sz) 0 (row ix.toNat) (vs ix.toNat) hb ?_ ?_ ?_)
              · intro j hj; rw [hl _ hlt] at hj; exact hc _ _ hlt hj
              · intro j hj; rw [hl _ hlt] at hj; exact hov _ _ hlt hj
              · intro j hj; exact hr _ _ hlt hj
        · exact h.elim
      · rename_i b hvx; rw [hvx] at hx
        split at h
        · rename_i ty sz n row hb
          split at h
          · rename_i hsz
            have hsz : sz = ti.esz := Nat.eq_of_beq_eq_true hsz
            obtain ⟨⟨h0, h1⟩, h⟩ := h
            rcases hx.own_inv with ⟨g1, g2⟩ | ⟨p, cap, g1, g2, g3, g4⟩
            · exfalso
              have hbl : b < ids.length := by
                rcases Nat.lt_or_ge b ids.length with h' | h'
                · exact h'
                · rw [List.getElem?_eq_none h'] at g1; cases g1
              have hbm : b < m.length := by rw [← hs.mlen]; exact hbl
              have hbr := hs.blks b hbm hbl
              rw [List.getElem?_eq_getElem hbl] at g1
              rw [Option.some.inj g1] at hbr
              have : m[b] = .row ty sz n row := by simpa [List.getD_eq_getElem?_getD, hbm] using hb
              rw [this] at hbr
              have hbr : n = 0 := hbr
              omega
            · obtain ⟨x, hxm, hbr⟩ := hs.blk_at g1
              rw [getD_of_get hxm] at hb; subst hb
              obtain ⟨q1, q2, _⟩ := hbr
              rw [q2] at g4
              refine wp_val hs hn ⟨_, _, run _ _ _ _ g4 h0 h1, h, ?_⟩
              have := Rel.oref (ids := ids) (im := imOf c ids w) (w := w) b ix.toNat 0 p g1
              rw [← hsz, ← q1]; simpa using this
          · exact h.elim
        · exact h.elim
      · exact h.elim
    · rename_i k ix hk hv; rw [hv] at hy
      obtain ⟨ie, hde, hie, hesz⟩ := hk2 hk
      subst hde
      have run : ∀ blk off, a.eval X = .pointer (some ⟨blk, off, none⟩) → 0 ≤ ix → ix < (ti.alen : Int) → (execOp a.eval o).run P w = .ok (.value (.pointer (some ⟨blk, off + ix.toNat * ti.esz, none⟩))) w := by
        intro blk off hvx h0 h1
        rw [e, hvx, hy.int_inv]
        simp [Instr.indexAt, asIntOf, underlying, hd, Instr.sureAddr, h0, h1, sizeOf, typeInfo, hie, hesz, addr_add]
      split at h
      · rename_i b off hvx; rw [hvx] at hx
        obtain ⟨⟨h0, h1⟩, h⟩ := h
        obtain ⟨p, g1, g2⟩ := hx.ref_inv
        rw [fnat_eq] at h
        exact wp_val hs hn ⟨_, _, run _ _ g2 h0 h1, h, .ref b _ p g1⟩
      · rename_i cs off hvx; rw [hvx] at hx
        obtain ⟨⟨h0, h1⟩, h⟩ := h
        obtain ⟨blk, base, g1, g2⟩ := bref_inv hx
        rw [fnat_eq] at h
        refine wp_val hs hn ⟨_, _, run _ _ g1 h0 h1, h, ?_⟩
        rw [Nat.add_assoc]; exact g2 _
      · exact h.elim
    · exact h.elim
end
end Go.Proofs.YtfhdmhoeopbhnaaDoor.Am
namespace Go.Proofs.YtfhdmhoeopbhnaaDoor.Am
open Go.RowKit (Below)
section
variable {c : Ctx} {s : List A} {m : List Blk} {a : Act} {w w' : World} {ids ids' : Ids} {P : Program} {im im' : Nat → Prop} {tt : TT}
variable {next : Act → World → Prop} {Q : Exit → Act → World → Prop} {o : Oper}

/-- A new block, and a value that names it. -/
theorem wp_new (hs : Sim c s m a w ids) {K : KT} (hn : NextOk c s o K next) (x : Blk) (vs : Array Value) (ty : TypeId) (n sz : Nat) {r : A} {v : Value}
    (hrun : (execOp a.eval o).run P w = .ok (.value v) (w.alloc (.cells vs ty))) (hk : K r (m ++ [x]))
    (hx : ∀ ids' im' w', (∀ b, imOf c ids w b → im' b) → (∀ b, imOf c ids w b → w'.heap[b]? = w.heap[b]?) → (∀ (b : Nat) p, ids[b]? = some p → p ≠ .dead → ids'[b]? = some p) →
      w'.heap[w.heap.size]? = some (.cells vs ty (0, 0)) → BRel ids' im' w' x (.lv ⟨w.heap.size, vs.size, n, sz⟩))
    (hr : ∀ ids' im' w', ids'[m.length]? = some (.lv ⟨w.heap.size, vs.size, n, sz⟩) → Rel ids' im' w' r v) : o.wp P a w next Q := by
  have hs' := hs.alloc x vs ty n sz hx
  refine wp_of_run hrun (hn r _ _ _ _ hk (hs'.putD o.dst (hr _ _ _ ?_)))
  rw [← hs.mlen]; simp

theorem sBox_sound (hs : Sim c s m a w ids) {t : TypeId} {X : Operand} (ho : o.op = .box t X) {K : KT} (h : sBox t (ev s X) m K) (hn : NextOk c s o K next) : o.wp P a w next Q := by
  have hx := hs.ev X
  unfold sBox at h
  split at h
  · rename_i cs hc
    rw [pushB_eq] at h
    obtain ⟨vs, h1, h2, h3, h4⟩ := cells_rel hc hx
    refine wp_new hs hn (.box t cs) vs.toArray t 0 0 (v := .pointer (some ⟨w.heap.size, 0, none⟩)) ?_ h ?_ ?_
    · unfold execOp; rw [ho]; simp [Instr.box, newVar, newRow, h1]
    · intro ids' im' w' g1 g2 g3 g4
      refine ⟨vs.toArray, g4, rfl, by simp [h2], ?_⟩
      intro j hj hj'
      simp at hj'
      refine ⟨(by simpa using (h4 j hj hj').mono g1 g2 g3), ?_⟩
      simpa using h3 _ (List.getElem_mem hj')
    · intro ids' im' w' g; exact .ref _ _ _ g
  · exact h.elim

theorem sAlloc_sound (htt : TTok P tt) (hs : Sim c s m a w ids) {t : TypeId} (ho : o.op = .alloc t) {K : KT} (h : sAlloc tt t m K) (hn : NextOk c s o K next) : o.wp P a w next Q := by
  unfold sAlloc at h
  split at h
  · rename_i ti ht
    obtain ⟨i, d, z, hi, hd, hz, hsz, hone, hzs, hzero, _⟩ := htt.facts ht
    rw [pushB_eq] at h
    refine wp_new hs hn (.box t ti.zero) z.cells t 0 0 (v := .pointer (some ⟨w.heap.size, 0, none⟩)) ?_ h ?_ ?_
    · unfold execOp; rw [ho]; simp [Instr.alloc, zeroValue, typeInfo, hi, hz, newVar, newRow]
    · intro ids' im' w' g1 g2 g3 g4
      refine ⟨z.cells, g4, rfl, by simp [hzero], ?_⟩
      intro j hj hj'
      refine ⟨?_, hone _ (by simp)⟩
      simp only [hzero, List.getElem_map, Array.getElem_toList]
      exact .imm (ofConst_rel _ _ _)
    · intro ids' im' w' g; exact .ref _ _ _ g
  · exact h.elim

theorem parts_rel (hs : Sim c s m a w ids) (ps : List (Nat × Operand)) : PartsRel ids (imOf c ids w) w (ps.map fun p => (p.1, ev s p.2)) (ps.map fun p => (p.1, a.eval p.2)) :=
  ⟨by simp, fun j h h' => by simp; exact hs.ev _⟩

theorem mapM_offs (fs : List Field) (h : fs.all (fun f => ((P.info? f.type).map (·.size)).getD 0 != 0) = true) :
    fs.mapM (fun f => (P.info? f.type).map fun i => (f.offset, i.size)) = some (fs.map fun f => (f.offset, ((P.info? f.type).map (·.size)).getD 0)) := by
  induction fs with
  | nil => rfl
  | cons f fs ih =>
    simp only [List.all_cons, Bool.and_eq_true] at h
    cases hi : P.info? f.type with
    | none => rw [hi] at h; simp at h
    | some i => simp [hi, ih h.2]

theorem sBuild_sound (htt : TTok P tt) (hs : Sim c s m a w ids) {t : TypeId} {ps : Array (Nat × Operand)} (ho : o.op = .build t ps) {K : KT}
    (h : sBuild tt t (ps.toList.map fun p => (p.1, ev s p.2)) m K) (hn : NextOk c s o K next) : o.wp P a w next Q := by
  have hp := parts_rel hs ps.toList
  unfold sBuild at h
  split at h
  · exact h.elim
  · rename_i ti ht
    obtain ⟨i, d, z, hi, hd, hz, hsz, hone, hzs, hzero, _, hk1, hk1', hk2, _⟩ := htt.facts ht
    have key : bldF ti (ps.toList.map fun p => (p.1, ev s p.2)) ti.zero (fun cs => K (.agg cs) m) → (∀ parts vs', Instr.fill (placeOf ti) z.cells parts = some vs' → P.built t parts = some vs') → o.wp P a w next Q := by
      intro h hb
      obtain ⟨cs', vs', f1, f2, f3, f4, f5⟩ := bldF_sound (ti := ti) _ _ ti.zero z.cells.toList _ hp (by simp [hzero]) hone
        (fun j h1 h2 => by simp only [hzero, List.getElem_map]; exact .imm (ofConst_rel _ _ _)) h
      refine wp_val hs hn ⟨_, .agg vs'.toArray, ?_, f2, .agg cs' vs' f3 f4 f5⟩
      have := run_build (P := P) w t (ps.map fun p => (p.1, a.eval p.2)) vs'.toArray (hb _ _ (by simpa using f1))
      have e : execOp a.eval o = (do let z ← Instr.build t (ps.map fun p => (p.1, a.eval p.2)); pure (.value z)) := by unfold execOp; rw [ho]
      rw [e]; simp [this]
    split at h
    · rename_i hk
      obtain ⟨fs, hdf, hoffs⟩ := hk1 hk
      obtain ⟨fs', hdf', hall⟩ := hk1' hk
      have : fs' = fs := by rw [hdf] at hdf'; cases hdf'; rfl
      subst this; subst hdf
      refine key h ?_
      intro parts vs' hf
      unfold Program.built
      simp only [hi, hd, hz, mapM_offs fs'.toList hall]
      have : (fun x => (fs'.toList.map fun f => (f.offset, ((P.info? f.type).map (·.size)).getD 0)).toArray[x]?) = placeOf ti := by
        funext x; unfold placeOf; rw [hk]; simp [hoffs]
      rw [this]; exact hf
    · rename_i hk
      obtain ⟨ie, hde, hie, hesz⟩ := hk2 hk
      subst hde
      refine key h ?_
      intro parts vs' hf
      unfold Program.built
      simp only [hi, hd, hz, hie]
      have : (fun i => some (i * ie.size, ie.size)) = placeOf ti := by
        funext x; unfold placeOf; rw [hk, hesz]; rfl
      rw [this]; exact hf
    · exact h.elim

theorem own_len (hs : Sim c s m a w ids) {b : Nat} {v : Value} (hx : Rel ids (imOf c ids w) w (.own b) v) {ty : TypeId} {sz n : Nat} {row : Nat → List A} (hb : m.getD b .dead = .row ty sz n row) :
    (n = 0 ∧ v = .slice none 0 0 ∧ ids[b]? = some .virt) ∨ ∃ p cap, ids[b]? = some (.lv p) ∧ (n ≤ cap ∧ cap ≤ maxLen) ∧ cap * sz = p.k ∧ p.sz = sz ∧ p.n = n ∧ v = .slice (some ⟨p.blk, 0, none⟩) n cap := by
  rcases hx.own_inv with ⟨g1, g2⟩ | ⟨p, cap, g1, g2, g3, g4⟩
  · have hbl : b < ids.length := by
      rcases Nat.lt_or_ge b ids.length with h' | h'
      · exact h'
      · rw [List.getElem?_eq_none h'] at g1; cases g1
    have hbm : b < m.length := by rw [← hs.mlen]; exact hbl
    have hbr := hs.blks b hbm hbl
    rw [List.getElem?_eq_getElem hbl] at g1
    rw [Option.some.inj g1] at hbr
    have : m[b] = .row ty sz n row := by simpa [List.getD_eq_getElem?_getD, hbm] using hb
    rw [this] at hbr
    exact .inl ⟨hbr, g2, by rw [List.getElem?_eq_getElem hbl]; exact g1⟩
  · obtain ⟨x, hxm, hbr⟩ := hs.blk_at g1
    rw [getD_of_get hxm] at hb; subst hb
    obtain ⟨q1, q2, _⟩ := hbr
    exact .inr ⟨p, cap, g1, by rw [← q2]; exact g2, by rw [← q1]; exact g3, q1, q2, by rw [← q2]; exact g4⟩

theorem sLen_sound (htt : TTok P tt) (hs : Sim c s m a w ids) {X : Operand} {t : TypeId}
    (ho : o.op = .call { callee := .builtin .len, args := #[X], argTypes := #[t] }) {K : KT} (h : sLen tt t (ev s X) m fun v => K v m) (hn : NextOk c s o K next) : o.wp P a w next Q := by
  have hx := hs.ev X
  have e : (execOp a.eval o) = (do pure (.value (← Builtin.len_ #[t] o.type #[a.eval X]))) := by
    obtain ⟨dst, op, ty, pos, after, guard⟩ := o
    simp only at ho; subst ho
    rw [BigFrame.execOp_builtin, BigFrame.builtin_len]; simp
  unfold sLen at h
  split at h
  · exact h.elim
  · rename_i ti ht
    obtain ⟨i, d, z, hi, hd, hz, hsz, hone, hzs, hzero, _, hk1, hk1', hk2, hk3, hk5, hk4, _⟩ := htt.facts ht
    have slen : ∀ ad n cap, a.eval X = .slice ad n cap → ti.kind = 3 → (execOp a.eval o).run P w = .ok (.value (.int .i64 n)) w := by
      intro ad n cap hv hk
      obtain ⟨ie, ze, hde, _⟩ := hk3 hk
      subst hde
      rw [e, hv]; simp [Builtin.len_, underlying, hd, goInt]
    split at h
    · rename_i n sz row hk hv; rw [hv] at hx
      cases hx with
      | imm hx =>
        generalize hvv : a.eval X = vv at hx
        cases hx with
        | sl0 => exact wp_val hs hn ⟨_, _, slen _ _ _ hvv hk, h, .imm (.int _ _)⟩
        | sl => exact wp_val hs hn ⟨_, _, slen _ _ _ hvv hk, h, .imm (.int _ _)⟩
    · rename_i b hk hv; rw [hv] at hx
      split at h
      · rename_i ty sz n row hb
        rcases own_len hs hx hb with ⟨rfl, g2, _⟩ | ⟨p, cap, g1, g2, g3, _, _, g4⟩
        · exact wp_val hs hn ⟨_, _, slen _ _ _ g2 hk, h, .imm (.int _ _)⟩
        · exact wp_val hs hn ⟨_, _, slen _ _ _ g4 hk, h, .imm (.int _ _)⟩
      · exact h.elim
    · rename_i hk hv; rw [hv] at hx
      exact wp_val hs hn ⟨_, _, slen _ _ _ hx.nils_inv hk, h, .imm (.int _ _)⟩
    · rename_i st hk hv; rw [hv] at hx
      have hdd := hk4 hk
      subst hdd
      refine wp_val hs hn ⟨_, .int .i64 st.length, ?_, h, .imm (.int _ _)⟩
      rw [e, hx.str_inv]; simp [Builtin.len_, underlying, hd, goInt]; rfl
    · exact h.elim
end
end Go.Proofs.YtfhdmhoeopbhnaaDoor.Am
namespace Go.Proofs.YtfhdmhoeopbhnaaDoor.Am
open Go.RowKit (Below)
section
variable {c : Ctx} {s : List A} {m : List Blk} {a : Act} {w w' : World} {ids ids' : Ids} {P : Program} {im im' : Nat → Prop} {tt : TT}
variable {next : Act → World → Prop} {Q : Exit → Act → World → Prop} {o : Oper}

theorem sIndex_sound (htt : TTok P tt) (hs : Sim c s m a w ids) {t : TypeId} {X Y : Operand} (ho : o.op = .index t X Y) {K : KT}
    (h : sIndex tt t (ev s X) (ev s Y) fun v => K v m) (hn : NextOk c s o K next) : o.wp P a w next Q := by
  have hx := hs.ev X
  have hy := hs.ev Y
  have e : execOp a.eval o = (do let z ← Instr.index t (a.eval X) (a.eval Y); pure (.value z)) := by unfold execOp; rw [ho]
  unfold sIndex at h
  split at h
  · rename_i ti k ix ht hv; rw [hv] at hy
    obtain ⟨i, d, z, hi, hd, hz, hsz, hone, hzs, hzero, _, hk1, hk1', hk2, hk3, hk5, hk4, _⟩ := htt.facts ht
    split at h
    · rename_i st hk hvx; rw [hvx] at hx
      have hdd := hk4 hk
      subst hdd
      obtain ⟨⟨h0, h1⟩, h⟩ := h
      have hlt : ix.toNat < st.length := by omega
      refine wp_val hs hn ⟨_, _, ?_, h, .imm (.int _ _)⟩
      rw [e, hx.str_inv, hy.int_inv]
      have hg : (ByteArray.mk st.toArray)[ix.toNat]? = some (st[ix.toNat]) := by
        have : ix.toNat < (ByteArray.mk st.toArray).size := hlt
        exact (getElem?_pos (ByteArray.mk st.toArray) ix.toNat this)
      simp [Instr.index, asIntOf, underlying, hd, h0, hg, List.getD_eq_getElem?_getD, hlt]
    · rename_i cs hk hvx; rw [hvx] at hx
      obtain ⟨ie, hde, hie, hesz⟩ := hk2 hk
      subst hde
      split at h
      · rename_i te hte
        obtain ⟨⟨h0, h1⟩, h⟩ := h
        obtain ⟨i', d', z', hi', hd', _, hsz', _, _, _, hag', _⟩ := htt.facts hte
        have hie' : ie = i' := by rw [hie] at hi'; exact Option.some.inj hi'
        obtain ⟨vs, hv1, hv2, hv3, hv4⟩ := hx.agg_inv
        have run : ∀ v, (part ti.ety vs.toArray (ix.toNat * ti.esz)).run P w = .ok v w → (execOp a.eval o).run P w = .ok (.value v) w := by
          intro v hp
          rw [e, hv1, hy.int_inv]
          simp [Instr.index, asIntOf, underlying, hd, h0, h1, sizeOf, typeInfo, hie, hesz, hp]
        unfold ldA at h
        split at h
        · rename_i hb
          split at h
          · rename_i hle
            have hle := Nat.le_of_ble_eq_true hle
            rw [fl_eq, takeL_eq] at h
            have hlv : ((vs.drop (ix.toNat * ti.esz)).take te.size).length = te.size := by simp; omega
            refine wp_val hs hn ⟨_, .agg ((vs.drop (ix.toNat * ti.esz)).take te.size).toArray, run _ ?_, h, .agg _ _ (by rw [hlv]; simp; omega) ?_ ?_⟩
            · unfold part isAgg
              rw [hag'] at hb
              cases d' <;> simp [isRowD] at hb <;> simp [underlying, hd', sizeOf, typeInfo, hi', hsz']
            · intro v hv; exact hv3 v (List.mem_of_mem_drop (List.mem_of_mem_take hv))
            · intro j h1 h2
              simp at h1 h2
              have := hv4 (ix.toNat * ti.esz + j) (by omega) (by omega)
              simpa using this
          · exact h.elim
        · rename_i hb
          split at h
          · rename_i hlt
            have hlt : ix.toNat * ti.esz < cs.length := Nat.le_of_ble_eq_true hlt
            rw [fv_eq] at h
            refine wp_val hs hn ⟨_, vs[ix.toNat * ti.esz]'(by omega), run _ ?_, h, ?_⟩
            · unfold part isAgg
              rw [hag'] at hb
              cases d' <;> simp [isRowD] at hb <;> simp [underlying, hd', List.getElem?_eq_getElem (show ix.toNat * ti.esz < vs.length by omega)]
            · simpa [List.getD_eq_getElem?_getD, hlt] using hv4 _ hlt (by omega)
          · exact h.elim
      · exact h.elim
    · exact h.elim
  · exact h.elim

theorem evL_rel (hs : Sim c s m a w ids) (xs : List Operand) : ∀ j (h : j < (xs.map (ev s)).length) (h' : j < (xs.map a.eval).length), Rel ids (imOf c ids w) w (xs.map (ev s))[j] (xs.map a.eval)[j] := by
  intro j h h'
  simp; exact hs.ev _

theorem sMakeFunc_sound (hs : Sim c s m a w ids) {f : FuncId} {xs : Array Operand} (ho : o.op = .makeFunc (.func f) #[] xs) {K : KT}
    (h : K (.fn f (xs.toList.map (ev s))) m) (hn : NextOk c s o K next) : o.wp P a w next Q := by
  refine wp_val hs hn ⟨_, .func (.func f) #[] (xs.toList.map a.eval).toArray, ?_, h, .fn f _ _ (by simp) (evL_rel hs xs.toList)⟩
  have e : (xs.map a.eval) = (xs.toList.map a.eval).toArray := by apply Array.ext'; simp
  unfold execOp; rw [ho]; simp [Instr.makeFunc, e]

def mnL : A → List A → (A → Prop) → Prop
  | x, [], K => fv x K
  | x, y :: ys, K => mn2 x y fun v => mnL v ys K
def mxL : A → List A → (A → Prop) → Prop
  | x, [], K => fv x K
  | x, y :: ys, K => mx2 x y fun v => mxL v ys K
theorem mnL_sound : ∀ (ys : List A) (vs : List Value) (x : A) (v : Value) (K : A → Prop), Rel ids im w x v → ys.length = vs.length → (∀ j (h : j < ys.length) (h' : j < vs.length), Rel ids im w ys[j] vs[j]) → mnL x ys K →
    ∃ r u, (vs.foldlM Builtin.min2 v).run P w = .ok u w ∧ K r ∧ Rel ids im w r u
  | [], vs, x, v, K, hx, hl, hr, h => by
    have : vs = [] := by cases vs <;> simp at hl ⊢
    subst this
    rw [mnL, fv_eq] at h
    exact ⟨x, v, by simp, h, hx⟩
  | y :: ys, vs, x, v, K, hx, hl, hr, h => by
    cases vs with
    | nil => simp at hl
    | cons u us =>
      have hy : Rel ids im w y u := hr 0 (by simp) (by simp)
      simp only [mnL] at h
      unfold mn2 at h
      split at h
      · rename_i k a' k' b'
        rw [hx.int_inv, hy.int_inv]
        obtain ⟨r, z, h1, h2, h3⟩ := mnL_sound ys us (.int k (if b' < a' then b' else a')) (.int k (if b' < a' then b' else a')) K (.imm (.int _ _)) (by simpa using hl)
          (fun j h1 h2 => hr (j + 1) (Nat.succ_lt_succ h1) (Nat.succ_lt_succ h2)) h
        exact ⟨r, z, by simp [List.foldlM_cons, Builtin.min2, h1], h2, h3⟩
      · exact h.elim
theorem mxL_sound : ∀ (ys : List A) (vs : List Value) (x : A) (v : Value) (K : A → Prop), Rel ids im w x v → ys.length = vs.length → (∀ j (h : j < ys.length) (h' : j < vs.length), Rel ids im w ys[j] vs[j]) → mxL x ys K →
    ∃ r u, (vs.foldlM Builtin.max2 v).run P w = .ok u w ∧ K r ∧ Rel ids im w r u
  | [], vs, x, v, K, hx, hl, hr, h => by
    have : vs = [] := by cases vs <;> simp at hl ⊢
    subst this
    rw [mxL, fv_eq] at h
    exact ⟨x, v, by simp, h, hx⟩
  | y :: ys, vs, x, v, K, hx, hl, hr, h => by
    cases vs with
    | nil => simp at hl
    | cons u us =>
      have hy : Rel ids im w y u := hr 0 (by simp) (by simp)
      simp only [mxL] at h
      unfold mx2 at h
      split at h
      · rename_i k a' k' b'
        rw [hx.int_inv, hy.int_inv]
        obtain ⟨r, z, h1, h2, h3⟩ := mxL_sound ys us (.int k (if a' < b' then b' else a')) (.int k (if a' < b' then b' else a')) K (.imm (.int _ _)) (by simpa using hl)
          (fun j h1 h2 => hr (j + 1) (Nat.succ_lt_succ h1) (Nat.succ_lt_succ h2)) h
        exact ⟨r, z, by simp [List.foldlM_cons, Builtin.max2, h1], h2, h3⟩
      · exact h.elim
end
end Go.Proofs.YtfhdmhoeopbhnaaDoor.Am
namespace Go.Proofs.YtfhdmhoeopbhnaaDoor.Am
open Go.RowKit (Below)

def fd : Nat → A → (A → Prop) → Prop
  | 0, x, K => fv x K
  | d + 1, x, K => match x with
    | .agg cs => fdl d cs fun c => K (.agg c)
    | .tup cs => fdl d cs fun c => K (.tup c)
    | .fn f cs => fdl d cs fun c => K (.fn f c)
    | .bref cs o => fdl d cs fun c => K (.bref c o)
    | x => fv x K
where fdl (d : Nat) : List A → (List A → Prop) → Prop
  | [], K => K []
  | a :: as, K => fd d a fun a' => fdl d as fun as' => K (a' :: as')
mutual
theorem fd_eq : ∀ (d : Nat) (x : A) (K : A → Prop), fd d x K = K x
  | 0, x, K => by rw [fd, fv_eq]
  | d + 1, x, K => by cases x <;> simp only [fd, fdl_eq, fv_eq]
theorem fdl_eq : ∀ (d : Nat) (l : List A) (K : List A → Prop), fd.fdl d l K = K l
  | _, [], _ => by rw [fd.fdl]
  | d, a :: as, K => by rw [fd.fdl]; simp only [fd_eq, fdl_eq d as]
end

def plain : Nat → A → Bool
  | 0, _ => false
  | d + 1, x => match x with
    | .int _ _ => true
    | .bool _ => true
    | .sb _ => true
    | .str _ => true
    | .nilp => true
    | .nils => true
    | .agg cs => cs.all (plain d)
    | .tup cs => cs.all (plain d)
    | _ => false
def wk (m : List Blk) : Nat → A → A
  | 0, _ => .junk
  | d + 1, x => match x with
    | .ref b off => match m.getD b .dead with
      | .box _ cs => .bref (cs.map (wk m d)) off
      | _ => .junk
    | .oref _ _ _ => .junk
    | .own b => match m.getD b .dead with
      | .row _ sz n row => .sl n sz fun i => (row i).map (wk m d)
      | _ => .junk
    | .agg cs => .agg (cs.map (wk m d))
    | .tup cs => .tup (cs.map (wk m d))
    | .fn f cs => .fn f (cs.map (wk m d))
    | x => x

section
variable {c : Ctx} {s : List A} {m : List Blk} {a : Act} {w w' : World} {ids ids' : Ids} {P : Program} {im im' : Nat → Prop} {tt : TT}
variable {next : Act → World → Prop} {Q : Exit → Act → World → Prop} {o : Oper}

theorem plain_rel : ∀ (d : Nat) (x : A) (v : Value), plain d x = true → RelI im w x v → RelI im' w' x v
  | 0, x, v, h, _ => by cases h
  | d + 1, x, v, h, hr => by
    cases hr with
    | int => exact .int _ _
    | bool => exact .bool _
    | sb => exact .sb _
    | str => exact .str _
    | nilp => exact .nilp
    | nils => exact .nils
    | agg cs vs hl ho hr =>
      refine .agg cs vs hl ho fun j h1 h2 => plain_rel d _ _ ?_ (hr j h1 h2)
      simp only [plain, List.all_eq_true] at h
      exact h _ (List.getElem_mem h1)
    | tup cs vs hl hr =>
      refine .tup cs vs hl fun j h1 h2 => plain_rel d _ _ ?_ (hr j h1 h2)
      simp only [plain, List.all_eq_true] at h
      exact h _ (List.getElem_mem h1)
    | bref => cases h
    | sl0 => cases h
    | sl => cases h
    | fn => cases h
    | nilfn => cases h
    | junk => cases h

/-- What may be read through a value, all that is the call's own besides. -/
def imAll (c : Ctx) (ids : Ids) (w : World) : Nat → Prop := fun b => imOf c ids w b ∨ ∃ p, IdE.lv p ∈ ids ∧ p.blk = b

theorem wk_rel (hs : Sim c s m a w ids) : ∀ (d : Nat) (x : A) (v : Value), Rel ids (imOf c ids w) w x v → RelI (imAll c ids w) w (wk m d x) v
  | 0, x, v, _ => .junk _
  | d + 1, x, v, hr => by
    have up : RelI (imOf c ids w) w x v → RelI (imAll c ids w) w x v := fun h => h.mono (fun _ h => .inl h) (fun _ _ => rfl)
    cases hr with
    | imm hr =>
      cases hr with
      | agg cs vs hl ho hr => exact .agg _ vs (by simp [hl]) ho fun j h1 h2 => by simpa using wk_rel hs d _ _ (.imm (hr j (by simpa using h1) h2))
      | tup cs vs hl hr => exact .tup _ vs (by simp [hl]) fun j h1 h2 => by simpa using wk_rel hs d _ _ (.imm (hr j (by simpa using h1) h2))
      | fn f cs vs hl hr => exact .fn f _ vs (by simp [hl]) fun j h1 h2 => by simpa using wk_rel hs d _ _ (.imm (hr j (by simpa using h1) h2))
      | int => exact .int _ _
      | bool => exact .bool _
      | sb => exact .sb _
      | str => exact .str _
      | nilp => exact .nilp
      | nils => exact .nils
      | nilfn => exact .nilfn
      | junk => exact .junk _
      | sl0 => exact .sl0 _ _
      | sl n sz row blk base cap vs hb hcap hl hc ho hr => exact up (.sl n sz row blk base cap vs hb hcap hl hc ho hr)
      | bref blk base off cs vs hb hc ho hr => exact up (.bref blk base off cs vs hb hc ho hr)
    | ref b off p h =>
      simp only [wk]
      split
      · rename_i ty cs hb
        obtain ⟨vs, h1, h2, h3, h4⟩ := hs.run_box h hb
        have := RelI.bref (im := imAll c ids w) (w := w) p.blk 0 off (cs.map (wk m d)) (fun j => vs.getD j undef) (.inr ⟨p, List.mem_of_getElem? h, rfl⟩)
          (fun j hj => by simp at hj; have := h2 j (by omega); simpa [List.getD_eq_getElem?_getD, show j < vs.length by omega] using this)
          (fun j hj => by simp at hj; have := h3 _ (List.getElem_mem (show j < vs.length by omega)); simpa [List.getD_eq_getElem?_getD, show j < vs.length by omega] using this)
          (fun j hj => by
            simp at hj
            have := wk_rel hs d _ _ (h4 j hj (by omega))
            simpa [List.getD_eq_getElem?_getD, show j < vs.length by omega] using this)
        simpa using this
      · exact .junk _
    | oref => exact .junk _
    | own0 b h =>
      simp only [wk]
      split
      · rename_i ty sz n row hb
        rcases own_len hs (.own0 b h) hb with ⟨rfl, _, _⟩ | ⟨p, cap, g1, _⟩
        · exact .sl0 _ _
        · rw [h] at g1; cases g1
      · exact .junk _
    | own b cap p h hn hm =>
      simp only [wk]
      split
      · rename_i ty sz n row hb
        have hrow : ∀ i, i < n → Run ids (imOf c ids w) w (row i) p.blk (i * p.sz) := fun i hi => hs.run_row h hb hi
        obtain ⟨x, hxm, hbr⟩ := hs.blk_at h
        rw [getD_of_get hxm] at hb; subst hb
        obtain ⟨q1, q2, vs0, _, _, _, hl, _⟩ := hbr
        subst q1; subst q2
        have hrow' : ∀ i, ∃ vs : List Value, i < p.n → vs.length = (row i).length ∧ (∀ j (h : j < vs.length), w.cell? ⟨p.blk, i * p.sz + j, none⟩ = some vs[j]) ∧ (∀ v ∈ vs, oneV v) ∧
            ∀ j (h : j < (row i).length) (h' : j < vs.length), Rel ids (imOf c ids w) w (row i)[j] vs[j] := by
          intro i
          by_cases hi : i < p.n
          · obtain ⟨vs, h1, h2, h3, h4⟩ := hrow i hi; exact ⟨vs, fun _ => ⟨h1, h2, h3, h4⟩⟩
          · exact ⟨[], fun h => absurd h hi⟩
        have hch := Classical.axiomOfChoice hrow'
        obtain ⟨vs, hvs⟩ := hch
        refine .sl p.n p.sz _ p.blk 0 cap (fun i j => (vs i).getD j undef) (.inr ⟨p, List.mem_of_getElem? h, rfl⟩) hn.1 (fun i hi => by simp [hl i hi]) ?_ ?_ ?_
        · intro i j hi hj
          obtain ⟨h1, h2, h3, h4⟩ := hvs i hi
          rw [hl i hi] at h1
          have := h2 j (by omega)
          simpa [List.getD_eq_getElem?_getD, show j < (vs i).length by omega] using this
        · intro i j hi hj
          obtain ⟨h1, h2, h3, h4⟩ := hvs i hi
          rw [hl i hi] at h1
          have := h3 _ (List.getElem_mem (show j < (vs i).length by omega))
          simpa [List.getD_eq_getElem?_getD, show j < (vs i).length by omega] using this
        · intro i j hi hj
          obtain ⟨h1, h2, h3, h4⟩ := hvs i hi
          simp at hj
          have := wk_rel hs d _ _ (h4 j hj (by omega))
          simpa [List.getD_eq_getElem?_getD, show j < (vs i).length by omega] using this
      · exact .junk _
    | agg cs vs hl ho hr => exact .agg _ vs (by simp [hl]) ho fun j h1 h2 => by simpa using wk_rel hs d _ _ (hr j (by simpa using h1) h2)
    | tup cs vs hl hr => exact .tup _ vs (by simp [hl]) fun j h1 h2 => by simpa using wk_rel hs d _ _ (hr j (by simpa using h1) h2)
    | fn f cs vs hl hr => exact .fn f _ vs (by simp [hl]) fun j h1 h2 => by simpa using wk_rel hs d _ _ (hr j (by simpa using h1) h2)
end
end Go.Proofs.YtfhdmhoeopbhnaaDoor.Am
namespace Go.Proofs.YtfhdmhoeopbhnaaDoor.Am
open Go.RowKit (Below)

/-! ### Slices of texts and of plain slices -/
def evO (s : List A) : Option Operand → Option A
  | none => none
  | some x => some (ev s x)
def bnd (x : Option A) (d y : Nat) (K : Nat → Prop) : Prop :=
  match x with
  | none => K d
  | some v => match v with
    | .int _ i => (0 ≤ i ∧ i ≤ (y : Int)) ∧ K i.toNat
    | _ => False
def sSlice (tt : TT) (t : TypeId) (x : A) (lo hi : Option A) (K : A → Prop) : Prop :=
  match tt.lookup t with
  | none => False
  | some ti => match ti.kind, x with
    | 4, .str s => bnd hi s.length s.length fun h => bnd lo 0 h fun l => K (.str ((s.take h).drop l))
    | 3, .sl n sz row => match Nat.beq sz ti.esz with
      | true => bnd hi n n fun h => bnd lo 0 h fun l => K (.sl (h - l) sz fun i => row (l + i))
      | false => False
    | 3, .nils => bnd hi 0 0 fun h => bnd lo 0 h fun _ => K .nils
    | _, _ => False

section
variable {c : Ctx} {s : List A} {m : List Blk} {a : Act} {w w' : World} {ids ids' : Ids} {P : Program} {im im' : Nat → Prop} {tt : TT}
variable {next : Act → World → Prop} {Q : Exit → Act → World → Prop} {o : Oper}

theorem bnd_run (hs : Sim c s m a w ids) {x : Option Operand} {d y y' : Nat} {K : Nat → Prop} (h : bnd (evO s x) d y K) (hy : y ≤ y') :
    ∃ n, K n ∧ (x = none → n = d) ∧ (x.isSome → n ≤ y) ∧ ∀ X, x = some X → ∃ k i, a.eval X = .int k i ∧ i.toNat = n ∧ 0 ≤ i ∧ i ≤ (y' : Int) := by
  cases x with
  | none => exact ⟨d, h, fun _ => rfl, fun h => by simp at h, fun _ h => by simp at h⟩
  | some X =>
    simp only [bnd, evO] at h
    split at h
    · rename_i v k i hv
      have hx := hs.ev X; rw [hv] at hx
      exact ⟨i.toNat, h.2, fun h => by simp at h, fun _ => by omega, fun X' hX' => by cases hX'; exact ⟨k, i, hx.int_inv, rfl, h.1.1, by omega⟩⟩
    · exact h.elim

theorem bounds_run {isS : Bool} {len cap : Nat} {lo hi : Option Operand} {h l : Nat} (hh : hi = none → h = len) (hl : lo = none → l = 0)
    (eh : ∀ X, hi = some X → ∃ k i, a.eval X = .int k i ∧ i.toNat = h ∧ 0 ≤ i ∧ i ≤ (cap : Int))
    (el : ∀ X, lo = some X → ∃ k i, a.eval X = .int k i ∧ i.toNat = l ∧ 0 ≤ i ∧ i ≤ (h : Int)) :
    (Instr.sliceBounds isS len cap (lo.map a.eval) (hi.map a.eval) none).run P w = .ok (l, h, cap) w := by
  cases hi with
  | none =>
    have := hh rfl; subst this
    cases lo with
    | none => have := hl rfl; subst this; simp [Instr.sliceBounds]
    | some L =>
      obtain ⟨k, i, e1, e2, e3, e4⟩ := el L rfl
      simp [Instr.sliceBounds, e1, run_sliceBound, e3, e4, e2]
  | some H =>
    obtain ⟨k, i, e1, e2, e3, e4⟩ := eh H rfl
    cases lo with
    | none => have := hl rfl; subst this; simp [Instr.sliceBounds, e1, run_sliceBound, e3, e4, e2]
    | some L =>
      obtain ⟨k', i', f1, f2, f3, f4⟩ := el L rfl
      simp [Instr.sliceBounds, e1, run_sliceBound, e3, e4, e2, f1, f3, f4, f2]

theorem sSlice_sound (htt : TTok P tt) (hs : Sim c s m a w ids) {t : TypeId} {X : Operand} {lo hi : Option Operand} (ho : o.op = .slice t X lo hi none) {K : KT}
    (h : sSlice tt t (ev s X) (evO s lo) (evO s hi) fun v => K v m) (hn : NextOk c s o K next) : o.wp P a w next Q := by
  have hx := hs.ev X
  have e : execOp a.eval o = (do let z ← Instr.sliceAt t (a.eval X) (lo.map a.eval) (hi.map a.eval) none; pure (.value z)) := by unfold execOp; rw [ho]; rfl
  unfold sSlice at h
  split at h
  · exact h.elim
  · rename_i ti hti
    obtain ⟨i, d, z, _, hd, _, _, _, _, _, _, _, _, _, hk3, hk5, hk4, _⟩ := htt.facts hti
    split at h
    · rename_i st hk hv; rw [hv] at hx
      rw [hk4 hk] at hd
      obtain ⟨hb, h, b1, b2, b3⟩ := bnd_run hs h (Nat.le_refl _)
      obtain ⟨lb, h, c1, c2, c3⟩ := bnd_run hs h (Nat.le_refl _)
      refine wp_val hs hn ⟨_, .string ⟨((st.take hb).drop lb).toArray⟩, ?_, h, .imm (.str _)⟩
      have hsz : (ByteArray.mk st.toArray).size = st.length := by simp [ByteArray.size]
      rw [e, hx.str_inv, Sem.run_bind, run_sliceAt_string _ _ _ _ _ _ hd]
      have := bounds_run (P := P) (w := w) (a := a) (isS := false) (len := st.length) (cap := st.length) b1 c1 b3 c3
      simp [Instr.slice, underlying, hd, hsz, this]
      apply ByteArray.ext
      have : lb ≤ hb := by
        cases lo with
        | none => have := c1 rfl; omega
        | some L => exact c2 rfl
      have : hb ≤ st.length := by
        cases hi with
        | none => have := b1 rfl; omega
        | some L => exact b2 rfl
      simp [ByteArray.data_extract]
      rw [List.drop_take]
    · rename_i n sz row hk hv; rw [hv] at hx
      obtain ⟨ie, ze, hd', hie, hsz, _, _, _, _⟩ := hk3 hk
      subst hd'
      split at h
      · rename_i hb
        have hb := Nat.eq_of_beq_eq_true hb
        have hun : P.underlying t = some (.slice (P.elem t)) := by
          have : P.elem t = ti.ety := by simp [Program.elem, hd]
          rw [this]; exact hd
        have hel : P.elem t = ti.ety := by simp [Program.elem, hd]
        cases hx with
        | imm hx =>
          have key : ∀ (ba : Option Addr) (cap : Nat), n ≤ cap → a.eval X = .slice ba n cap →
              (∀ (l h : Nat), l ≤ h → h ≤ n → RelI (imOf c ids w) w (.sl (h - l) sz fun i => row (l + i)) (.slice (if cap = l then ba else ba.map (·.add (l * sz))) (h - l) (cap - l))) → o.wp P a w next Q := by
            intro ba cap hcap hX hrel
            obtain ⟨hb', h, b1, b2, b3⟩ := bnd_run hs h hcap
            obtain ⟨lb, h, c1, c2, c3⟩ := bnd_run hs h (Nat.le_refl _)
            have q1 : lb ≤ hb' := by
              cases lo with
              | none => have := c1 rfl; omega
              | some L => exact c2 rfl
            have q2 : hb' ≤ n := by
              cases hi with
              | none => have := b1 rfl; omega
              | some L => exact b2 rfl
            refine wp_val hs hn ⟨_, _, ?_, h, .imm (hrel lb hb' q1 q2)⟩
            rw [e, hX, Sem.run_bind, run_sliceAt_slice _ _ _ _ _ _ hun, run_slice_any _ _ _ _ _ hun]
            have := bounds_run (P := P) (w := w) (a := a) (isS := true) (len := n) (cap := cap) b1 c1 b3 c3
            simp [this, hel, sizeOf, typeInfo, hie, hsz, sliced, hb]
          generalize hX : a.eval X = V at hx
          cases hx with
          | sl0 =>
            refine key none 0 (by omega) hX (fun l h h1 h2 => ?_)
            have : l = 0 := by omega
            subst this
            have : h = 0 := by omega
            subst this
            exact .sl0 _ _
          | sl _ _ _ blk base cap vs hb hcap hl hc hoo hr =>
            refine key _ cap hcap hX (fun l h h1 h2 => ?_)
            by_cases hcl : cap = l
            · have e1 : h - l = 0 := by omega
              rw [if_pos hcl, e1]
              exact .sl 0 sz _ blk base _ vs hb (by omega) (fun _ h => by omega) (fun _ _ h => by omega) (fun _ _ h => by omega) (fun _ _ h => by omega)
            · rw [if_neg hcl]
              show RelI _ _ _ (.slice (some (Addr.add ⟨blk, base, none⟩ (l * sz))) _ _)
              rw [show Addr.add ⟨blk, base, none⟩ (l * sz) = ⟨blk, base + l * sz, none⟩ from by simp [Addr.add]]
              refine .sl (h - l) sz (fun i => row (l + i)) blk (base + l * sz) (cap - l) (fun i j => vs (l + i) j) hb (by omega) (fun i hi => hl (l + i) (by omega)) (fun i j hi hj => ?_) (fun i j hi hj => hoo (l + i) j (by omega) hj) (fun i j hi hj => hr (l + i) j (by omega) hj)
              rw [← hc (l + i) j (by omega) hj, Nat.add_mul, Nat.add_assoc base]
      · exact h.elim
    · rename_i hk hv; rw [hv] at hx
      obtain ⟨ie, ze, hd', hie, hsz, _, _, _, _⟩ := hk3 hk
      subst hd'
      have hun : P.underlying t = some (.slice (P.elem t)) := by
        have : P.elem t = ti.ety := by simp [Program.elem, hd]
        rw [this]; exact hd
      have hel : P.elem t = ti.ety := by simp [Program.elem, hd]
      obtain ⟨hb', h, b1, b2, b3⟩ := bnd_run hs h (Nat.le_refl _)
      obtain ⟨lb, h, c1, c2, c3⟩ := bnd_run hs h (Nat.le_refl _)
      refine wp_val hs hn ⟨_, .slice none 0 0, ?_, h, .imm .nils⟩
      have q2 : hb' ≤ 0 := by
        cases hi with
        | none => have := b1 rfl; omega
        | some L => exact b2 rfl
      have q1 : lb ≤ hb' := by
        cases lo with
        | none => have := c1 rfl; omega
        | some L => exact c2 rfl
      have : hb' = 0 := by omega
      subst this
      have : lb = 0 := by omega
      subst this
      rw [e, hx.nils_inv, Sem.run_bind, run_sliceAt_slice _ _ _ _ _ _ hun, run_slice_any _ _ _ _ _ hun]
      have := bounds_run (P := P) (w := w) (a := a) (isS := true) (len := 0) (cap := 0) b1 c1 b3 c3
      simp [this, hel, sizeOf, typeInfo, hie, hsz, sliced]
    · exact h.elim
end
end Go.Proofs.YtfhdmhoeopbhnaaDoor.Am
namespace Go.Proofs.YtfhdmhoeopbhnaaDoor.Am
open Go.RowKit (Below)

structure GInv where
  G : World → Prop
  st : ∀ w w', G w → Below w.heap.size w w' → G w'

def ACalls (P : Program) (G : GInv) (f : FuncId) (args : List A) (r : A) : Prop :=
  (∃ fn cd, P.funcs[f]? = some fn ∧ fn.body = some cd ∧ (fn.name == "runtime.NumGoroutine") = false) ∧
  ∀ (im : Nat → Prop) (w : World) (vs : List Value), (∀ b, im b → b < w.heap.size) → G.G w → vs.length = args.length →
    (∀ j (h : j < args.length) (h' : j < vs.length), RelI im w args[j] vs[j]) →
    Calls P f vs.toArray w fun e w' => ∃ v, e = .returned v ∧ RelI (fun b => im b ∨ (w.heap.size ≤ b ∧ b < w'.heap.size)) w' r v ∧ Below w.heap.size w w'

def sCall (P : Program) (G : GInv) (f : A) (args : List A) (m : List Blk) (K : KT) : Prop :=
  match f with
  | .fn g cap => fd.fdl 4 (args ++ cap) fun as => match as.any (hasOwn 4) with
    | false => ∃ r, ACalls P G g as r ∧ fd 3 r fun r' => K r' m
    | true => fd.fdl 4 (as.map (wk m 5)) fun as' => ∃ r, ACalls P G g as' r ∧ plain 4 r = true ∧ fd 3 r fun r' => K r' m
  | _ => False

section
variable {c : Ctx} {s : List A} {m : List Blk} {a : Act} {w w' : World} {ids ids' : Ids} {P : Program} {im im' : Nat → Prop} {tt : TT} {G : GInv}
variable {next : Act → World → Prop} {Q : Exit → Act → World → Prop} {o : Oper}

theorem Calls_mono {f : FuncId} {args : Array Value} {R R' : Ending → World → Prop} (h : Calls P f args w R) (hr : ∀ e w', R e w' → R' e w') : Calls P f args w R' := by
  intro cs
  obtain ⟨e, w', fr, h1, h2⟩ := h cs
  exact ⟨e, w', fr, hr _ _ h1, h2⟩

theorem sCall_sound (hs : Sim c s m a w ids) (hG : G.G c.w0) {F : Operand} {xs : Array Operand} {ts : Array TypeId} (ho : o.op = .call { callee := .value F, args := xs, argTypes := ts }) {K : KT}
    (h : sCall P G (ev s F) (xs.toList.map (ev s)) m K) (hn : NextOk c s o K next) : o.wp P a w next Q := by
  have hf := hs.ev F
  have hGw : G.G w := G.st _ _ hG hs.frame
  unfold sCall at h
  split at h
  · rename_i g cap hv; rw [hv] at hf
    obtain ⟨us, hu1, hu2, hu3⟩ := hf.fn_inv
    rw [fdl_eq] at h
    have hrel : ∀ j (h : j < (xs.toList.map (ev s) ++ cap).length) (h' : j < (xs.toList.map a.eval ++ us).length), Rel ids (imOf c ids w) w (xs.toList.map (ev s) ++ cap)[j] (xs.toList.map a.eval ++ us)[j] := by
      intro j h h'
      by_cases hj : j < xs.toList.length
      · rw [List.getElem_append_left (by simpa using hj), List.getElem_append_left (by simpa using hj)]
        exact evL_rel hs xs.toList j (by simpa using hj) (by simpa using hj)
      · rw [List.getElem_append_right (by simpa using hj), List.getElem_append_right (by simpa using hj)]
        simp at h h' hj
        have := hu3 (j - xs.size) (by omega) (by omega)
        simpa using this
    have hlen : (xs.toList.map a.eval ++ us).length = (xs.toList.map (ev s) ++ cap).length := by simp [hu2]
    have run : ∀ fn cd, P.funcs[g]? = some fn → fn.body = some cd → (fn.name == "runtime.NumGoroutine") = false → (execOp a.eval o).run P w = .ok (.enter g (xs.toList.map a.eval ++ us).toArray) w := by
      intro fn cd h1 h2 h3
      have e : execOp a.eval o = (do let d ← resolve a.eval { callee := .value F, args := xs, argTypes := ts } o.type; invoke d.target d.args) := by unfold execOp; rw [ho]
      have e2 : (xs.map a.eval ++ us.toArray) = (xs.toList.map a.eval ++ us).toArray := by apply Array.ext'; simp
      have h4 : ¬ fn.name = "runtime.NumGoroutine" := by simpa using h3
      rw [e]
      simp [resolve, hu1, Deferred.ofValue, invoke, callFunc, h1, h2, h4, e2]
    split at h
    · rename_i hown
      obtain ⟨r, hc, hk⟩ := h
      rw [fd_eq] at hk
      obtain ⟨⟨fn, cd, h1, h2, h3⟩, hc⟩ := hc
      unfold Oper.wp
      rw [run fn cd h1 h2 h3]
      show Calls P g _ w _
      refine Calls_mono (hc (imOf c ids w) w (xs.toList.map a.eval ++ us) (fun b hb => imOf_lt hs hb) hGw hlen (fun j h h' => hasOwn_rel 4 _ _ ?_ (hrel j h h'))) ?_
      · have := List.any_eq_false.1 hown _ (List.getElem_mem h)
        simpa using this
      · rintro e w' ⟨v, rfl, hr, hb⟩
        refine hn r m _ _ ids hk ((hs.same hb).putD o.dst (.imm (hr.mono ?_ (fun _ _ => rfl))))
        rintro b (hb' | ⟨hb1, hb2⟩)
        · rcases hb' with h | ⟨q1, q2, q3⟩
          · exact .inl h
          · exact .inr ⟨q1, Nat.lt_of_lt_of_le q2 hb.size, q3⟩
        · refine .inr ⟨Nat.le_trans hs.frame.size hb1, hb2, fun p hp => ?_⟩
          have := (hs.fresh p hp).2; omega
    · rw [fdl_eq] at h
      obtain ⟨r, hc, hpl, hk⟩ := h
      rw [fd_eq] at hk
      obtain ⟨⟨fn, cd, h1, h2, h3⟩, hc⟩ := hc
      unfold Oper.wp
      rw [run fn cd h1 h2 h3]
      show Calls P g _ w _
      refine Calls_mono (hc (imAll c ids w) w (xs.toList.map a.eval ++ us) ?_ hGw (by simp [hu2]) (fun j h h' => ?_)) ?_
      · rintro b (hb | ⟨p, hp, rfl⟩)
        · exact imOf_lt hs hb
        · exact (hs.fresh p hp).2
      · have := wk_rel hs 5 _ _ (hrel j (by simpa using h) h')
        rw [List.getElem_map]; exact this
      · rintro e w' ⟨v, rfl, hr, hb⟩
        exact hn r m _ _ ids hk ((hs.same hb).putD o.dst (.imm (plain_rel 4 _ _ hpl hr)))
  · exact h.elim

/-! ### One operation, a region's operations -/
def isNumOp : BinOp → Bool := fun _ => true

def step (P : Program) (G : GInv) (tt : TT) (o : Oper) (s : List A) (m : List Blk) (K : KT) : Prop :=
  match o.op with
  | .move x => fv (ev s x) fun v => K v m
  | .assign x => fv (ev s x) fun v => K v m
  | .pick x y z => sPick (ev s x) (ev s y) (ev s z) fun v => K v m
  | .alloc t => sAlloc tt t m K
  | .box t x => sBox t (ev s x) m K
  | .build t ps => sBuild tt t (ps.toList.map fun p => (p.1, ev s p.2)) m K
  | .load t x => sLoad tt t (ev s x) m K
  | .store t x y => sStore tt t (ev s x) (ev s y) m K
  | .nilCheck x => sNil (ev s x) fun v => K v m
  | .binOp op t x y _ => sBin tt t op (ev s x) (ev s y) fun v => K v m
  | .unOp op _ x => sUn op (ev s x) fun v => K v m
  | .convert src dst x => sConv tt src dst (ev s x) fun v => K v m
  | .makeFunc (.func f) first cap => match first.toList with
    | [] => K (.fn f (cap.toList.map (ev s))) m
    | _ => False
  | .fieldAddr t x f => sFieldAddr tt t (ev s x) f m K
  | .indexAddr t x i => sIndexAddr tt t (ev s x) (ev s i) m K
  | .index t x i => sIndex tt t (ev s x) (ev s i) fun v => K v m
  | .extract x ix => sExtract (ev s x) ix fun v => K v m
  | .slice t x lo hi mx => match mx with
    | none => sSlice tt t (ev s x) (evO s lo) (evO s hi) fun v => K v m
    | some _ => False
  | .call { callee := .builtin .len, args, argTypes } => match args.toList, argTypes.toList with
    | [x], [t] => sLen tt t (ev s x) m fun v => K v m
    | _, _ => False
  | .call { callee := .builtin .min, args, .. } => match args.toList with
    | x :: xs => mnL (ev s x) (xs.map (ev s)) fun v => K v m
    | _ => False
  | .call { callee := .builtin .max, args, .. } => match args.toList with
    | x :: xs => mxL (ev s x) (xs.map (ev s)) fun v => K v m
    | _ => False
  | .call { callee := .value f, args, .. } => sCall P G (ev s f) (args.toList.map (ev s)) m K
  | _ => False

theorem toList_one {α : Type} {xs : Array α} {x : α} (h : xs.toList = [x]) : xs = #[x] := by apply Array.ext'; simpa using h

theorem step_sound (htt : TTok P tt) (hG : G.G c.w0) (hs : Sim c s m a w ids) {K : KT} (h : step P G tt o s m K) (hn : NextOk c s o K next) : o.wp P a w next Q := by
  unfold step at h
  split at h
  · rename_i x ho; rw [fv_eq] at h; exact sMove_sound hs (.inl ho) h hn
  · rename_i x ho; rw [fv_eq] at h; exact sMove_sound hs (.inr ho) h hn
  · rename_i ho; exact sPick_sound hs ho h hn
  · rename_i ho; exact sAlloc_sound htt hs ho h hn
  · rename_i ho; exact sBox_sound hs ho h hn
  · rename_i ho; exact sBuild_sound htt hs ho h hn
  · rename_i ho; exact sLoad_sound htt hs ho h hn
  · rename_i ho; exact sStore_sound htt hs ho h hn
  · rename_i ho; exact sNil_sound hs ho h hn
  · rename_i ho; exact wp_val hs hn (run_bin htt ho (hs.ev _) (hs.ev _) h)
  · rename_i ho; exact wp_val hs hn (run_un ho (hs.ev _) h)
  · rename_i ho; exact sConv_sound htt hs ho h hn
  · rename_i f first cap ho
    split at h
    · rename_i hf
      have : first = #[] := by apply Array.ext'; simpa using hf
      subst this
      exact sMakeFunc_sound hs ho h hn
    · exact h.elim
  · rename_i ho; exact sFieldAddr_sound htt hs ho h hn
  · rename_i ho; exact sIndexAddr_sound htt hs ho h hn
  · rename_i ho; exact sIndex_sound htt hs ho h hn
  · rename_i ho; exact sExtract_sound hs ho h hn
  · rename_i ho
    split at h
    · exact sSlice_sound htt hs ho h hn
    · exact h.elim
  · rename_i args ts ho
    split at h
    · rename_i x t hx ht
      rw [toList_one hx, toList_one ht] at ho
      exact sLen_sound htt hs ho h hn
    · exact h.elim
  · rename_i args ts ho
    split at h
    · rename_i x xs hx
      have e : (execOp a.eval o) = (do pure (.value (← Builtin.min_ ts o.type (args.map a.eval)))) := by
        obtain ⟨dst, op, ty, pos, after, guard⟩ := o
        simp only at ho; subst ho
        rw [BigFrame.execOp_builtin, BigFrame.builtin_min]
      obtain ⟨r, v, h1, h2, h3⟩ := mnL_sound (P := P) (xs.map (ev s)) (xs.map a.eval) (ev s x) (a.eval x) _ (hs.ev x) (by simp) (evL_rel hs xs) h
      refine wp_val hs hn ⟨r, v, ?_, h2, h3⟩
      rw [e]; simp [Builtin.min_] at h1 ⊢; simp [hx, h1]
    · exact h.elim
  · rename_i args ts ho
    split at h
    · rename_i x xs hx
      have e : (execOp a.eval o) = (do pure (.value (← Builtin.max_ ts o.type (args.map a.eval)))) := by
        obtain ⟨dst, op, ty, pos, after, guard⟩ := o
        simp only at ho; subst ho
        rw [BigFrame.execOp_builtin, BigFrame.builtin_max]
      obtain ⟨r, v, h1, h2, h3⟩ := mxL_sound (P := P) (xs.map (ev s)) (xs.map a.eval) (ev s x) (a.eval x) _ (hs.ev x) (by simp) (evL_rel hs xs) h
      refine wp_val hs hn ⟨r, v, ?_, h2, h3⟩
      rw [e]; simp [Builtin.max_] at h1 ⊢; simp [hx, h1]
    · exact h.elim
  · rename_i ho; exact sCall_sound hs hG ho h hn
  · exact h.elim
end
end Go.Proofs.YtfhdmhoeopbhnaaDoor.Am
namespace Go.Proofs.YtfhdmhoeopbhnaaDoor.Am
open Go.RowKit (Below)

def putF (s : List A) (d : Option Nat) (v : A) (K : List A → Prop) : Prop :=
  match d with
  | some d => setF s d v K
  | none => K s
theorem putF_eq (s : List A) (d : Option Nat) (v : A) (K : List A → Prop) : putF s d v K = K (putD s d v) := by
  cases d with
  | none => rfl
  | some d => exact setF_eq _ _ _ _
def gslot (ops : List Oper) (j : Nat) : Option Nat := (ops[j]?).bind (·.dst)
def guard1 (g : Option Nat) (want : Bool) (s : List A) (X Y : List A → Prop) : Prop :=
  match g with
  | none => False
  | some d => match s.getD d .junk with
    | .bool b => match b, want with
      | true, true => X s
      | false, false => X s
      | true, false => Y s
      | false, true => Y s
    | .sb b => match want with
      | true => (b = true → setF s d (.bool true) X) ∧ (b = false → setF s d (.bool false) Y)
      | false => (b = false → setF s d (.bool false) X) ∧ (b = true → setF s d (.bool true) Y)
    | .tup vs => match vs with
      | [] => Y s
      | _ => False
    | _ => False
def runL (P : Program) (G : GInv) (tt : TT) (ops : List Oper) : List Oper → List A → List Blk → (List A → List Blk → Prop) → Prop
  | [], s, m, K => K s m
  | o :: rest, s, m, K => match o.guard with
    | none => step P G tt o s m fun v m' => putF s o.dst v fun s' => runL P G tt ops rest s' m' K
    | some (j, want) => guard1 (gslot ops j) want s
        (fun s => step P G tt o s m fun v m' => putF s o.dst v fun s' => runL P G tt ops rest s' m' K)
        (fun s => putF s o.dst (.tup []) fun s' => runL P G tt ops rest s' m K)

section
variable {c : Ctx} {s : List A} {m : List Blk} {a : Act} {w w' : World} {ids ids' : Ids} {P : Program} {im im' : Nat → Prop} {tt : TT} {G : GInv}
variable {next : Act → World → Prop} {Q : Exit → Act → World → Prop} {o : Oper}

theorem Sim.reslot (hs : Sim c s m a w ids) (d : Nat) {x : A} (hv : Rel ids (imOf c ids w) w x (a.tmps.getD d undef)) : Sim c (s.set d x) m a w ids where
  defers := hs.defers
  len := by simp [hs.len]
  slots := by
    intro i h h'
    simp only [List.length_set] at h
    rw [List.getElem_set]
    split
    · rename_i he; subst he; simpa [Array.getD_eq_getD_getElem?, h'] using hv
    · exact hs.slots i h h'
  mlen := hs.mlen
  blks := hs.blks
  distinct := hs.distinct
  fresh := hs.fresh
  frame := hs.frame
  im0lt := hs.im0lt

theorem yielded_eq {ops : List Oper} {j d : Nat} {b : Bool} (hg : gslot ops j = some d) (hv : a.tmps.getD d undef = .bool b) : yielded ops.toArray a.tmps j = some b := by
  unfold yielded
  have h1 : (ops.toArray[j]?).bind (·.dst) = some d := by simpa [gslot] using hg
  rw [h1]
  have h2 : a.tmps[d]? = some (.bool b) := by
    rcases Nat.lt_or_ge d a.tmps.size with h | h
    · simpa [Array.getD_eq_getD_getElem?, h] using hv
    · simp [Array.getD_eq_getD_getElem?, h, undef] at hv
  simp [h2]

theorem runL_sound (htt : TTok P tt) {ops : List Oper} {QA : List A → List Blk → Prop} (hG : G.G c.w0) (hQ : ∀ s m a w ids, QA s m → Sim c s m a w ids → Q .normal a w) :
    ∀ (rest : List Oper) (s : List A) (m : List Blk) (a : Act) (w : World) (ids : Ids), Sim c s m a w ids → runL P G tt ops rest s m QA → wpList P ops.toArray Q rest a w
  | [], s, m, a, w, ids, hs, h => hQ s m a w ids h hs
  | o :: rest, s, m, a, w, ids, hs, h => by
    have exec : ∀ s, Sim c s m a w ids → (step P G tt o s m fun v m' => putF s o.dst v fun s' => runL P G tt ops rest s' m' QA) → ∀ K : Act → World → Prop, (∀ a w, wpList P ops.toArray Q rest a w → K a w) → o.wp P a w K Q := by
      intro s hs h K hK
      refine step_sound htt hG hs h ?_
      intro v m' a' w' ids' hk hs'
      rw [putF_eq] at hk
      exact hK _ _ (runL_sound htt hG hQ rest _ _ _ _ _ hs' hk)
    have skip : ∀ s, Sim c s m a w ids → (putF s o.dst (.tup []) fun s' => runL P G tt ops rest s' m QA) → ∀ K : Act → World → Prop, (∀ a w, wpList P ops.toArray Q rest a w → K a w) → K (a.put o.dst undef) w := by
      intro s hs h K hK
      rw [putF_eq] at h
      exact hK _ _ (runL_sound htt hG hQ rest _ _ _ _ _ (hs.putD o.dst (.imm (.tup [] [] rfl (fun _ h => by simp at h)))) h)
    unfold runL at h
    refine wpList_step fun K hK => ?_
    split at h
    · rename_i hg
      have : Region.wanted o (yielded ops.toArray a.tmps) = true := by unfold Region.wanted; rw [hg]
      rw [if_pos this]
      exact exec s hs h K hK
    · rename_i j want hg
      have hw : Region.wanted o (yielded ops.toArray a.tmps) = (yielded ops.toArray a.tmps j == some want) := by unfold Region.wanted; rw [hg]
      rw [hw]
      unfold guard1 at h
      split at h
      · exact h.elim
      · rename_i d hd
        have hev := hs.ev (.tmp d)
        simp only [ev, Act.eval] at hev
        split at h
        · rename_i b hb; rw [hb] at hev
          rw [yielded_eq hd hev.bool_inv]
          split at h
          · exact exec s hs h K hK
          · exact exec s hs h K hK
          · exact skip s hs h K hK
          · exact skip s hs h K hK
        · rename_i b hb; rw [hb] at hev
          have hbv := hev.sb_inv
          rw [yielded_eq hd hbv]
          have hsim : ∀ b', b = b' → Sim c (s.set d (.bool b')) m a w ids := by
            intro b' e; subst e; exact hs.reslot d (by rw [hbv]; exact .imm (.bool _))
          rw [setF_eq, setF_eq, setF_eq, setF_eq] at h
          split at h
          · cases b
            · exact skip _ (hsim false rfl) (h.2 rfl) K hK
            · exact exec _ (hsim true rfl) (h.1 rfl) K hK
          · cases b
            · exact exec _ (hsim false rfl) (h.1 rfl) K hK
            · exact skip _ (hsim true rfl) (h.2 rfl) K hK
        · rename_i vs hb; rw [hb] at hev
          split at h
          · obtain ⟨us, hu, hu2, _⟩ := hev.tup_inv
            have hu3 : us = [] := by simpa using hu2
            subst hu3
            have hy : yielded ops.toArray a.tmps j = none := by
              unfold yielded
              have h1 : (ops.toArray[j]?).bind (·.dst) = some d := by simpa [gslot] using hd
              rw [h1]
              rcases Nat.lt_or_ge d a.tmps.size with h | h
              · have h2 : a.tmps[d]? = some (.tuple #[]) := by simpa [Array.getD_eq_getD_getElem?, h] using hu
                simp [h2]
              · simp [h]
            rw [hy]
            exact skip s hs h K hK
          · exact h.elim
        · exact h.elim
end

/-! ### Code -/
theorem wp_loop_ghost {P : Program} {Q : Exit → Act → World → Prop} {a : Act} {w : World} {c : Code} (I : Nat → Act → World → Prop) (n₀ : Nat) (h₀ : I n₀ a w)
    (round : ∀ n a w, I n a w → c.wp P (Exit.then (fun a' w' => ∃ n', n' < n ∧ I n' a' w') Q) a w) : (Code.loop c).wp P Q a w := by
  intro b k cs
  have key : ∀ n a w, I n a w →
      ∃ e a' w', Q e a' w' ∧ Arrives P (lone (b.at a (.code c :: .inLoop c :: k)) cs w) b k cs e a' w' := by
    intro n
    induction n using Nat.strongRecOn with
    | _ n ih =>
      intro a w hI
      obtain ⟨e, a₁, w₁, hq, harr⟩ := round n a w hI b (.inLoop c :: k) cs
      cases e with
      | normal =>
        obtain ⟨n', hlt, hI₁⟩ := hq
        obtain ⟨e₂, a₂, w₂, hq₂, harr₂⟩ := ih n' hlt a₁ w₁ hI₁
        exact ⟨e₂, a₂, w₂, hq₂, .of_steps (Steps.trans harr (.one step_inLoop)) harr₂⟩
      | exit id => exact ⟨_, a₁, w₁, hq, .pass (x := .inLoop c) rfl (fun _ _ => .inl (by simp)) harr⟩
      | goto l => exact ⟨_, a₁, w₁, hq, .pass (x := .inLoop c) rfl (fun _ _ => .inl (by simp)) harr⟩
      | ret => exact ⟨_, a₁, w₁, hq, .pass (x := .inLoop c) rfl (fun _ _ => .inl (by simp)) harr⟩
      | panic ch => exact ⟨_, a₁, w₁, hq, .pass (x := .inLoop c) rfl (fun _ _ => .inl (by simp)) harr⟩
      | outgrown => exact ⟨_, a₁, w₁, hq, .pass (x := .inLoop c) rfl (fun _ _ => .inl (by simp)) harr⟩
  obtain ⟨e, a', w', hq, harr⟩ := key _ a w h₀
  exact ⟨e, a', w', hq, .of_steps (.one step_loop) harr⟩

def post (c : Ctx) (Q : Exit → List A → List Blk → Prop) : Exit → Act → World → Prop := fun e a w => ∃ s m ids, Q e s m ∧ Sim c s m a w ids

@[irreducible] def WA (P : Program) (G : GInv) (cd : Code) (Q : Exit → List A → List Blk → Prop) (s : List A) (m : List Blk) : Prop :=
  ∀ c a w ids, G.G c.w0 → Sim c s m a w ids → cd.wp P (post c Q) a w

def thenA (next : List A → List Blk → Prop) (Q : Exit → List A → List Blk → Prop) : Exit → List A → List Blk → Prop
  | .normal, s, m => next s m
  | e, s, m => Q e s m
def blockA (id : Nat) (Q : Exit → List A → List Blk → Prop) : Exit → List A → List Blk → Prop
  | .exit id', s, m => match Nat.beq id' id with
    | true => Q .normal s m
    | false => Q (.exit id') s m
  | e, s, m => Q e s m
def condA (v : A) (X Y : Prop) : Prop :=
  match v with
  | .bool true => X
  | .bool false => Y
  | .sb b => (b = true → X) ∧ (b = false → Y)
  | _ => False

section
variable {P : Program} {G : GInv} {tt : TT} {Q : Exit → List A → List Blk → Prop} {s : List A} {m : List Blk}

theorem WA_seq {x y : Code} (h : WA P G x (thenA (WA P G y Q) Q) s m) : WA P G (.seq x y) Q s m := by
  unfold WA at h ⊢
  intro c a w ids hG hs
  refine wp_seq (wp_mono (h c a w ids hG hs) ?_)
  rintro e a' w' ⟨s', m', ids', hq, hs'⟩
  cases e with
  | normal =>
    exact hq c a' w' ids' hG hs'
  | _ => exact ⟨s', m', ids', hq, hs'⟩
theorem WA_skip (h : Q .normal s m) : WA P G .skip Q s m := by
  unfold WA; intro c a w ids hG hs; exact wp_skip ⟨s, m, ids, h, hs⟩
theorem WA_ret (h : Q .ret s m) : WA P G .ret Q s m := by
  unfold WA; intro c a w ids hG hs; exact wp_ret ⟨s, m, ids, h, hs⟩
theorem WA_exit {id : Nat} (h : Q (.exit id) s m) : WA P G (.exit id) Q s m := by
  unfold WA; intro c a w ids hG hs; exact wp_exit ⟨s, m, ids, h, hs⟩
theorem WA_block {id : Nat} {x : Code} (h : WA P G x (blockA id Q) s m) : WA P G (.block id x) Q s m := by
  unfold WA at h ⊢
  intro c a w ids hG hs
  refine wp_block (wp_mono (h c a w ids hG hs) ?_)
  rintro e a' w' ⟨s', m', ids', hq, hs'⟩
  cases e with
  | exit id' =>
    simp only [blockA] at hq
    simp only [Exit.inBlock]
    split at hq
    · rename_i he; rw [if_pos (Nat.eq_of_beq_eq_true he)]; exact ⟨s', m', ids', hq, hs'⟩
    · rename_i he
      rw [if_neg (fun e => by subst e; rw [Nat.beq_refl] at he; cases he)]; exact ⟨s', m', ids', hq, hs'⟩
  | _ => exact ⟨s', m', ids', hq, hs'⟩
theorem WA_cond {t : Operand} {x y : Code} (h : condA (ev s t) (WA P G x Q s m) (WA P G y Q s m)) : WA P G (.cond t x y) Q s m := by
  unfold condA at h
  unfold WA
  intro c a w ids hG hs
  have hev := hs.ev t
  split at h
  · rename_i hv; rw [hv] at hev; unfold WA at h; exact wp_cond_true hev.bool_inv (h c a w ids hG hs)
  · rename_i hv; rw [hv] at hev; unfold WA at h; exact wp_cond_false hev.bool_inv (h c a w ids hG hs)
  · rename_i b hv; rw [hv] at hev
    cases b
    · have := h.2 rfl; unfold WA at this; exact wp_cond_false hev.sb_inv (this c a w ids hG hs)
    · have := h.1 rfl; unfold WA at this; exact wp_cond_true hev.sb_inv (this c a w ids hG hs)
  · exact h.elim
theorem WA_region (htt : TTok P tt) {id : Nat} {l : List Oper} (h : runL P G tt l l s m (Q .normal)) : WA P G (.region id l.toArray false) Q s m := by
  unfold WA
  intro c a w ids hG hs
  exact wp_region_lit (runL_sound htt hG (fun s m a w ids hq hs => ⟨s, m, ids, hq, hs⟩) l s m a w ids hs h)

/-- A state that says less. -/
def WkS (s : List A) (m : List Blk) (s' : List A) (m' : List Blk) : Prop := ∀ c a w ids, Sim c s m a w ids → ∃ ids', Sim c s' m' a w ids'

theorem WA_weaken {cd : Code} {s' : List A} {m' : List Blk} (hw : WkS s m s' m') (h : WA P G cd Q s' m') : WA P G cd Q s m := by
  unfold WA at h ⊢
  intro c a w ids hG hs
  obtain ⟨ids', hs'⟩ := hw c a w ids hs
  exact h c a w ids' hG hs'
theorem WA_mono {cd : Code} {Q' : Exit → List A → List Blk → Prop} (h : WA P G cd Q s m) (hq : ∀ e s m, Q e s m → Q' e s m) : WA P G cd Q' s m := by
  unfold WA at h ⊢
  intro c a w ids hG hs
  refine wp_mono (h c a w ids hG hs) ?_
  rintro e a' w' ⟨s', m', ids', hq', hs'⟩
  exact ⟨s', m', ids', hq _ _ _ hq', hs'⟩

def roundA {ι : Type} (S : ι → List A) (M : ι → List Blk) (μ : ι → Nat) (i : ι) (Q : Exit → List A → List Blk → Prop) : Exit → List A → List Blk → Prop
  | .normal, s, m => ∃ j, μ j < μ i ∧ WkS s m (S j) (M j)
  | e, s, m => Q e s m
theorem WA_loop {ι : Type} {body : Code} (S : ι → List A) (M : ι → List Blk) (μ : ι → Nat) (i0 : ι) (h0 : WkS s m (S i0) (M i0))
    (hr : ∀ i, WA P G body (roundA S M μ i Q) (S i) (M i)) : WA P G (.loop body) Q s m := by
  refine WA_weaken h0 ?_
  unfold WA
  intro c a w ids hG hs
  refine wp_loop_ghost (fun n a w => ∃ i ids, μ i = n ∧ Sim c (S i) (M i) a w ids) (μ i0) ⟨i0, ids, rfl, hs⟩ ?_
  rintro n a w ⟨i, ids, rfl, hs⟩
  have := hr i
  unfold WA at this
  refine wp_mono (this c a w ids hG hs) ?_
  rintro e a' w' ⟨s', m', ids', hq, hs'⟩
  cases e with
  | normal =>
    obtain ⟨j, hlt, hw⟩ := hq
    obtain ⟨ids'', hs''⟩ := hw c a' w' ids' hs'
    exact ⟨μ j, hlt, j, ids'', rfl, hs''⟩
  | _ => exact ⟨s', m', ids', hq, hs'⟩
end
end Go.Proofs.YtfhdmhoeopbhnaaDoor.Am

/-
  THE ENGINE, part 2: an abstract machine of symbolic values, each step proved sound.
-/
import Derived.Test.YtfhdmhoeopbhnaaAm1
import Derived.Laws.Slices
import Derived.Laws.AppendOwn
import Derived.Laws.OwnMore
import Derived.Laws.MakeOwn
set_option linter.unusedSimpArgs false
set_option linter.unusedSectionVars false
set_option linter.unusedVariables false
namespace Go.Proofs.Ytfhdmhoeopbhnaa.Am
variable [Inhabited DRT]
open Go.RowKit (Below)
section
variable {c : Ctx} {s : List A} {m : List Blk} {a : Act} {w w' : World} {ids ids' : Ids} {P : Program} {im im' : Nat → Prop} {tt : TT}
variable {next : Act → World → Prop} {Q : Exit → Act → World → Prop} {o : Oper}

theorem sIndex_sound (htt : TTok P tt) (hs : Sim c s m a w ids) {t : TypeId} {X Y : Operand} (ho : o.op = .index t X Y) {K : KT}
  (h : sIndex tt t (ev s X) (ev s Y) fun v => K v m) (hn : NextOk c s o K next) : o.wp P a w next Q := by
 have hx := hs.ev X
 have hy := hs.ev Y
 have e : execOp a.eval o = (do let z ← Instr.index t (a.eval X) (a.eval Y); pure (.value z)) := by unfold execOp; rw [ho]
 unfold sIndex at h
 split at h
 ·rename_i ti k ix ht hv; rw [hv] at hy
  obtain ⟨i, d, z, hi, hd, hz, hsz, hone, hzs, hzero, _, hk1, hk1', hk2, hk3, hk5, hk4, _⟩ := htt.facts ht
  split at h
  ·rename_i st hk hvx; rw [hvx] at hx
   have hdd := hk4 hk
   subst hdd
   obtain ⟨⟨h0, h1⟩, h⟩ := h
   have hlt : ix.toNat < st.length := by omega
   refine wp_val hs hn ⟨_, _, ?_, h, .imm (.int _ _)⟩
   rw [e, hx.str_inv, hy.int_inv]
   have hg : (ByteArray.mk st.toArray)[ix.toNat]? = some (st[ix.toNat]) := by
    have : ix.toNat < (ByteArray.mk st.toArray).size := hlt
    exact (getElem?_pos (ByteArray.mk st.toArray) ix.toNat this)
   simp [Instr.index, asIntOf, underlying, hd, h0, hg, List.getD_eq_getElem?_getD, hlt]
  ·rename_i cs hk hvx; rw [hvx] at hx
   obtain ⟨ie, hde, hie, hesz⟩ := hk2 hk
   subst hde
   split at h
   ·rename_i te hte
    obtain ⟨⟨h0, h1⟩, h⟩ := h
    obtain ⟨i', d', z', hi', hd', _, hsz', _, _, _, hag', _⟩ := htt.facts hte
    have hie' : ie = i' := by rw [hie] at hi'; exact Option.some.inj hi'
    obtain ⟨vs, hv1, hv2, hv3, hv4⟩ := hx.agg_inv
    have run : ∀ v, (part ti.ety vs.toArray (ix.toNat * ti.esz)).run P w = .ok v w → (execOp a.eval o).run P w = .ok (.value v) w := by
     intro v hp
     rw [e, hv1, hy.int_inv]
     simp [Instr.index, asIntOf, underlying, hd, h0, h1, sizeOf, typeInfo, hie, hesz, hp]
    unfold ldA at h
    split at h
    ·rename_i hb
     split at h
     ·rename_i hle
      have hle := Nat.le_of_ble_eq_true hle
      rw [fl_eq, takeL_eq] at h
      have hlv : ((vs.drop (ix.toNat * ti.esz)).take te.size).length = te.size := by simp; omega
      refine wp_val hs hn ⟨_, .agg ((vs.drop (ix.toNat * ti.esz)).take te.size).toArray, run _ ?_, h, .agg _ _ (by rw [hlv]; simp; omega) ?_ ?_⟩
      ·unfold part isAgg
       rw [hag'] at hb
       cases d' <;> simp [isRowD] at hb <;> simp [underlying, hd', sizeOf, typeInfo, hi', hsz']
      ·intro v hv; exact hv3 v (List.mem_of_mem_drop (List.mem_of_mem_take hv))
      ·intro j h1 h2
       simp at h1 h2
       have := hv4 (ix.toNat * ti.esz + j) (by omega) (by omega)
       simpa using this
     ·exact h.elim
    ·rename_i hb
     split at h
     ·rename_i hlt
      have hlt : ix.toNat * ti.esz < cs.length := Nat.le_of_ble_eq_true hlt
      rw [fv_eq] at h
      refine wp_val hs hn ⟨_, vs[ix.toNat * ti.esz]'(by omega), run _ ?_, h, ?_⟩
      ·unfold part isAgg
       rw [hag'] at hb
       cases d' <;> simp [isRowD] at hb <;> simp [underlying, hd', List.getElem?_eq_getElem (show ix.toNat * ti.esz < vs.length by omega)]
      ·simpa [List.getD_eq_getElem?_getD, hlt] using hv4 _ hlt (by omega)
     ·exact h.elim
   ·exact h.elim
  ·exact h.elim
 ·exact h.elim

theorem sField_sound (htt : TTok P tt) (hs : Sim c s m a w ids) {t : TypeId} {X : Operand} {f : Nat} (ho : o.op = .field t X f) {K : KT}
  (h : sField tt t (ev s X) f fun v => K v m) (hn : NextOk c s o K next) : o.wp P a w next Q := by
 have hx := hs.ev X
 have e : execOp a.eval o = (do let z ← Instr.field t (a.eval X) f; pure (.value z)) := by unfold execOp; rw [ho]
 unfold sField at h
 split at h
 ·exact h.elim
 ·rename_i ti ht
  split at h
  ·rename_i fo fsz ft cs hk hfo hft hvx
   rw [hvx] at hx
   obtain ⟨fs, hd, hf1, hf2⟩ := htt.ftys ht hk
   rw [hf1] at hft
   rw [hf2] at hfo
   simp only [List.getElem?_map, Option.map_eq_some_iff] at hft hfo
   obtain ⟨fl1, hg1, rfl⟩ := hft
   obtain ⟨fl2, hg2, hfl2⟩ := hfo
   have e12 : fl1 = fl2 := by rw [hg1] at hg2; exact Option.some.inj hg2
   subst e12
   have hoff : fl1.offset = fo := congrArg Prod.fst hfl2
   subst hoff
   have hg : fs[f]? = some fl1 := by rw [← Array.getElem?_toList]; exact hg1
   split at h
   ·rename_i te hte
    obtain ⟨i', d', z', hi', hd', _, hsz', _, _, _, hag', _⟩ := htt.facts hte
    obtain ⟨vs, hv1, hv2, hv3, hv4⟩ := hx.agg_inv
    have run : ∀ v, (part fl1.type vs.toArray fl1.offset).run P w = .ok v w → (execOp a.eval o).run P w = .ok (.value v) w := by
     intro v hp
     rw [e, hv1]
     simp [Instr.field, underlying, hd, hg, asAgg, hp]
    unfold ldA at h
    split at h
    ·rename_i hb
     split at h
     ·rename_i hle
      have hle := Nat.le_of_ble_eq_true hle
      rw [fl_eq, takeL_eq] at h
      have hlv : ((vs.drop fl1.offset).take te.size).length = te.size := by simp; omega
      refine wp_val hs hn ⟨_, .agg ((vs.drop fl1.offset).take te.size).toArray, run _ ?_, h, .agg _ _ (by rw [hlv]; simp; omega) ?_ ?_⟩
      ·unfold part isAgg
       rw [hag'] at hb
       cases d' <;> simp [isRowD] at hb <;> simp [underlying, hd', sizeOf, typeInfo, hi', hsz']
      ·intro v hv; exact hv3 v (List.mem_of_mem_drop (List.mem_of_mem_take hv))
      ·intro j h1 h2
       simp at h1 h2
       have := hv4 (fl1.offset + j) (by omega) (by omega)
       simpa using this
     ·exact h.elim
    ·rename_i hb
     split at h
     ·rename_i hlt
      have hlt : fl1.offset < cs.length := Nat.le_of_ble_eq_true hlt
      rw [fv_eq] at h
      refine wp_val hs hn ⟨_, vs[fl1.offset]'(by omega), run _ ?_, h, ?_⟩
      ·unfold part isAgg
       rw [hag'] at hb
       cases d' <;> simp [isRowD] at hb <;> simp [underlying, hd', List.getElem?_eq_getElem (show fl1.offset < vs.length by omega)]
      ·simpa [List.getD_eq_getElem?_getD, hlt] using hv4 _ hlt (by omega)
     ·exact h.elim
   ·exact h.elim
  ·exact h.elim

theorem evL_rel (hs : Sim c s m a w ids) (xs : List Operand) : ∀ j (h : j < (xs.map (ev s)).length) (h' : j < (xs.map a.eval).length), Rel ids (imOf c ids w) w (xs.map (ev s))[j] (xs.map a.eval)[j] := by
 intro j h h'
 simp; exact hs.ev _

theorem sMakeFunc_sound (hs : Sim c s m a w ids) {f : FuncId} {xs : Array Operand} (ho : o.op = .makeFunc (.func f) #[] xs) {K : KT}
  (h : K (.fn f (xs.toList.map (ev s))) m) (hn : NextOk c s o K next) : o.wp P a w next Q := by
 refine wp_val hs hn ⟨_, .func (.func f) #[] (xs.toList.map a.eval).toArray, ?_, h, .fn f _ _ (by simp) (evL_rel hs xs.toList)⟩
 have e : (xs.map a.eval) = (xs.toList.map a.eval).toArray := by apply Array.ext'; simp
 unfold execOp; rw [ho]; simp [Instr.makeFunc, e]

def mnL : A → List A → (A → Prop) → Prop
 | x, [], K => fv x K
 | x, y :: ys, K => mn2 x y fun v => mnL v ys K
def mxL : A → List A → (A → Prop) → Prop
 | x, [], K => fv x K
 | x, y :: ys, K => mx2 x y fun v => mxL v ys K
theorem mnL_sound : ∀ (ys : List A) (vs : List Value) (x : A) (v : Value) (K : A → Prop), Rel ids im w x v → ys.length = vs.length → (∀ j (h : j < ys.length) (h' : j < vs.length), Rel ids im w ys[j] vs[j]) → mnL x ys K →
  ∃ r u, (vs.foldlM Builtin.min2 v).run P w = .ok u w ∧ K r ∧ Rel ids im w r u
 | [], vs, x, v, K, hx, hl, hr, h => by
  have : vs = [] := by cases vs <;> simp at hl ⊢
  subst this
  rw [mnL, fv_eq] at h
  exact ⟨x, v, by simp, h, hx⟩
 | y :: ys, vs, x, v, K, hx, hl, hr, h => by
  cases vs with
  | nil => simp at hl
  | cons u us =>
   have hy : Rel ids im w y u := hr 0 (by simp) (by simp)
   simp only [mnL] at h
   unfold mn2 at h
   split at h
   ·rename_i k a' k' b'
    rw [hx.int_inv, hy.int_inv]
    obtain ⟨r, z, h1, h2, h3⟩ := mnL_sound ys us (.int k (if b' < a' then b' else a')) (.int k (if b' < a' then b' else a')) K (.imm (.int _ _)) (by simpa using hl)
     (fun j h1 h2 => hr (j + 1) (Nat.succ_lt_succ h1) (Nat.succ_lt_succ h2)) h
    exact ⟨r, z, by simp [List.foldlM_cons, Builtin.min2, h1], h2, h3⟩
   ·exact h.elim
theorem mxL_sound : ∀ (ys : List A) (vs : List Value) (x : A) (v : Value) (K : A → Prop), Rel ids im w x v → ys.length = vs.length → (∀ j (h : j < ys.length) (h' : j < vs.length), Rel ids im w ys[j] vs[j]) → mxL x ys K →
  ∃ r u, (vs.foldlM Builtin.max2 v).run P w = .ok u w ∧ K r ∧ Rel ids im w r u
 | [], vs, x, v, K, hx, hl, hr, h => by
  have : vs = [] := by cases vs <;> simp at hl ⊢
  subst this
  rw [mxL, fv_eq] at h
  exact ⟨x, v, by simp, h, hx⟩
 | y :: ys, vs, x, v, K, hx, hl, hr, h => by
  cases vs with
  | nil => simp at hl
  | cons u us =>
   have hy : Rel ids im w y u := hr 0 (by simp) (by simp)
   simp only [mxL] at h
   unfold mx2 at h
   split at h
   ·rename_i k a' k' b'
    rw [hx.int_inv, hy.int_inv]
    obtain ⟨r, z, h1, h2, h3⟩ := mxL_sound ys us (.int k (if a' < b' then b' else a')) (.int k (if a' < b' then b' else a')) K (.imm (.int _ _)) (by simpa using hl)
     (fun j h1 h2 => hr (j + 1) (Nat.succ_lt_succ h1) (Nat.succ_lt_succ h2)) h
    exact ⟨r, z, by simp [List.foldlM_cons, Builtin.max2, h1], h2, h3⟩
   ·exact h.elim
end
end Go.Proofs.Ytfhdmhoeopbhnaa.Am
namespace Go.Proofs.Ytfhdmhoeopbhnaa.Am
variable [Inhabited DRT]
open Go.RowKit (Below)

def fd : Nat → A → (A → Prop) → Prop
 | 0, x, K => fv x K
 | d + 1, x, K => match x with
  | .agg cs => fdl d cs fun c => K (.agg c)
  | .tup cs => fdl d cs fun c => K (.tup c)
  | .fn f cs => fdl d cs fun c => K (.fn f c)
  | .bref cs o => fdl d cs fun c => K (.bref c o)
  | x => fv x K
where fdl (d : Nat) : List A → (List A → Prop) → Prop
 | [], K => K []
 | a :: as, K => fd d a fun a' => fdl d as fun as' => K (a' :: as')
mutual
theorem fd_eq : ∀ (d : Nat) (x : A) (K : A → Prop), fd d x K = K x
 | 0, x, K => by rw [fd, fv_eq]
 | d + 1, x, K => by cases x <;> simp only [fd, fdl_eq, fv_eq]
theorem fdl_eq : ∀ (d : Nat) (l : List A) (K : List A → Prop), fd.fdl d l K = K l
 | _, [], _ => by rw [fd.fdl]
 | d, a :: as, K => by rw [fd.fdl]; simp only [fd_eq, fdl_eq d as]
end

def plain : Nat → A → Bool
 | 0, _ => false
 | d + 1, x => match x with
  | .int _ _ => true
  | .bool _ => true
  | .sb _ => true
  | .str _ => true
  | .nilp => true
  | .nils => true
  | .nilm => true
  | .agg cs => cs.all (plain d)
  | .tup cs => cs.all (plain d)
  | _ => false
def wk (m : List Blk) : Nat → A → A
 | 0, _ => .junk
 | d + 1, x => match x with
  | .ref b off => match m.getD b .dead with
   | .box _ cs => .bref (cs.map (wk m d)) off
   | _ => .junk
  | .oref _ _ _ => .junk
  | .own b => match m.getD b .dead with
   | .row _ sz n row => .sl n sz row
   | .nest _ _ sz n hole len row => match hole with
    | none => .sl n 1 fun i => [.sl (len i) sz (row i)]
    | some _ => .junk
   | _ => .junk
  | .omap b => match m.getD b .dead with
   | .mapb g n key val => .mv g n key val
   | _ => .junk
  | .ent _ _ => .junk
  | .agg cs => .agg (cs.map (wk m d))
  | .tup cs => .tup (cs.map (wk m d))
  | .fn f cs => .fn f (cs.map (wk m d))
  | x => x

section
variable {c : Ctx} {s : List A} {m : List Blk} {a : Act} {w w' : World} {ids ids' : Ids} {P : Program} {im im' : Nat → Prop} {tt : TT}
variable {next : Act → World → Prop} {Q : Exit → Act → World → Prop} {o : Oper}

theorem plain_rel : ∀ (d : Nat) (x : A) (v : Value), plain d x = true → RelI im w x v → RelI im' w' x v
 | 0, x, v, h, _ => by cases h
 | d + 1, x, v, h, hr => by
  cases hr with
  | int => exact .int _ _
  | bool => exact .bool _
  | sb => exact .sb _
  | str => exact .str _
  | nilp => exact .nilp
  | nils => exact .nils
  | agg cs vs hl ho hr =>
   refine .agg cs vs hl ho fun j h1 h2 => plain_rel d _ _ ?_ (hr j h1 h2)
   simp only [plain, List.all_eq_true] at h
   exact h _ (List.getElem_mem h1)
  | tup cs vs hl hr =>
   refine .tup cs vs hl fun j h1 h2 => plain_rel d _ _ ?_ (hr j h1 h2)
   simp only [plain, List.all_eq_true] at h
   exact h _ (List.getElem_mem h1)
  | bref => cases h
  | sl0 => cases h
  | sle => cases h
  | sl => cases h
  | fn => cases h
  | nilfn => cases h
  | nilm => exact .nilm
  | mv => cases h
  | junk => cases h

/-- What may be read through a value, all that is the call's own besides. -/
def imAll (c : Ctx) (ids : Ids) (w : World) : Nat → Prop := fun b => imOf c ids w b ∨ ∃ p, IdE.lv p ∈ ids ∧ p.has b

theorem wk_rel (hs : Sim c s m a w ids) : ∀ (d : Nat) (x : A) (v : Value), Rel ids (imOf c ids w) w x v → RelI (imAll c ids w) w (wk m d x) v
 | 0, x, v, _ => .junk _
 | d + 1, x, v, hr => by
  have up : RelI (imOf c ids w) w x v → RelI (imAll c ids w) w x v := fun h => h.mono (fun _ h => .inl h) (fun _ _ => rfl)
  cases hr with
  | imm hr =>
   cases hr with
   | agg cs vs hl ho hr => exact .agg _ vs (by simp [hl]) ho fun j h1 h2 => by simpa using wk_rel hs d _ _ (.imm (hr j (by simpa using h1) h2))
   | tup cs vs hl hr => exact .tup _ vs (by simp [hl]) fun j h1 h2 => by simpa using wk_rel hs d _ _ (.imm (hr j (by simpa using h1) h2))
   | fn f cs vs hl hr => exact .fn f _ vs (by simp [hl]) fun j h1 h2 => by simpa using wk_rel hs d _ _ (.imm (hr j (by simpa using h1) h2))
   | int => exact .int _ _
   | bool => exact .bool _
   | sb => exact .sb _
   | str => exact .str _
   | nilp => exact .nilp
   | nils => exact .nils
   | nilfn => exact .nilfn
   | nilm => exact .nilm
   | mv g n key val r es clock f hb hh hk hd hc hv => exact up (.mv g n key val r es clock f hb hh hk hd hc hv)
   | junk => exact .junk _
   | sl0 => exact .sl0 _ _
   | sle => exact .sle _ _ _ _
   | sl n sz row blk base cap vs hb hcap hl hc ho hr => exact up (.sl n sz row blk base cap vs hb hcap hl hc ho hr)
   | bref blk base off cs vs hb hc ho hr => exact up (.bref blk base off cs vs hb hc ho hr)
  | ref b off p h =>
   simp only [wk]
   split
   ·rename_i ty cs hb
    obtain ⟨vs, h1, h2, h3, h4⟩ := hs.run_box h hb
    have := RelI.bref (im := imAll c ids w) (w := w) p.blk 0 off (cs.map (wk m d)) (fun j => vs.getD j undef) (.inr ⟨p, List.mem_of_getElem? h, .inl rfl⟩)
     (fun j hj => by simp at hj; have := h2 j (by omega); simpa [List.getD_eq_getElem?_getD, show j < vs.length by omega] using this)
     (fun j hj => by simp at hj; have := h3 _ (List.getElem_mem (show j < vs.length by omega)); simpa [List.getD_eq_getElem?_getD, show j < vs.length by omega] using this)
     (fun j hj => by
      simp at hj
      have := wk_rel hs d _ _ (h4 j hj (by omega))
      simpa [List.getD_eq_getElem?_getD, show j < vs.length by omega] using this)
    simpa using this
   ·exact .junk _
  | oref => exact .junk _
  | ent => exact .junk _
  | entS => exact .junk _
  | ownS b x n cap h => simp only [wk, hs.stale_gone h]; exact .junk _
  | refS b off x y h => simp only [wk, hs.stale_gone h]; exact .junk _
  | orefS => exact .junk _
  | omapS b x h => simp only [wk, hs.stale_gone h]; exact .junk _
  | own0 b h =>
   simp only [wk]
   split
   ·rename_i ty sz n row hb
    rcases own_len hs (.own0 b h) hb with ⟨rfl, _, _⟩ | ⟨p, cap, g1, _⟩
    ·exact .sl0 _ _
    ·rw [h] at g1; cases g1
   ·rename_i hb
    have hlt : b < ids.length := by
     rcases Nat.lt_or_ge b ids.length with h' | h'
     ·exact h'
     ·rw [List.getElem?_eq_none h'] at h; cases h
    have := hs.blks b (by rw [← hs.mlen]; exact hlt) hlt
    rw [List.getElem?_eq_getElem hlt] at h
    have e : m[b]'(by rw [← hs.mlen]; exact hlt) = m.getD b .dead := by
     rw [List.getD_eq_getElem?_getD, List.getElem?_eq_getElem (by rw [← hs.mlen]; exact hlt)]; rfl
    rw [e, hb, Option.some.inj h] at this
    have this : _ = 0 := this
    subst this
    split
    ·exact .sl0 _ _
    ·exact .junk _
   ·exact .junk _
  | own b cap p h hn hm =>
   simp only [wk]
   split
   ·rename_i ty sz n row hb
    obtain ⟨x, hxm, hbr⟩ := hs.blk_at h
    rw [getD_of_get hxm] at hb; subst hb
    obtain ⟨q1, q2, vs0, g1, g2, g3, hl, g5⟩ := hbr
    subst q1; subst q2
    have hlt : ∀ i j, i < p.n → j < p.sz → i * p.sz + j < vs0.size := by
     intro i j hi hj
     have := Nat.mul_le_mul_right p.sz (show i + 1 ≤ p.n from hi)
     rw [Nat.add_mul] at this; omega
    refine .sl p.n p.sz row p.blk 0 cap (fun i j => vs0.getD (i * p.sz + j) undef) (.inr ⟨p, List.mem_of_getElem? h, .inl rfl⟩) hn.1 hl ?_ ?_ ?_
    ·intro i j hi hj
     have hk := hlt i j hi hj
     rw [Nat.zero_add, cell_of_row w p.blk _ vs0 ty (0, 0) g1]
     simp [Array.getD_eq_getD_getElem?, hk]
    ·intro i j hi hj
     have hk := hlt i j hi hj
     have := (g5 i j hi (by rw [hl i hi]; exact hj) hk).2
     simpa [Array.getD_eq_getD_getElem?, hk] using this
    ·intro i j hi hj
     have hk := hlt i j hi (by rw [← hl i hi]; exact hj)
     have := (g5 i j hi hj hk).1
     simp only [Array.getD_eq_getD_getElem?, Array.getElem?_eq_getElem hk, Option.getD_some]
     exact this.mono (fun _ h => .inl h) (fun _ _ => rfl)
   ·rename_i ty ety sz n hole len row hb
    split
    ·skip
     obtain ⟨x, hxm, hbr⟩ := hs.blk_at h
     rw [getD_of_get hxm] at hb; subst hb
     obtain ⟨q1, q2, q3, vs0, g1, g2, g3, kb, g5⟩ := hbr
     subst q2
     refine .sl p.n 1 _ p.blk 0 cap (fun i j => vs0.getD (i * 1 + j) undef) (.inr ⟨p, List.mem_of_getElem? h, .inl rfl⟩) hn.1 (fun _ _ => rfl) ?_ ?_ ?_
     ·intro i j hi hj
      rw [Nat.zero_add, cell_of_row w p.blk _ vs0 ty (0, 0) g1]
      simp [Array.getD_eq_getD_getElem?, show i + j < vs0.size by omega]
     ·intro i j hi hj
      have hj0 : j = 0 := by omega
      subst hj0
      have hk : i < vs0.size := by omega
      simp only [Nat.mul_one, Nat.add_zero, Array.getD_eq_getD_getElem?, Array.getElem?_eq_getElem hk, Option.getD_some]
      rcases (g5 i hi (by simp) hk).1 with ⟨e, _⟩ | ⟨q, cap', vs', e, _⟩ <;> rw [e] <;> rfl
     ·intro i j hi hj
      have hj0 : j = 0 := by simp at hj; omega
      subst hj0
      have hk : i < vs0.size := by omega
      simp only [Nat.mul_one, Nat.add_zero, Array.getD_eq_getD_getElem?, Array.getElem?_eq_getElem hk, Option.getD_some, List.getElem_cons_zero]
      obtain ⟨k1, k2, _⟩ := g5 i hi (by simp) hk
      rcases k1 with ⟨e1, e2, _⟩ | ⟨q, cap', vs', e1, e2, e3, e4, e5, e6, e7, e8⟩
      ·rw [e1, e2]; exact .sl0 _ _
      ·rw [e1]
       have hlt : ∀ i' j, i' < len i → j < sz → i' * sz + j < vs'.size := by
        intro i' j hi' hj
        have h1 := Nat.mul_le_mul_right sz (show i' + 1 ≤ len i from hi')
        have h2 := Nat.mul_le_mul_right sz e5
        rw [Nat.add_mul] at h1; omega
       refine .sl (len i) sz (row i) q 0 cap' (fun i' j => vs'.getD (i' * sz + j) undef) (.inr ⟨p, List.mem_of_getElem? h, .inr (k2 q e2)⟩) e5 e7 ?_ ?_ ?_
       ·intro i' j hi' hj
        have hk := hlt i' j hi' hj
        rw [Nat.zero_add, cell_of_row w q _ vs' ety (0, 0) e3]
        simp [Array.getD_eq_getD_getElem?, hk]
       ·intro i' j hi' hj
        have hk := hlt i' j hi' hj
        have := (e8 i' j hi' (by rw [e7 i' hi']; exact hj) hk).2
        simpa [Array.getD_eq_getD_getElem?, hk] using this
       ·intro i' j hi' hj
        have hk := hlt i' j hi' (by rw [← e7 i' hi']; exact hj)
        have := (e8 i' j hi' hj hk).1
        simp only [Array.getD_eq_getD_getElem?, Array.getElem?_eq_getElem hk, Option.getD_some]
        exact this.mono (fun _ h => .inl h) (fun _ _ => rfl)
    ·exact .junk _
   ·exact .junk _
  | omap b p h =>
   simp only [wk]
   split
   ·rename_i g n key val hb
    obtain ⟨x, hxm, hbr⟩ := hs.blk_at h
    rw [getD_of_get hxm] at hb; subst hb
    obtain ⟨es, clock, f, g1, g2, g3, g4, g5, _⟩ := hbr
    exact .mv g n key val p.blk es clock f (.inr ⟨p, List.mem_of_getElem? h, .inl rfl⟩) g1 g2 g3 g4 (fun i hi => (g5 i hi).mono (fun _ h => .inl h) (fun _ _ => rfl))
   ·exact .junk _
  | agg cs vs hl ho hr => exact .agg _ vs (by simp [hl]) ho fun j h1 h2 => by simpa using wk_rel hs d _ _ (hr j (by simpa using h1) h2)
  | tup cs vs hl hr => exact .tup _ vs (by simp [hl]) fun j h1 h2 => by simpa using wk_rel hs d _ _ (hr j (by simpa using h1) h2)
  | fn f cs vs hl hr => exact .fn f _ vs (by simp [hl]) fun j h1 h2 => by simpa using wk_rel hs d _ _ (hr j (by simpa using h1) h2)
end
end Go.Proofs.Ytfhdmhoeopbhnaa.Am
namespace Go.Proofs.Ytfhdmhoeopbhnaa.Am
variable [Inhabited DRT]
open Go.RowKit (Below)

/-! ### Slices of texts and of plain slices -/
def evO (s : List A) : Option Operand → Option A
 | none => none
 | some x => some (ev s x)
def bnd (x : Option A) (d y : Nat) (K : Nat → Prop) : Prop :=
 match x with
 | none => K d
 | some v => match v with
  | .int _ i => (0 ≤ i ∧ i ≤ (y : Int)) ∧ K i.toNat
  | _ => False
def sSlice (tt : TT) (t : TypeId) (x : A) (lo hi : Option A) (K : A → Prop) : Prop :=
 match tt.lookup t with
 | none => False
 | some ti => match ti.kind, x with
  | 4, .str s => bnd hi s.length s.length fun h => bnd lo 0 h fun l => K (.str ((s.take h).drop l))
  | 3, .sl n sz row => match Nat.beq sz ti.esz with
   | true => bnd hi n n fun h => bnd lo 0 h fun l => K (.sl (h - l) sz fun i => row (l + i))
   | false => False
  | 3, .nils => bnd hi 0 0 fun h => bnd lo 0 h fun _ => K .nils
  | _, _ => False

section
variable {c : Ctx} {s : List A} {m : List Blk} {a : Act} {w w' : World} {ids ids' : Ids} {P : Program} {im im' : Nat → Prop} {tt : TT}
variable {next : Act → World → Prop} {Q : Exit → Act → World → Prop} {o : Oper}

theorem bnd_run (hs : Sim c s m a w ids) {x : Option Operand} {d y y' : Nat} {K : Nat → Prop} (h : bnd (evO s x) d y K) (hy : y ≤ y') :
  ∃ n, K n ∧ (x = none → n = d) ∧ (x.isSome → n ≤ y) ∧ ∀ X, x = some X → ∃ k i, a.eval X = .int k i ∧ i.toNat = n ∧ 0 ≤ i ∧ i ≤ (y' : Int) := by
 cases x with
 | none => exact ⟨d, h, fun _ => rfl, fun h => by simp at h, fun _ h => by simp at h⟩
 | some X =>
  simp only [bnd, evO] at h
  split at h
  ·rename_i v k i hv
   have hx := hs.ev X; rw [hv] at hx
   exact ⟨i.toNat, h.2, fun h => by simp at h, fun _ => by omega, fun X' hX' => by cases hX'; exact ⟨k, i, hx.int_inv, rfl, h.1.1, by omega⟩⟩
  ·exact h.elim

theorem bounds_run {isS : Bool} {len cap : Nat} {lo hi : Option Operand} {h l : Nat} (hh : hi = none → h = len) (hl : lo = none → l = 0)
  (eh : ∀ X, hi = some X → ∃ k i, a.eval X = .int k i ∧ i.toNat = h ∧ 0 ≤ i ∧ i ≤ (cap : Int))
  (el : ∀ X, lo = some X → ∃ k i, a.eval X = .int k i ∧ i.toNat = l ∧ 0 ≤ i ∧ i ≤ (h : Int)) :
  (Instr.sliceBounds isS len cap (lo.map a.eval) (hi.map a.eval) none).run P w = .ok (l, h, cap) w := by
 cases hi with
 | none =>
  have := hh rfl; subst this
  cases lo with
  | none => have := hl rfl; subst this; simp [Instr.sliceBounds]
  | some L =>
   obtain ⟨k, i, e1, e2, e3, e4⟩ := el L rfl
   simp [Instr.sliceBounds, e1, run_sliceBound, e3, e4, e2]
 | some H =>
  obtain ⟨k, i, e1, e2, e3, e4⟩ := eh H rfl
  cases lo with
  | none => have := hl rfl; subst this; simp [Instr.sliceBounds, e1, run_sliceBound, e3, e4, e2]
  | some L =>
   obtain ⟨k', i', f1, f2, f3, f4⟩ := el L rfl
   simp [Instr.sliceBounds, e1, run_sliceBound, e3, e4, e2, f1, f3, f4, f2]

theorem sSlice_sound (htt : TTok P tt) (hs : Sim c s m a w ids) {t : TypeId} {X : Operand} {lo hi : Option Operand} (ho : o.op = .slice t X lo hi none) {K : KT}
  (h : sSlice tt t (ev s X) (evO s lo) (evO s hi) fun v => K v m) (hn : NextOk c s o K next) : o.wp P a w next Q := by
 have hx := hs.ev X
 have e : execOp a.eval o = (do let z ← Instr.sliceAt t (a.eval X) (lo.map a.eval) (hi.map a.eval) none; pure (.value z)) := by unfold execOp; rw [ho]; rfl
 unfold sSlice at h
 split at h
 ·exact h.elim
 ·rename_i ti hti
  obtain ⟨i, d, z, _, hd, _, _, _, _, _, _, _, _, _, hk3, hk5, hk4, _⟩ := htt.facts hti
  split at h
  ·rename_i st hk hv; rw [hv] at hx
   rw [hk4 hk] at hd
   obtain ⟨hb, h, b1, b2, b3⟩ := bnd_run hs h (Nat.le_refl _)
   obtain ⟨lb, h, c1, c2, c3⟩ := bnd_run hs h (Nat.le_refl _)
   refine wp_val hs hn ⟨_, .string ⟨((st.take hb).drop lb).toArray⟩, ?_, h, .imm (.str _)⟩
   have hsz : (ByteArray.mk st.toArray).size = st.length := by simp [ByteArray.size]
   rw [e, hx.str_inv, Sem.run_bind, run_sliceAt_string _ _ _ _ _ _ hd]
   have := bounds_run (P := P) (w := w) (a := a) (isS := false) (len := st.length) (cap := st.length) b1 c1 b3 c3
   simp [Instr.slice, underlying, hd, hsz, this]
   apply ByteArray.ext
   have : lb ≤ hb := by
    cases lo with
    | none => have := c1 rfl; omega
    | some L => exact c2 rfl
   have : hb ≤ st.length := by
    cases hi with
    | none => have := b1 rfl; omega
    | some L => exact b2 rfl
   simp [ByteArray.data_extract]
   rw [List.drop_take]
  ·rename_i n sz row hk hv; rw [hv] at hx
   obtain ⟨ie, ze, hd', hie, hsz, _, _, _, _⟩ := hk3 hk
   subst hd'
   split at h
   ·rename_i hb
    have hb := Nat.eq_of_beq_eq_true hb
    have hun : P.underlying t = some (.slice (P.elem t)) := by
     have : P.elem t = ti.ety := by simp [Program.elem, hd]
     rw [this]; exact hd
    have hel : P.elem t = ti.ety := by simp [Program.elem, hd]
    cases hx with
    | imm hx =>
     have key : ∀ (ba : Option Addr) (cap : Nat), n ≤ cap → a.eval X = .slice ba n cap →
       (∀ (l h : Nat), l ≤ h → h ≤ n → RelI (imOf c ids w) w (.sl (h - l) sz fun i => row (l + i)) (.slice (if cap = l then ba else ba.map (·.add (l * sz))) (h - l) (cap - l))) → o.wp P a w next Q := by
      intro ba cap hcap hX hrel
      obtain ⟨hb', h, b1, b2, b3⟩ := bnd_run hs h hcap
      obtain ⟨lb, h, c1, c2, c3⟩ := bnd_run hs h (Nat.le_refl _)
      have q1 : lb ≤ hb' := by
       cases lo with
       | none => have := c1 rfl; omega
       | some L => exact c2 rfl
      have q2 : hb' ≤ n := by
       cases hi with
       | none => have := b1 rfl; omega
       | some L => exact b2 rfl
      refine wp_val hs hn ⟨_, _, ?_, h, .imm (hrel lb hb' q1 q2)⟩
      rw [e, hX, Sem.run_bind, run_sliceAt_slice _ _ _ _ _ _ hun, run_slice_any _ _ _ _ _ hun]
      have := bounds_run (P := P) (w := w) (a := a) (isS := true) (len := n) (cap := cap) b1 c1 b3 c3
      simp [this, hel, sizeOf, typeInfo, hie, hsz, sliced, hb]
     generalize hX : a.eval X = V at hx
     cases hx with
     | sl0 =>
      refine key none 0 (by omega) hX (fun l h h1 h2 => ?_)
      have : l = 0 := by omega
      subst this
      have : h = 0 := by omega
      subst this
      exact .sl0 _ _
     | sle _ _ ad cap =>
      refine key (some ad) cap (by omega) hX (fun l h h1 h2 => ?_)
      have : l = 0 := by omega
      subst this
      have : h = 0 := by omega
      subst this
      split
      ·exact .sle _ _ _ _
      ·exact .sle _ _ _ _
     | sl _ _ _ blk base cap vs hb hcap hl hc hoo hr =>
      refine key _ cap hcap hX (fun l h h1 h2 => ?_)
      by_cases hcl : cap = l
      ·have e1 : h - l = 0 := by omega
       rw [if_pos hcl, e1]
       exact .sl 0 sz _ blk base _ vs hb (by omega) (fun _ h => by omega) (fun _ _ h => by omega) (fun _ _ h => by omega) (fun _ _ h => by omega)
      ·rw [if_neg hcl]
       show RelI _ _ _ (.slice (some (Addr.add ⟨blk, base, none⟩ (l * sz))) _ _)
       rw [show Addr.add ⟨blk, base, none⟩ (l * sz) = ⟨blk, base + l * sz, none⟩ from by simp [Addr.add]]
       refine .sl (h - l) sz (fun i => row (l + i)) blk (base + l * sz) (cap - l) (fun i j => vs (l + i) j) hb (by omega) (fun i hi => hl (l + i) (by omega)) (fun i j hi hj => ?_) (fun i j hi hj => hoo (l + i) j (by omega) hj) (fun i j hi hj => hr (l + i) j (by omega) hj)
       rw [← hc (l + i) j (by omega) hj, Nat.add_mul, Nat.add_assoc base]
   ·exact h.elim
  ·rename_i hk hv; rw [hv] at hx
   obtain ⟨ie, ze, hd', hie, hsz, _, _, _, _⟩ := hk3 hk
   subst hd'
   have hun : P.underlying t = some (.slice (P.elem t)) := by
    have : P.elem t = ti.ety := by simp [Program.elem, hd]
    rw [this]; exact hd
   have hel : P.elem t = ti.ety := by simp [Program.elem, hd]
   obtain ⟨hb', h, b1, b2, b3⟩ := bnd_run hs h (Nat.le_refl _)
   obtain ⟨lb, h, c1, c2, c3⟩ := bnd_run hs h (Nat.le_refl _)
   refine wp_val hs hn ⟨_, .slice none 0 0, ?_, h, .imm .nils⟩
   have q2 : hb' ≤ 0 := by
    cases hi with
    | none => have := b1 rfl; omega
    | some L => exact b2 rfl
   have q1 : lb ≤ hb' := by
    cases lo with
    | none => have := c1 rfl; omega
    | some L => exact c2 rfl
   have : hb' = 0 := by omega
   subst this
   have : lb = 0 := by omega
   subst this
   rw [e, hx.nils_inv, Sem.run_bind, run_sliceAt_slice _ _ _ _ _ _ hun, run_slice_any _ _ _ _ _ hun]
   have := bounds_run (P := P) (w := w) (a := a) (isS := true) (len := 0) (cap := 0) b1 c1 b3 c3
   simp [this, hel, sizeOf, typeInfo, hie, hsz, sliced]
  ·exact h.elim
end
end Go.Proofs.Ytfhdmhoeopbhnaa.Am
namespace Go.Proofs.Ytfhdmhoeopbhnaa.Am
variable [Inhabited DRT]
open Go.RowKit (Below)

/-- What is known of the world at each moment: it hangs on the first n blocks alone. -/
structure GInv where
 G : World → Prop
 n : Nat
 lt : ∀ w, G w → n ≤ w.heap.size
 st : ∀ w w', G w → w.heap.size ≤ w'.heap.size → (∀ b, b < n → w'.heap[b]? = w.heap[b]?) → G w'
def GInv.ok (G : GInv) (c : Ctx) : Prop := G.G c.w0 ∧ ∀ b, c.mu b → G.n ≤ b
theorem GInv.ok.now {G : GInv} {c : Ctx} {w : World} (h : G.ok c) (hf : Fr c w) : G.G w :=
 G.st _ _ h.1 hf.size fun b hb => hf.block b (Nat.lt_of_lt_of_le hb (G.lt _ h.1)) fun hm => by have := h.2 b hm; omega

def ACalls (P : Program) (G : GInv) (f : FuncId) (args : List A) (r : A) : Prop :=
 (∃ fn cd, P.funcs[f]? = some fn ∧ fn.body = some cd ∧ (fn.name == "runtime.NumGoroutine") = false) ∧
 ∀ (im : Nat → Prop) (w : World) (vs : List Value), (∀ b, im b → b < w.heap.size) → G.G w → vs.length = args.length →
  (∀ j (h : j < args.length) (h' : j < vs.length), RelI im w args[j] vs[j]) →
  Calls P f vs.toArray w fun e w' => ∃ v, e = .returned v ∧ RelI (fun b => im b ∨ (w.heap.size ≤ b ∧ b < w'.heap.size)) w' r v ∧ Bw w.heap.size w w'

def sCall (P : Program) (G : GInv) (f : A) (args : List A) (m : List Blk) (K : KT) : Prop :=
 match f with
 | .fn g cap => fd.fdl 4 (args ++ cap) fun as => match as.any (hasOwn 4) with
  | false => ∃ r, ACalls P G g as r ∧ fd 3 r fun r' => K r' m
  | true => fd.fdl 4 (as.map (wk m 5)) fun as' => ∃ r, ACalls P G g as' r ∧ plain 4 r = true ∧ fd 3 r fun r' => K r' m
 | _ => False

section
variable {c : Ctx} {s : List A} {m : List Blk} {a : Act} {w w' : World} {ids ids' : Ids} {P : Program} {im im' : Nat → Prop} {tt : TT} {G : GInv}
variable {next : Act → World → Prop} {Q : Exit → Act → World → Prop} {o : Oper}

theorem Calls_mono {f : FuncId} {args : Array Value} {R R' : Ending → World → Prop} (h : Calls P f args w R) (hr : ∀ e w', R e w' → R' e w') : Calls P f args w R' := by
 intro cs
 obtain ⟨e, w', fr, h1, h2⟩ := h cs
 exact ⟨e, w', fr, hr _ _ h1, h2⟩

theorem sCall_sound (hs : Sim c s m a w ids) (hG : G.ok c) {F : Operand} {xs : Array Operand} {ts : Array TypeId} (ho : o.op = .call { callee := .value F, args := xs, argTypes := ts }) {K : KT}
  (h : sCall P G (ev s F) (xs.toList.map (ev s)) m K) (hn : NextOk c s o K next) : o.wp P a w next Q := by
 have hf := hs.ev F
 have hGw : G.G w := hG.now hs.frame
 unfold sCall at h
 split at h
 ·rename_i g cap hv; rw [hv] at hf
  obtain ⟨us, hu1, hu2, hu3⟩ := hf.fn_inv
  rw [fdl_eq] at h
  have hrel : ∀ j (h : j < (xs.toList.map (ev s) ++ cap).length) (h' : j < (xs.toList.map a.eval ++ us).length), Rel ids (imOf c ids w) w (xs.toList.map (ev s) ++ cap)[j] (xs.toList.map a.eval ++ us)[j] := by
   intro j h h'
   by_cases hj : j < xs.toList.length
   ·rw [List.getElem_append_left (by simpa using hj), List.getElem_append_left (by simpa using hj)]
    exact evL_rel hs xs.toList j (by simpa using hj) (by simpa using hj)
   ·rw [List.getElem_append_right (by simpa using hj), List.getElem_append_right (by simpa using hj)]
    simp at h h' hj
    have := hu3 (j - xs.size) (by omega) (by omega)
    simpa using this
  have hlen : (xs.toList.map a.eval ++ us).length = (xs.toList.map (ev s) ++ cap).length := by simp [hu2]
  have run : ∀ fn cd, P.funcs[g]? = some fn → fn.body = some cd → (fn.name == "runtime.NumGoroutine") = false → (execOp a.eval o).run P w = .ok (.enter g (xs.toList.map a.eval ++ us).toArray) w := by
   intro fn cd h1 h2 h3
   have e : execOp a.eval o = (do let d ← resolve a.eval { callee := .value F, args := xs, argTypes := ts } o.type; invoke d.target d.args) := by unfold execOp; rw [ho]
   have e2 : (xs.map a.eval ++ us.toArray) = (xs.toList.map a.eval ++ us).toArray := by apply Array.ext'; simp
   have h4 : ¬ fn.name = "runtime.NumGoroutine" := by simpa using h3
   rw [e]
   simp [resolve, hu1, Deferred.ofValue, invoke, callFunc, h1, h2, h4, e2]
  split at h
  ·rename_i hown
   obtain ⟨r, hc, hk⟩ := h
   rw [fd_eq] at hk
   obtain ⟨⟨fn, cd, h1, h2, h3⟩, hc⟩ := hc
   unfold Oper.wp
   rw [run fn cd h1 h2 h3]
   show Calls P g _ w _
   refine Calls_mono (hc (imOf c ids w) w (xs.toList.map a.eval ++ us) (fun b hb => imOf_lt hs hb) hGw hlen (fun j h h' => hasOwn_rel 4 _ _ ?_ (hrel j h h'))) ?_
   ·have := List.any_eq_false.1 hown _ (List.getElem_mem h)
    simpa using this
   ·rintro e w' ⟨v, rfl, hr, hb⟩
    refine hn r m _ _ ids hk ((hs.same hb).putD o.dst (.imm (hr.mono ?_ (fun _ _ => rfl))))
    rintro b (hb' | ⟨hb1, hb2⟩)
    ·rcases hb' with h | ⟨q1, q2, q3⟩
     ·exact .inl h
     ·exact .inr ⟨q1, Nat.lt_of_lt_of_le q2 hb.size, q3⟩
    ·refine .inr ⟨.inl (Nat.le_trans hs.frame.size hb1), hb2, fun p hp => ?_⟩
     intro hx; have := (hs.freshX p hp b hx).2; omega
  ·rw [fdl_eq] at h
   obtain ⟨r, hc, hpl, hk⟩ := h
   rw [fd_eq] at hk
   obtain ⟨⟨fn, cd, h1, h2, h3⟩, hc⟩ := hc
   unfold Oper.wp
   rw [run fn cd h1 h2 h3]
   show Calls P g _ w _
   refine Calls_mono (hc (imAll c ids w) w (xs.toList.map a.eval ++ us) ?_ hGw (by simp [hu2]) (fun j h h' => ?_)) ?_
   ·rintro b (hb | ⟨p, hp, hx⟩)
    ·exact imOf_lt hs hb
    ·exact (hs.freshX p hp b hx).2
   ·have := wk_rel hs 5 _ _ (hrel j (by simpa using h) h')
    rw [List.getElem_map]; exact this
   ·rintro e w' ⟨v, rfl, hr, hb⟩
    exact hn r m _ _ ids hk ((hs.same hb).putD o.dst (.imm (plain_rel 4 _ _ hpl hr)))
 ·exact h.elim

/-! ### One operation, a region's operations -/
def isNumOp : BinOp → Bool := fun _ => true

def step (P : Program) (G : GInv) (tt : TT) (o : Oper) (s : List A) (m : List Blk) (K : KT) : Prop :=
 match o.op with
 | .move x => fv (ev s x) fun v => K v m
 | .assign x => fv (ev s x) fun v => K v m
 | .pick x y z => sPick (ev s x) (ev s y) (ev s z) fun v => K v m
 | .alloc t => sAlloc tt t m K
 | .box t x => sBox t (ev s x) m K
 | .build t ps => sBuild tt t (ps.toList.map fun p => (p.1, ev s p.2)) m K
 | .load t x => sLoad tt t (ev s x) m K
 | .store t x y => sStore tt t (ev s x) (ev s y) m K
 | .nilCheck x => sNil (ev s x) fun v => K v m
 | .binOp op t x y _ => sBin tt t op (ev s x) (ev s y) fun v => K v m
 | .unOp op _ x => sUn op (ev s x) fun v => K v m
 | .convert src dst x => sConv tt src dst (ev s x) fun v => K v m
 | .makeFunc (.func f) first cap => match first.toList with
  | [] => K (.fn f (cap.toList.map (ev s))) m
  | _ => False
 | .fieldAddr t x f => sFieldAddr tt t (ev s x) f m K
 | .indexAddr t x i => sIndexAddr tt t (ev s x) (ev s i) m K
 | .index t x i => sIndex tt t (ev s x) (ev s i) fun v => K v m
 | .field t x f => sField tt t (ev s x) f fun v => K v m
 | .extract x ix => sExtract (ev s x) ix fun v => K v m
 | .slice t x lo hi mx => match mx with
  | none => sSlice tt t (ev s x) (evO s lo) (evO s hi) fun v => K v m
  | some _ => False
 | .call { callee := .builtin .len, args, argTypes } => match args.toList, argTypes.toList with
  | [x], [t] => sLen tt t (ev s x) m fun v => K v m
  | _, _ => False
 | .call { callee := .builtin .min, args, .. } => match args.toList with
  | x :: xs => mnL (ev s x) (xs.map (ev s)) fun v => K v m
  | _ => False
 | .call { callee := .builtin .max, args, .. } => match args.toList with
  | x :: xs => mxL (ev s x) (xs.map (ev s)) fun v => K v m
  | _ => False
 | .call { callee := .value f, args, .. } => sCall P G (ev s f) (args.toList.map (ev s)) m K
 | _ => False

theorem toList_one {α : Type} {xs : Array α} {x : α} (h : xs.toList = [x]) : xs = #[x] := by apply Array.ext'; simpa using h

theorem step_sound (htt : TTok P tt) (hG : G.ok c) (hs : Sim c s m a w ids) {K : KT} (h : step P G tt o s m K) (hn : NextOk c s o K next) : o.wp P a w next Q := by
 unfold step at h
 split at h
 ·rename_i x ho; rw [fv_eq] at h; exact sMove_sound hs (.inl ho) h hn
 ·rename_i x ho; rw [fv_eq] at h; exact sMove_sound hs (.inr ho) h hn
 ·rename_i ho; exact sPick_sound hs ho h hn
 ·rename_i ho; exact sAlloc_sound htt hs ho h hn
 ·rename_i ho; exact sBox_sound hs ho h hn
 ·rename_i ho; exact sBuild_sound htt hs ho h hn
 ·rename_i ho; exact sLoad_sound htt hs ho h hn
 ·rename_i ho; exact sStore_sound htt hs ho h hn
 ·rename_i ho; exact sNil_sound hs ho h hn
 ·rename_i ho; exact wp_val hs hn (run_bin htt ho (hs.ev _) (hs.ev _) h)
 ·rename_i ho; exact wp_val hs hn (run_un ho (hs.ev _) h)
 ·rename_i ho; exact sConv_sound htt hs ho h hn
 ·rename_i f first cap ho
  split at h
  ·rename_i hf
   have : first = #[] := by apply Array.ext'; simpa using hf
   subst this
   exact sMakeFunc_sound hs ho h hn
  ·exact h.elim
 ·rename_i ho; exact sFieldAddr_sound htt hs ho h hn
 ·rename_i ho; exact sIndexAddr_sound htt hs ho h hn
 ·rename_i ho; exact sIndex_sound htt hs ho h hn
 ·rename_i ho; exact sField_sound htt hs ho h hn
 ·rename_i ho; exact sExtract_sound hs ho h hn
 ·rename_i ho
  split at h
  ·exact sSlice_sound htt hs ho h hn
  ·exact h.elim
 ·rename_i args ts ho
  split at h
  ·rename_i x t hx ht
   rw [toList_one hx, toList_one ht] at ho
   exact sLen_sound htt hs ho h hn
  ·exact h.elim
 ·rename_i args ts ho
  split at h
  ·rename_i x xs hx
   have e : (execOp a.eval o) = (do pure (.value (← Builtin.min_ ts o.type (args.map a.eval)))) := by
    obtain ⟨dst, op, ty, pos, after, guard⟩ := o
    simp only at ho; subst ho
    rw [BigFrame.execOp_builtin, BigFrame.builtin_min]
   obtain ⟨r, v, h1, h2, h3⟩ := mnL_sound (P := P) (xs.map (ev s)) (xs.map a.eval) (ev s x) (a.eval x) _ (hs.ev x) (by simp) (evL_rel hs xs) h
   refine wp_val hs hn ⟨r, v, ?_, h2, h3⟩
   rw [e]; simp [Builtin.min_] at h1 ⊢; simp [hx, h1]
  ·exact h.elim
 ·rename_i args ts ho
  split at h
  ·rename_i x xs hx
   have e : (execOp a.eval o) = (do pure (.value (← Builtin.max_ ts o.type (args.map a.eval)))) := by
    obtain ⟨dst, op, ty, pos, after, guard⟩ := o
    simp only at ho; subst ho
    rw [BigFrame.execOp_builtin, BigFrame.builtin_max]
   obtain ⟨r, v, h1, h2, h3⟩ := mxL_sound (P := P) (xs.map (ev s)) (xs.map a.eval) (ev s x) (a.eval x) _ (hs.ev x) (by simp) (evL_rel hs xs) h
   refine wp_val hs hn ⟨r, v, ?_, h2, h3⟩
   rw [e]; simp [Builtin.max_] at h1 ⊢; simp [hx, h1]
  ·exact h.elim
 ·rename_i ho; exact sCall_sound hs hG ho h hn
 ·exact h.elim
end
end Go.Proofs.Ytfhdmhoeopbhnaa.Am
namespace Go.Proofs.Ytfhdmhoeopbhnaa.Am
variable [Inhabited DRT]
open Go.RowKit (Below)

/-! ### A row that moves: names of it that are out of date are struck -/
def scr (b : Nat) : Nat → A → A
 | 0, _ => .junk
 | d + 1, x => match x with
  | .ref b' o => match Nat.beq b' b with
   | true => .junk
   | false => .ref b' o
  | .oref b' i o => match Nat.beq b' b with
   | true => .junk
   | false => .oref b' i o
  | .own b' => match Nat.beq b' b with
   | true => .junk
   | false => .own b'
  | .omap b' => match Nat.beq b' b with
   | true => .junk
   | false => .omap b'
  | .ent _ _ => .junk
  | .agg cs => .agg (cs.map (scr b d))
  | .tup cs => .tup (cs.map (scr b d))
  | .fn f cs => .fn f (cs.map (scr b d))
  | x => x
def scrB (b d : Nat) : Blk → Blk
 | .box ty cs => .box ty (cs.map (scr b d))
 | .ghost cs => .ghost (cs.map (scr b d))
 | x => x

section
variable {c : Ctx} {s : List A} {m : List Blk} {a : Act} {w w' : World} {ids ids' : Ids} {P : Program} {im im' : Nat → Prop} {tt : TT} {G : GInv}
variable {next : Act → World → Prop} {Q : Exit → Act → World → Prop} {o : Oper}

theorem scr_rel {b : Nat} (hi : ∀ b, im b → im' b) (hw : ∀ b, im b → w'.heap[b]? = w.heap[b]?) (hd : ∀ (b' : Nat) p, b' ≠ b → ids[b']? = some p → ids'[b']? = some p) :
  ∀ (d : Nat) (x : A) (v : Value), Rel ids im w x v → Rel ids' im' w' (scr b d x) v
 | 0, x, v, _ => .imm (.junk _)
 | d + 1, x, v, h => by
  have keep : ∀ y, RelI im w y v → Rel ids' im' w' y v := fun y hy => .imm (hy.mono hi hw)
  cases x with
  | ref b' o =>
   simp only [scr]
   split
   ·exact .imm (.junk _)
   ·rename_i hb
    rcases h.ref_inv with ⟨p, h1, rfl⟩ | ⟨h1, x, y, rfl⟩
    rotate_left
    ·exact .refS _ _ x y (hd b' _ (fun e => by subst e; simp at hb) h1)
    exact .ref _ _ p (hd b' _ (fun e => by subst e; simp at hb) h1)
  | oref b' i o =>
   simp only [scr]
   split
   ·exact .imm (.junk _)
   ·rename_i hb
    rcases h.oref_inv with ⟨p, h1, rfl⟩ | ⟨h1, x, y, rfl⟩
    rotate_left
    ·exact .orefS _ _ _ x y (hd b' _ (fun e => by subst e; simp at hb) h1)
    exact .oref _ _ _ p (hd b' _ (fun e => by subst e; simp at hb) h1)
  | own b' =>
   simp only [scr]
   split
   ·exact .imm (.junk _)
   ·rename_i hb
    have hne : b' ≠ b := fun e => by subst e; simp at hb
    rcases h.own_inv with ⟨h1, rfl⟩ | ⟨p, cap, h1, h2, h3, rfl⟩ | ⟨h1, x, n, cap, rfl⟩
    ·exact .own0 _ (hd b' _ hne h1)
    ·exact .own _ cap p (hd b' _ hne h1) h2 h3
    ·exact .ownS _ x n cap (hd b' _ hne h1)
  | omap b' =>
   simp only [scr]
   split
   ·exact .imm (.junk _)
   ·rename_i hb
    rcases h.omap_inv with ⟨p, h1, rfl⟩ | ⟨h1, x, rfl⟩
    rotate_left
    ·exact .omapS _ x (hd b' _ (fun e => by subst e; simp at hb) h1)
    exact .omap _ p (hd b' _ (fun e => by subst e; simp at hb) h1)
  | agg cs =>
   obtain ⟨vs, rfl, hl, ho, hr⟩ := h.agg_inv
   exact .agg _ vs (by simpa using hl) ho (fun j h h' => by rw [List.getElem_map]; exact scr_rel hi hw hd d _ _ (hr j (by simpa using h) h'))
  | tup cs =>
   obtain ⟨vs, rfl, hl, hr⟩ := h.tup_inv
   exact .tup _ vs (by simpa using hl) (fun j h h' => by rw [List.getElem_map]; exact scr_rel hi hw hd d _ _ (hr j (by simpa using h) h'))
  | fn f cs =>
   obtain ⟨vs, rfl, hl, hr⟩ := h.fn_inv
   exact .fn f _ vs (by simpa using hl) (fun j h h' => by rw [List.getElem_map]; exact scr_rel hi hw hd d _ _ (hr j (by simpa using h) h'))
  | int k n => cases h with | imm h => exact keep _ h
  | bool k => cases h with | imm h => exact keep _ h
  | sb k => cases h with | imm h => exact keep _ h
  | str k => cases h with | imm h => exact keep _ h
  | nilp => cases h with | imm h => exact keep _ h
  | bref cs off => cases h with | imm h => exact keep _ h
  | nils => cases h with | imm h => exact keep _ h
  | sl n sz row => cases h with | imm h => exact keep _ h
  | nilfn => cases h with | imm h => exact keep _ h
  | nilm => cases h with | imm h => exact keep _ h
  | mv g n k v => cases h with | imm h => exact keep _ h
  | junk => exact .imm (.junk _)
  | ent => exact .imm (.junk _)

/-- Block b becomes another one: written in place, or moved to a new block. -/
theorem Sim.rebind (hs : Sim c s m a w ids) (b : Nat) (q : IdE) (x : Blk) (d : Nat) (hb : b < m.length)
  (hos : w'.os = w.os) (htp : w'.tape = w.tape) (hou : w'.output = w.output) (hsz : w.heap.size ≤ w'.heap.size)
  (hbl : ∀ k, k < w.heap.size → (∀ p, ids[b]? = some (.lv p) → ¬ p.has k) → w'.heap[k]? = w.heap[k]?)
  (hqg : ∀ vs, q ≠ .gho vs)
  (hq : ∀ p', q = .lv p' → ∀ x, p'.has x → x < w'.heap.size ∧ (w.heap.size ≤ x ∨ ∃ p, ids[b]? = some (.lv p) ∧ p.has x))
  (hx : (∀ u v, RelI (imOf c ids w) w u v → RelI (imOf c (ids.set b q) w') w' u v) → BRel (ids.set b q) (imOf c (ids.set b q) w') w' x q) (hdr : drLe w.drawn w'.drawn := by exact drLe.refl _) :
  Sim c (s.map (scr b d)) ((m.map (scrB b d)).set b x) a w' (ids.set b q) := by
 have hbi : b < ids.length := by rw [hs.mlen]; exact hb
 have hmem : ∀ p', IdE.lv p' ∈ ids.set b q → IdE.lv p' ∈ ids ∨ q = .lv p' := by
  intro p' h
  rcases List.mem_or_eq_of_mem_set h with h | h
  ·exact .inl h
  ·exact .inr h.symm
 have hi : ∀ k, imOf c ids w k → imOf c (ids.set b q) w' k := by
  intro k h
  rcases h with h | ⟨h1, h2, h3⟩
  ·exact .inl h
  ·refine .inr ⟨h1, Nat.lt_of_lt_of_le h2 hsz, fun p hp => ?_⟩
   rcases hmem p hp with hp | hp
   ·exact h3 p hp
   ·intro hx
    rcases (hq p hp k hx).2 with h | ⟨p0, h4, h5⟩
    ·omega
    ·exact h3 p0 (List.mem_of_getElem? h4) h5
 have hh : ∀ k, imOf c ids w k → w'.heap[k]? = w.heap[k]? := by
  intro k h
  refine hbl k (imOf_lt hs h) (fun p hp e => ?_)
  rcases h with h | ⟨_, _, h3⟩
  ·exact hs.im0new h (hs.freshX p (List.mem_of_getElem? hp) k e).1
  ·exact h3 p (List.mem_of_getElem? hp) e
 have hd : ∀ (b' : Nat) p, b' ≠ b → ids[b']? = some p → (ids.set b q)[b']? = some p := by
  intro b' p hne h
  rw [List.getElem?_set_ne (fun e => hne e.symm)]; exact h
 refine ⟨hs.defers, by simp [hs.len], ?_, by simp [hs.mlen], ?_, ?_, ?_, ?_, hs.im0lt, ?_⟩
 ·intro i h h'
  rw [List.getElem_map]
  exact scr_rel hi hh hd d _ _ (hs.slots i (by simpa using h) h')
 ·intro i h h'
  rw [List.getElem_set, List.getElem_set]
  split
  ·rename_i he; subst he
   exact hx (fun u v h => h.mono hi hh)
  ·rename_i he
   have h1 : i < m.length := by simpa using h
   have h2 : i < ids.length := by simpa using h'
   have hB := hs.blks i h1 h2
   rw [List.getElem_map]
   have hkX : ∀ p, ids[i] = .lv p → ∀ k, p.has k → w'.heap[k]? = w.heap[k]? := by
    intro p hp k hk
    have hpi : ids[i]? = some (.lv p) := by rw [List.getElem?_eq_getElem h2, hp]
    refine hbl _ (hs.freshX p (List.mem_of_getElem? hpi) k hk).2 (fun p0 hp0 e => ?_)
    exact he (hs.distinctX b i p0 p k hp0 hpi e hk)
   have hk : ∀ p, ids[i] = .lv p → w'.heap[p.blk]? = w.heap[p.blk]? := fun p hp => hkX p hp _ (.inl rfl)
   cases hm : m[i] with
   | dead => rw [hm] at hB; exact hB
   | gone => rw [hm] at hB; exact hB
   | box ty cs =>
    rw [hm] at hB
    cases hp : ids[i] with
    | dead => rw [hp] at hB; exact hB.elim
    | stale => rw [hp] at hB; exact hB.elim
    | virt => rw [hp] at hB; exact hB.elim
    | gho vs => rw [hp] at hB; exact hB.elim
    | lv p =>
     rw [hp] at hB
     obtain ⟨vs, g1, g2, g3, g4⟩ := hB
     refine ⟨vs, by rw [hk p hp]; exact g1, g2, by simpa using g3, ?_⟩
     intro j hj hj'
     have := g4 j (by simpa using hj) hj'
     rw [List.getElem_map]
     exact ⟨scr_rel hi hh hd d _ _ this.1, this.2⟩
   | row ty sz n row =>
    rw [hm] at hB
    cases hp : ids[i] with
    | dead => rw [hp] at hB; exact hB.elim
    | stale => rw [hp] at hB; exact hB.elim
    | virt => rw [hp] at hB; exact hB
    | gho vs => rw [hp] at hB; exact hB.elim
    | lv p =>
     rw [hp] at hB
     obtain ⟨e1, e2, vs, g1, g2, g3, g4, g5⟩ := hB
     exact ⟨e1, e2, vs, by rw [hk p hp]; exact g1, g2, g3, g4, fun i' j hi' h h' => ⟨(g5 i' j hi' h h').1.mono hi hh, (g5 i' j hi' h h').2⟩⟩
   | nest ty ety sz n hole len row =>
    rw [hm] at hB
    cases hp : ids[i] with
    | dead => rw [hp] at hB; exact hB.elim
    | stale => rw [hp] at hB; exact hB.elim
    | virt => rw [hp] at hB; exact hB
    | gho vs => rw [hp] at hB; exact hB.elim
    | lv p =>
     rw [hp] at hB
     obtain ⟨e1, e2, e3, vs, g1, g2, g3, kb, g5⟩ := hB
     refine ⟨e1, e2, e3, vs, by rw [hk p hp]; exact g1, g2, g3, kb, fun i' hi' hh' h => ?_⟩
     obtain ⟨k1, k2, k3⟩ := g5 i' hi' hh' h
     exact ⟨k1.mono hi hh (fun x hx => hkX p hp _ (.inr (k2 x hx))), k2, k3⟩
   | mapb g n key val =>
    rw [hm] at hB
    cases hp : ids[i] with
    | dead => rw [hp] at hB; exact hB.elim
    | stale => rw [hp] at hB; exact hB.elim
    | virt => rw [hp] at hB; exact hB.elim
    | gho vs => rw [hp] at hB; exact hB.elim
    | lv p =>
     rw [hp] at hB
     obtain ⟨es, clock, f, h1, h2, h3, h4, h5, h6⟩ := hB
     exact ⟨es, clock, f, by rw [hk p hp]; exact h1, h2, h3, h4, fun i h => (h5 i h).mono hi hh, h6⟩
   | mapx g n key val =>
    rw [hm] at hB
    cases hp : ids[i] with
    | dead => rw [hp] at hB; exact hB.elim
    | stale => rw [hp] at hB; exact hB.elim
    | virt => rw [hp] at hB; exact hB.elim
    | gho vs => rw [hp] at hB; exact hB.elim
    | lv p =>
     rw [hp] at hB
     obtain ⟨es, clock, f, h1, h2, h3, h4, h5, h6⟩ := hB
     exact ⟨es, clock, f, by rw [hk p hp]; exact h1, h2, h3, h4, fun i h => (h5 i h).mono hi hh, h6⟩
   | ghost cs =>
    rw [hm] at hB
    cases hp : ids[i] with
    | dead => rw [hp] at hB; exact hB.elim
    | stale => rw [hp] at hB; exact hB.elim
    | virt => rw [hp] at hB; exact hB.elim
    | lv p => rw [hp] at hB; exact hB.elim
    | gho vs =>
     rw [hp] at hB
     refine ⟨by simpa using hB.1, fun j hj hj' => ?_⟩
     rw [List.getElem_map]
     exact scr_rel hi hh hd d _ _ (hB.2 j (by simpa using hj) hj')
 ·intro i j p p2 x h1 h2 h3 h3'
  by_cases hib : i = b <;> by_cases hjb : j = b
  ·rw [hib, hjb]
  ·subst hib
   rw [List.getElem?_set_self hbi] at h1
   rw [List.getElem?_set_ne (fun e => hjb e.symm)] at h2
   have hqp := Option.some.inj h1
   have f2 := hs.freshX p2 (List.mem_of_getElem? h2) x h3'
   rcases (hq p hqp x h3).2 with h | ⟨p0, h4, h5⟩
   ·omega
   ·exact hs.distinctX i j p0 p2 x h4 h2 h5 h3'
  ·subst hjb
   rw [List.getElem?_set_self hbi] at h2
   rw [List.getElem?_set_ne (fun e => hib e.symm)] at h1
   have hqp := Option.some.inj h2
   have f2 := hs.freshX p (List.mem_of_getElem? h1) x h3
   rcases (hq p2 hqp x h3').2 with h | ⟨p0, h4, h5⟩
   ·omega
   ·exact hs.distinctX i j p p0 x h1 h4 h3 h5
  ·rw [List.getElem?_set_ne (fun e => hib e.symm)] at h1
   rw [List.getElem?_set_ne (fun e => hjb e.symm)] at h2
   exact hs.distinctX i j p p2 x h1 h2 h3 h3'
 ·intro p hp x hx
  rcases hmem p hp with hp | hp
  ·have := hs.freshX p hp x hx
   exact ⟨this.1, Nat.lt_of_lt_of_le this.2 hsz⟩
  ·refine ⟨?_, (hq p hp x hx).1⟩
   rcases (hq p hp x hx).2 with h | ⟨p0, h4, h5⟩
   ·exact .inl (Nat.le_trans hs.frame.size h)
   ·exact (hs.freshX p0 (List.mem_of_getElem? h4) x h5).1
 ·refine hs.frame.go hos htp hou hsz (fun k hk hm => ?_) hdr
  refine hbl k (Nat.lt_of_lt_of_le hk hs.frame.size) (fun p hp e => ?_)
  rcases (hs.freshX p (List.mem_of_getElem? hp) k e).1 with h | h
  ·omega
  ·exact hm h
 ·intro vs h
  rcases List.mem_or_eq_of_mem_set h with h | h
  ·exact hs.gho vs h
  ·exact absurd h.symm (hqg vs)
end
end Go.Proofs.Ytfhdmhoeopbhnaa.Am
namespace Go.Proofs.Ytfhdmhoeopbhnaa.Am
variable [Inhabited DRT]
open Go.RowKit (Below)

section
variable {P : Program}
theorem append_none {w : World} (t ty e : TypeId) (i : TypeInfo) (ht : P.underlying t = some (.slice e)) (hi : P.info? e = some i) (ad : Option Addr) (n cap : Nat) (hn : n ≤ cap) :
  (Builtin.append_ #[t, t] ty #[.slice ad n cap, .slice none 0 0]).run P w = .ok (.slice ad n cap) w := by
 cases ad <;> simp [Builtin.append_, run_underlying ht, sizeOf, typeInfo, hi, Builtin.lenOf, Builtin.firstCells, hn, storeCells]
theorem append_zero {w : World} (t ty e : TypeId) (i : TypeInfo) (ht : P.underlying t = some (.slice e)) (hi : P.info? e = some i) (a : Addr) (c : Nat) :
  (Builtin.append_ #[t, t] ty #[.slice none 0 0, .slice (some a) 0 c]).run P w = .ok (.slice none 0 0) w := by
 simp [Builtin.append_, run_underlying ht, sizeOf, typeInfo, hi, Builtin.lenOf, Builtin.firstCells, loadCells, loadCellsFrom]

/-- What an append leaves: nothing new; or a block of cells that begin with the old ones and the new ones: the old block, or a new one. -/
def AppOut (w : World) (v : Value) (e : TypeId) (size n m : Nat) (xs news : List Value) (v' : Value) (w' : World) : Prop :=
 w'.os = w.os ∧ w'.tape = w.tape ∧ w'.output = w.output ∧ w.heap.size ≤ w'.heap.size ∧ (∀ k, k < w.heap.size → v.ownBlock ≠ some k → w'.heap[k]? = w.heap[k]?) ∧ drLe w.drawn w'.drawn ∧
 ((v' = .slice none 0 0 ∧ n + m = 0) ∨
  ∃ g cap cur, v' = .slice (some ⟨g, 0, none⟩) (n + m) cap ∧ w'.heap[g]? = some (.cells cur e (0, 0)) ∧ n + m ≤ cap ∧ cap ≤ maxLen ∧ cur.size = cap * size ∧ cur.toList.take ((n + m) * size) = xs ++ news ∧
   g < w'.heap.size ∧ (w.heap.size ≤ g ∨ v.ownBlock = some g))

theorem append_out {w : World} (t ty e : TypeId) (i : TypeInfo) (z : Value) (ht : P.underlying t = some (.slice e)) (hi : P.info? e = some i) (hz : i.zero = some z) (hzs : z.cells.size = i.size)
  (v : Value) (n : Nat) (xs : List Value) (hv : (v = .slice none 0 0 ∧ n = 0 ∧ xs = []) ∨ ∃ g cap cur, v = .slice (some ⟨g, 0, none⟩) n cap ∧ w.heap[g]? = some (.cells cur e (0, 0)) ∧ n ≤ cap ∧ cap ≤ maxLen ∧ cur.size = cap * i.size ∧ cur.toList.take (n * i.size) = xs)
  (y : Value) (m : Nat) (news : List Value) (hy : (y = .slice none 0 0 ∧ m = 0 ∧ news = []) ∨ ∃ a c, y = .slice (some a) m c ∧ news.length = m * i.size ∧ (∀ j u, news[j]? = some u → w.cell? (a.add j) = some u)) (h1 : ∀ u ∈ news, u.oneCell' = true)
  (h63 : n + m ≤ 140737488355328) (hbytes : (n + m) * i.bytes ≤ 140737488355328) :
  ∃ v' w', (Builtin.append_ #[t, t] ty #[v, y]).run P w = .ok v' w' ∧ AppOut w v e i.size n m xs news v' w' := by
 have h63' : n + m ≤ maxLen := by simp only [maxLen]; omega
 have newb : ∀ (old : Nat) (v : Value), xs.length = n * i.size → news.length = m * i.size → AppOut w v e i.size n m xs news (.slice (some ⟨w.heap.size, 0, none⟩) (n + m) (grownCap w (n + m) old e))
   (w.drew.alloc (.cells (xs.toArray ++ news.toArray ++ Builtin.zeroCells z.cells (grownCap w (n + m) old e - (n + m))) e)) := by
  intro old v hx hnw
  have hge := grownCap_ge w (n + m) old e
  have hlen : (xs ++ news).length = (n + m) * i.size := by rw [List.length_append, hx, hnw, Nat.add_mul]
  refine ⟨rfl, rfl, rfl, by simp, fun k hk _ => Below.heap_alloc w.drew _ k hk, drLe.succ _, .inr ⟨w.heap.size, _, _, rfl, heap_alloc_new w.drew _, hge, grownCap_le_maxLen w (n + m) old e h63', ?_, ?_, by simp, .inl (Nat.le_refl _)⟩⟩
  ·simp only [Array.size_append, List.size_toArray, size_zeroCells, hzs, hx, hnw, ← Nat.add_mul]
   congr 1; omega
  ·simp only [Array.toList_append, List.append_assoc]
   rw [← List.append_assoc, ← hlen]
   exact List.take_left
 rcases hv with ⟨rfl, rfl, rfl⟩ | ⟨g, cap, cur, rfl, hg, hnc, hcm, hcs, htake⟩
 ·rcases hy with ⟨rfl, rfl, rfl⟩ | ⟨a, c, rfl, hl, hnews⟩
  ·exact ⟨_, _, append_none t ty e i ht hi none 0 0 (Nat.le_refl _), rfl, rfl, rfl, Nat.le_refl _, fun _ _ _ => rfl, drLe.refl _, .inl ⟨rfl, rfl⟩⟩
  ·by_cases hm : m = 0
   ·subst hm
    exact ⟨_, _, append_zero t ty e i ht hi a c, rfl, rfl, rfl, Nat.le_refl _, fun _ _ _ => rfl, drLe.refl _, .inl ⟨rfl, rfl⟩⟩
   ·have hr := run_append_nil (P := P) w t ty e i z ht hi hz a m c news hl hnews (by omega) (by omega) (by have hb := hbytes; simp only [Nat.zero_add] at hb; omega)
    have := newb 0 (.slice none 0 0) (by simp) hl
    simp only [Nat.zero_add, Array.empty_append] at this hr ⊢
    exact ⟨_, _, hr, this⟩
 ·have hxl : xs.length = n * i.size := by
   rw [← htake, List.length_take, Array.length_toList, hcs]
   exact Nat.min_eq_left (Nat.mul_le_mul_right _ hnc)
  have holds : ∀ j u, xs[j]? = some u → w.cell? ((⟨g, 0, none⟩ : Addr).add j) = some u := by
   intro j u hu
   have hadd : (⟨g, 0, none⟩ : Addr).add j = ⟨g, j, none⟩ := by unfold Addr.add; split <;> simp_all
   rw [hadd, cell_of_row w g j cur e (0, 0) hg]
   rw [← htake, List.getElem?_take] at hu
   split at hu
   ·simpa using hu
   ·cases hu
  rcases hy with ⟨rfl, rfl, rfl⟩ | ⟨a, c, rfl, hl, hnews⟩
  ·refine ⟨_, _, append_none t ty e i ht hi _ n cap hnc, rfl, rfl, rfl, Nat.le_refl _, fun _ _ _ => rfl, drLe.refl _, .inr ⟨g, cap, cur, rfl, hg, hnc, hcm, hcs, by simpa using htake, (Array.getElem?_eq_some_iff.1 hg).1, .inr rfl⟩⟩
  ·by_cases hroom : n + m ≤ cap
   ·have hfit : n * i.size + news.length ≤ cur.size := by rw [hl, hcs, ← Nat.add_mul]; exact Nat.mul_le_mul_right _ hroom
    have hr := run_append_room (P := P) w t ty e i ht hi g n cap cur hg a m c news hl hnews h1 hroom hfit
    refine ⟨_, _, hr, rfl, rfl, rfl, by simp, fun k _ hk => setRow_other w g k _ (fun e => hk (by simp [Value.ownBlock, e])), drLe.refl _, .inr ⟨g, cap, _, rfl, setRow_heap w g cur _ e _ hg, hroom, hcm, ?_, ?_, ?_, .inr rfl⟩⟩
    ·simp only [List.size_toArray, List.length_append, List.length_take, List.length_drop, Array.length_toList]
     omega
    ·have hlen : (xs ++ news).length = (n + m) * i.size := by rw [List.length_append, hxl, hl, Nat.add_mul]
     rw [htake, ← hlen]
     exact List.take_left
    ·have := (Array.getElem?_eq_some_iff.1 hg).1
     simpa [World.setRow] using this
   ·have hr := run_append_grow (P := P) w t ty e i z ht hi hz ⟨g, 0, none⟩ n cap xs hxl holds a m c news hl hnews (by omega) (by omega) (growslice_fits (by omega) hbytes)
    exact ⟨_, _, hr, newb cap _ hxl hl⟩
end
end Go.Proofs.Ytfhdmhoeopbhnaa.Am
namespace Go.Proofs.Ytfhdmhoeopbhnaa.Am
variable [Inhabited DRT]
open Go.RowKit (Below)

/-- The rows of what is appended. -/
def vrow (m : List Blk) (esz : Nat) (y : A) : Option (Nat × (Nat → List A)) :=
 match y with
 | .own b => match m.getD b .dead with
  | .row _ sz n row => match Nat.beq sz esz with
   | true => some (n, row)
   | false => none
  | _ => none
 | .sl n sz row => match Nat.beq sz esz with
  | true => some (n, row)
  | false => none
 | .nils => some (0, fun _ => [])
 | _ => none
def rowCat (n : Nat) (r1 r2 : Nat → List A) : Nat → List A := fun i => match Nat.blt i n with
 | true => r1 i
 | false => r2 (i - n)
def fbs : List Blk → (List Blk → Prop) → Prop
 | [], K => K []
 | x :: xs, K => match x with
  | .box ty cs => fd.fdl 3 cs fun cs' => fbs xs fun ys => K (.box ty cs' :: ys)
  | .row ty sz n r => fbs xs fun ys => K (.row ty sz n r :: ys)
  | .nest ty ety sz n ho le r => fbs xs fun ys => K (.nest ty ety sz n ho le r :: ys)
  | .mapb g n k v => fbs xs fun ys => K (.mapb g n k v :: ys)
  | .mapx g n k v => fbs xs fun ys => K (.mapx g n k v :: ys)
  | .ghost cs => fd.fdl 3 cs fun cs' => fbs xs fun ys => K (.ghost cs' :: ys)
  | .gone => fbs xs fun ys => K (.gone :: ys)
  | .dead => fbs xs fun ys => K (.dead :: ys)
theorem fbs_eq : ∀ (l : List Blk) (K : List Blk → Prop), fbs l K = K l
 | [], K => rfl
 | x :: xs, K => by cases x <;> simp only [fbs, fdl_eq, fbs_eq xs]
def sApp (tt : TT) (t : TypeId) (x y : A) (s : List A) (m : List Blk) (K : List A → A → List Blk → Prop) : Prop :=
 match tt.lookup t with
 | none => False
 | some ti => match ti.kind, vrow m ti.esz y with
  | 3, some (n2, row2) => match x with
   | .own b => match m.getD b .dead with
    | .row ty sz n row => match Nat.beq sz ti.esz, Nat.beq ty ti.ety with
     | true, true => fnat ti.ebytes fun eb => (n + n2 ≤ 140737488355328 ∧ (n + n2) * eb ≤ 140737488355328) ∧
      fd.fdl 4 (s.map (scr b 4)) fun s' => fbs ((m.map (scrB b 4)).set b (.row ty sz (n + n2) (rowCat n row row2))) fun m' => K s' (.own b) m'
     | _, _ => False
    | _ => False
   | .nils => fnat ti.ebytes fun eb => fnat ti.ety fun ety => fnat ti.esz fun esz => (n2 ≤ 140737488355328 ∧ n2 * eb ≤ 140737488355328) ∧ pushB m (.row ety esz n2 row2) fun b m' => K s (.own b) m'
   | _ => False
  | _, _ => False

section
variable {c : Ctx} {s : List A} {m : List Blk} {a : Act} {w w' : World} {ids ids' : Ids} {P : Program} {im im' : Nat → Prop} {tt : TT} {G : GInv}
variable {next : Act → World → Prop} {Q : Exit → Act → World → Prop} {o : Oper}

theorem getD_row {b : Nat} {ty : TypeId} {sz n : Nat} {row : Nat → List A} (h : m.getD b .dead = .row ty sz n row) : ∃ hb : b < m.length, m[b] = .row ty sz n row := by
 rcases Nat.lt_or_ge b m.length with hb | hb
 ·exact ⟨hb, by rw [List.getD_eq_getElem?_getD, List.getElem?_eq_getElem hb] at h; simpa using h⟩
 ·rw [List.getD_eq_getElem?_getD, List.getElem?_eq_none hb] at h; cases h

/-- Values that stand for rows. -/
def RowsV (im : Nat → Prop) (w : World) (n sz : Nat) (row : Nat → List A) (vs : List Value) : Prop :=
 vs.length = n * sz ∧ (∀ u ∈ vs, oneV u) ∧ (∀ i, i < n → (row i).length = sz) ∧ ∀ i j, i < n → ∀ (h : j < (row i).length) (h' : i * sz + j < vs.length), RelI im w (row i)[j] vs[i * sz + j]

theorem RowsV.nil (im : Nat → Prop) (w : World) (sz : Nat) (row : Nat → List A) : RowsV im w 0 sz row [] :=
 ⟨by simp, by simp, fun i h => by omega, fun i j h => by omega⟩

theorem RowsV.cat {n n2 sz : Nat} {r1 r2 : Nat → List A} {xs ys : List Value} (h1 : RowsV im w n sz r1 xs) (h2 : RowsV im w n2 sz r2 ys) : RowsV im w (n + n2) sz (rowCat n r1 r2) (xs ++ ys) := by
 obtain ⟨a1, a2, a3, a4⟩ := h1
 obtain ⟨b1, b2, b3, b4⟩ := h2
 have rc : ∀ i, i < n → rowCat n r1 r2 i = r1 i := fun i hi => by simp only [rowCat]; rw [show Nat.blt i n = true from Nat.ble_eq_true_of_le hi]
 have rc2 : ∀ i, ¬ i < n → rowCat n r1 r2 i = r2 (i - n) := fun i hi => by
  simp only [rowCat]
  have : Nat.blt i n = false := by
   cases h : Nat.blt i n with
   | false => rfl
   | true => exact absurd (Nat.le_of_ble_eq_true h) hi
  rw [this]
 refine ⟨by rw [List.length_append, a1, b1, Nat.add_mul], ?_, ?_, ?_⟩
 ·intro u hu
  rcases List.mem_append.1 hu with h | h
  ·exact a2 u h
  ·exact b2 u h
 ·intro i hi
  by_cases h : i < n
  ·rw [rc i h]; exact a3 i h
  ·rw [rc2 i h]; exact b3 _ (by omega)
 ·intro i j hi h h'
  by_cases hin : i < n
  ·have e := rc i hin
   have hl := a3 i hin
   have hj : j < (r1 i).length := by rw [e] at h; exact h
   have hlt : i * sz + j < n * sz := by
    have := Nat.mul_le_mul_right sz (show i + 1 ≤ n from hin)
    rw [Nat.add_mul] at this; omega
   rw [List.getElem_append_left (by omega)]
   have := a4 i j hin hj (by omega)
   simpa only [e] using this
  ·have e := rc2 i hin
   have hl := b3 (i - n) (by omega)
   have hj : j < (r2 (i - n)).length := by rw [e] at h; exact h
   have hge : n * sz ≤ i * sz + j := Nat.le_trans (Nat.mul_le_mul_right sz (by omega)) (Nat.le_add_right _ _)
   rw [List.getElem_append_right (by omega)]
   have e2 : i * sz + j - xs.length = (i - n) * sz + j := by
    rw [a1, Nat.sub_mul]
    have := Nat.mul_le_mul_right sz (show n ≤ i by omega)
    omega
   have := b4 (i - n) j (by omega) hj (by rw [← e2]; rw [List.length_append] at h'; omega)
   simpa only [e, e2] using this

theorem add_at (g o j : Nat) : (⟨g, o, none⟩ : Addr).add j = ⟨g, o + j, none⟩ := by unfold Addr.add; split <;> simp_all

theorem divmod {i j sz n k : Nat} (hk : k < n * sz) (hi : i = k / sz) (hj : j = k % sz) : i < n ∧ j < sz ∧ i * sz + j = k := by
 have hs : 0 < sz := by
  rcases Nat.eq_zero_or_pos sz with h | h
  ·subst h; omega
  ·exact h
 subst hi; subst hj
 refine ⟨(Nat.div_lt_iff_lt_mul hs).2 hk, Nat.mod_lt _ hs, ?_⟩
 have := Nat.div_add_mod k sz
 rw [Nat.mul_comm] at this; exact this

theorem BRel.rowsV {ty : TypeId} {sz n : Nat} {row : Nat → List A} {p : Id} (h : BRel ids im w (.row ty sz n row) (.lv p)) :
  ∃ cur : Array Value, p.sz = sz ∧ p.n = n ∧ w.heap[p.blk]? = some (.cells cur ty (0, 0)) ∧ cur.size = p.k ∧ n * sz ≤ p.k ∧ RowsV im w n sz row (cur.toList.take (n * sz)) := by
 obtain ⟨e1, e2, vs, g1, g2, g3, g4, g5⟩ := h
 have hl : (vs.toList.take (n * sz)).length = n * sz := by simp; omega
 refine ⟨vs, e1, e2, g1, g2, g3, hl, ?_, g4, ?_⟩
 ·intro u hu
  obtain ⟨k, hk, rfl⟩ := List.getElem_of_mem hu
  rw [hl] at hk
  obtain ⟨q1, q2, q3⟩ := divmod hk rfl rfl
  have hlt : k < vs.size := by omega
  have := (g5 (k / sz) (k % sz) q1 (by rw [g4 _ q1]; exact q2) (by rw [q3]; exact hlt)).2
  simp only [List.getElem_take, Array.getElem_toList]
  simpa only [q3] using this
 ·intro i j hi h h'
  rw [hl] at h'
  have := (g5 i j hi h (by omega)).1
  simpa using this

theorem vrow_sound (hs : Sim c s m a w ids) {esz n : Nat} {row : Nat → List A} {y : A} {v : Value} (h : vrow m esz y = some (n, row)) (hy : Rel ids (imOf c ids w) w y v) :
  ∃ news, RowsV (imOf c ids w) w n esz row news ∧ ((v = .slice none 0 0 ∧ n = 0 ∧ news = []) ∨ ∃ ad cp, v = .slice (some ad) n cp ∧ (∀ j u, news[j]? = some u → w.cell? (ad.add j) = some u)) := by
 unfold vrow at h
 split at h
 ·rename_i b
  split at h
  ·rename_i ty sz n' row' hb
   split at h
   ·rename_i he
    have he := Nat.eq_of_beq_eq_true he
    cases h
    subst he
    obtain ⟨hlt, hm⟩ := getD_row hb
    have hbi : b < ids.length := by rw [hs.mlen]; exact hlt
    have hB := hs.blks b hlt hbi
    rw [hm] at hB
    rcases hs.own_at hy (by rw [hb]; simp) with ⟨h1, rfl⟩ | ⟨p, cap, h1, h2, h3, rfl⟩
    ·have : ids[b] = .virt := by rw [List.getElem?_eq_getElem hbi] at h1; exact Option.some.inj h1
     rw [this] at hB
     have hB : n = 0 := hB
     subst hB
     exact ⟨[], RowsV.nil _ _ _ _, .inl ⟨rfl, rfl, rfl⟩⟩
    ·have : ids[b] = .lv p := by rw [List.getElem?_eq_getElem hbi] at h1; exact Option.some.inj h1
     rw [this] at hB
     obtain ⟨cur, e1, e2, g1, g2, g3, hR⟩ := hB.rowsV
     refine ⟨_, hR, .inr ⟨_, cap, by rw [e2], fun j u hu => ?_⟩⟩
     rw [add_at, Nat.zero_add, cell_of_row w p.blk j cur ty (0, 0) g1]
     rw [List.getElem?_take] at hu
     split at hu
     ·simpa using hu
     ·cases hu
   ·cases h
  ·cases h
 ·rename_i n' sz row'
  split at h
  ·rename_i he
   have he := Nat.eq_of_beq_eq_true he
   cases h
   subst he
   cases hy with
   | imm hy =>
    cases hy with
    | sl0 => exact ⟨[], RowsV.nil _ _ _ _, .inl ⟨rfl, rfl, rfl⟩⟩
    | sle _ _ ad cap => exact ⟨[], RowsV.nil _ _ _ _, .inr ⟨ad, cap, rfl, fun j u hu => by simp at hu⟩⟩
    | sl _ _ _ blk base cap vs hb hcap hl hc ho hr =>
     refine ⟨(List.range (n * sz)).map fun k => vs (k / sz) (k % sz), ⟨by simp, ?_, hl, ?_⟩, .inr ⟨_, cap, rfl, ?_⟩⟩
     ·intro u hu
      simp only [List.mem_map, List.mem_range] at hu
      obtain ⟨k, hk, rfl⟩ := hu
      obtain ⟨q1, q2, q3⟩ := divmod hk rfl rfl
      exact ho _ _ q1 q2
     ·intro i j hi hj h'
      have hjs : j < sz := by rw [← hl i hi]; exact hj
      have hs0 : 0 < sz := by omega
      have e1 : (i * sz + j) / sz = i := by rw [Nat.mul_comm, Nat.mul_add_div hs0, Nat.div_eq_of_lt hjs]; simp
      have e2 : (i * sz + j) % sz = j := by rw [Nat.mul_comm, Nat.mul_add_mod, Nat.mod_eq_of_lt hjs]
      simp only [List.getElem_map, List.getElem_range, e1, e2]
      exact hr i j hi hj
     ·intro k u hu
      rw [List.getElem?_map] at hu
      rcases Nat.lt_or_ge k (n * sz) with hk | hk
      ·rw [List.getElem?_eq_getElem (by simpa using hk)] at hu
       simp at hu
       obtain ⟨q1, q2, q3⟩ := divmod hk rfl rfl
       rw [add_at, ← hu, ← hc _ _ q1 q2, Nat.add_assoc, q3]
      ·rw [List.getElem?_eq_none (by simpa using hk)] at hu; cases hu
  ·cases h
 ·cases h
  exact ⟨[], RowsV.nil _ _ _ _, .inl ⟨hy.nils_inv, rfl, rfl⟩⟩
 ·cases h

theorem RowsV.mono {n sz : Nat} {row : Nat → List A} {vs : List Value} (h : RowsV im w n sz row vs) (hm : ∀ u v, RelI im w u v → RelI im' w' u v) : RowsV im' w' n sz row vs :=
 ⟨h.1, h.2.1, h.2.2.1, fun i j hi hj hj' => hm _ _ (h.2.2.2 i j hi hj hj')⟩

/-- A block whose first cells stand for rows. -/
theorem BRel.ofRowsV {ty : TypeId} {sz n cap : Nat} {row : Nat → List A} {g : Nat} {cur : Array Value} {vs : List Value} (hg : w.heap[g]? = some (.cells cur ty (0, 0))) (hcs : cur.size = cap * sz) (hn : n ≤ cap)
  (ht : cur.toList.take (n * sz) = vs) (hR : RowsV im w n sz row vs) : BRel ids im w (.row ty sz n row) (.lv (mkId g cur.size n sz)) := by
 have hle : n * sz ≤ cur.size := by rw [hcs]; exact Nat.mul_le_mul_right _ hn
 refine ⟨rfl, rfl, cur, hg, rfl, hle, hR.2.2.1, ?_⟩
 intro i j hi hj hj'
 have hlt : i * sz + j < n * sz := by
  have := Nat.mul_le_mul_right sz (show i + 1 ≤ n from hi)
  have := hR.2.2.1 i hi
  rw [Nat.add_mul] at *; omega
 have hvl := hR.1
 have e : vs[i * sz + j]'(by omega) = cur[i * sz + j] := by subst ht; simp
 refine ⟨by rw [← e]; exact hR.2.2.2 i j hi hj (by omega), ?_⟩
 rw [← e]; exact hR.2.1 _ (List.getElem_mem _)

theorem sApp_sound (htt : TTok P tt) (hs : Sim c s m a w ids) {t : TypeId} {X Y : Operand} (ho : o.op = .call { callee := .builtin .append, args := #[X, Y], argTypes := #[t, t] })
  {K : List A → A → List Blk → Prop} (h : sApp tt t (ev s X) (ev s Y) s m K)
  (hn : ∀ s1 v m' a' w' ids', K s1 v m' → Sim c (putD s1 o.dst v) m' a' w' ids' → next a' w') : o.wp P a w next Q := by
 have hx := hs.ev X
 have hy := hs.ev Y
 have e : (execOp a.eval o) = (do pure (.value (← Builtin.append_ #[t, t] o.type #[a.eval X, a.eval Y]))) := by
  obtain ⟨dst, op, ty, pos, after, guard⟩ := o
  simp only at ho; subst ho
  simp [execOp, resolve, invoke, builtin]
 unfold sApp at h
 split at h
 ·exact h.elim
 ·rename_i ti hti
  obtain ⟨i0, d, z0, _, hd, _, _, _, _, _, _, _, _, _, hk3, _⟩ := htt.facts hti
  split at h
  ·rename_i n2 row2 hk hv
   obtain ⟨ie, ze, hd', hie, hsz, hby, hz, hzs, hne⟩ := hk3 hk
   subst hd'
   obtain ⟨news, hR2, hyv⟩ := vrow_sound hs hv hy
   have hyv' : (a.eval Y = .slice none 0 0 ∧ n2 = 0 ∧ news = []) ∨ ∃ ad cp, a.eval Y = .slice (some ad) n2 cp ∧ news.length = n2 * ie.size ∧ (∀ j u, news[j]? = some u → w.cell? (ad.add j) = some u) := by
    rcases hyv with h | ⟨ad, cp, h1, h2⟩
    ·exact .inl h
    ·exact .inr ⟨ad, cp, h1, by rw [hsz]; exact hR2.1, h2⟩
   have hzs' : ze.cells.size = ie.size := by rw [hzs, hsz]
   split at h
   ·rename_i b hxv
    rw [hxv] at hx
    split at h
    ·rename_i ty sz n row hb
     split at h
     ·rename_i hb1 hb2
      have hb1 := Nat.eq_of_beq_eq_true hb1
      have hb2 := Nat.eq_of_beq_eq_true hb2
      subst hb1; subst hb2
      rw [fnat_eq] at h
      obtain ⟨⟨hc1, hc2⟩, h⟩ := h
      rw [fdl_eq, fbs_eq] at h
      obtain ⟨hlt, hm⟩ := getD_row hb
      have hbi : b < ids.length := by rw [hs.mlen]; exact hlt
      have hB := hs.blks b hlt hbi
      rw [hm] at hB
      have hxs : ∃ xs, RowsV (imOf c ids w) w n ti.esz row xs ∧ ((a.eval X = .slice none 0 0 ∧ n = 0 ∧ xs = []) ∨ ∃ g cap cur, a.eval X = .slice (some ⟨g, 0, none⟩) n cap ∧ w.heap[g]? = some (.cells cur ti.ety (0, 0)) ∧ n ≤ cap ∧ cap ≤ maxLen ∧ cur.size = cap * ie.size ∧ cur.toList.take (n * ie.size) = xs) ∧
        ((a.eval X).ownBlock = none ∨ ∃ p, ids[b]? = some (.lv p) ∧ (a.eval X).ownBlock = some p.blk) := by
       rcases hs.own_at hx (by rw [hb]; simp) with ⟨h1, h2⟩ | ⟨p, cap, h1, h2, h3, h4⟩
       ·have : ids[b] = .virt := by rw [List.getElem?_eq_getElem hbi] at h1; exact Option.some.inj h1
        rw [this] at hB
        have hB : n = 0 := hB
        subst hB
        exact ⟨[], RowsV.nil _ _ _ _, .inl ⟨h2, rfl, rfl⟩, .inl (by rw [h2]; rfl)⟩
       ·have : ids[b] = .lv p := by rw [List.getElem?_eq_getElem hbi] at h1; exact Option.some.inj h1
        rw [this] at hB
        obtain ⟨cur, e1, e2, g1, g2, g3, hR⟩ := hB.rowsV
        subst e2
        exact ⟨_, hR, .inr ⟨p.blk, cap, cur, h4, g1, h2.1, h2.2, by rw [g2, ← h3, e1, hsz], by rw [hsz]⟩, .inr ⟨p, h1, by rw [h4]; rfl⟩⟩
      obtain ⟨xs, hR1, hxv', hown⟩ := hxs
      obtain ⟨v', w', hrun, o1, o2, o3, o4, o5, odr, o6⟩ := append_out (P := P) (w := w) t o.type ti.ety ie ze hd hie hz hzs' (a.eval X) n xs hxv' (a.eval Y) n2 news hyv' hR2.2.1 hc1 (by rw [hby]; exact hc2)
      have hRR := hR1.cat hR2
      have hblk : ∀ k, k < w.heap.size → (∀ p, ids[b]? = some (.lv p) → ¬ p.has k) → w'.heap[k]? = w.heap[k]? := by
       intro k hk hp
       refine o5 k hk (fun e => ?_)
       rcases hown with h | ⟨p, h1, h2⟩
       ·rw [h] at e; cases e
       ·rw [h2] at e; exact hp p h1 (.inl (Option.some.inj e).symm)
      rcases o6 with ⟨rfl, hnil⟩ | ⟨g, cap, cur, rfl, q1, q2, q3, q4, q5, q6, q7⟩
      ·have hs' := hs.rebind (w' := w') b .virt (.row ti.ety ti.esz (n + n2) (rowCat n row row2)) 4 hlt o1 o2 o3 o4 hblk (fun _ h => by cases h) (fun p' h => by cases h) (fun _ => hnil) odr
       refine wp_of_run (by rw [e]; simp [hrun]) (hn _ _ _ _ _ _ h (hs'.putD o.dst (.own0 b ?_)))
       rw [List.getElem?_set_self hbi]
      ·rw [hsz] at q4 q5
       have hs' := hs.rebind (w' := w') b (.lv (mkId g cur.size (n + n2) ti.esz)) (.row ti.ety ti.esz (n + n2) (rowCat n row row2)) 4 hlt o1 o2 o3 o4 hblk (fun _ h => by cases h)
        (fun p' h x hx => by
         cases h
         have := mkId_has hx
         subst this
         refine ⟨q6, ?_⟩
         rcases q7 with h | h
         ·exact .inl h
         ·rcases hown with h' | ⟨p, h1, h2⟩
          ·rw [h'] at h; cases h
          ·rw [h2] at h; exact .inr ⟨p, h1, .inl (Option.some.inj h).symm⟩)
        (fun hm => BRel.ofRowsV q1 q4 q2 q5 (hRR.mono hm)) odr
       refine wp_of_run (by rw [e]; simp [hrun]) (hn _ _ _ _ _ _ h (hs'.putD o.dst (.own b cap (mkId g cur.size (n + n2) ti.esz) ?_ ⟨q2, q3⟩ q4.symm)))
       rw [List.getElem?_set_self hbi]
     ·exact h.elim
    ·exact h.elim
   ·rename_i hxv
    rw [hxv] at hx
    simp only [fnat_eq] at h
    obtain ⟨⟨hc1, hc2⟩, h⟩ := h
    rw [pushB_eq] at h
    obtain ⟨v', w', hrun, o1, o2, o3, o4, o5, odr, o6⟩ := append_out (P := P) (w := w) t o.type ti.ety ie ze hd hie hz hzs' (a.eval X) 0 [] (.inl ⟨hx.nils_inv, rfl, rfl⟩) (a.eval Y) n2 news hyv' hR2.2.1 (by omega) (by rw [hby]; simpa using hc2)
    have hbel : Bw w.heap.size w w' := ⟨o1, o2, o3, o4, fun k hk => o5 k hk (by rw [hx.nils_inv]; simp [Value.ownBlock]), odr⟩
    simp only [Nat.zero_add, List.nil_append] at o6
    have hmono : ∀ js : Ids, (∀ p, IdE.lv p ∈ js → ∀ x, p.has x → w.heap.size ≤ x) → ∀ u v, RelI (imOf c ids w) w u v → RelI (imOf c (ids ++ js) w') w' u v := by
     intro js hjs u v hu
     refine hu.mono ?_ (fun k hk => hbel.block k (imOf_lt hs hk))
     intro k hk
     rcases hk with hk | ⟨h1, h2, h3⟩
     ·exact .inl hk
     ·refine .inr ⟨h1, Nat.lt_of_lt_of_le h2 o4, fun p hp => ?_⟩
      rcases List.mem_append.1 hp with hp | hp
      ·exact h3 p hp
      ·intro hx; have := hjs p hp k hx; omega
    rcases o6 with ⟨rfl, hnil⟩ | ⟨g, cap, cur, rfl, q1, q2, q3, q4, q5, q6, q7⟩
    ·have hs' := hs.grow hbel [.row ti.ety ti.esz n2 row2] [.virt] rfl (fun i h1 h2 => by
       have : i = 0 := by simp at h1; omega
       subst this; exact hnil) (fun p h => by simp at h) (fun vs h => by simp at h) (fun i j p q x h1 => by
       cases i with
       | zero => simp at h1
       | succ i => simp at h1)
     refine wp_of_run (by rw [e]; simp [hrun]) (hn _ _ _ _ _ _ h (hs'.putD o.dst (.own0 m.length ?_)))
     rw [← hs.mlen]; simp
    ·rw [hsz] at q4 q5
     have hge : w.heap.size ≤ g := by
      rcases q7 with h | h
      ·exact h
      ·rw [hx.nils_inv] at h; simp [Value.ownBlock] at h
     have hs' := hs.grow hbel [.row ti.ety ti.esz n2 row2] [.lv (mkId g cur.size n2 ti.esz)] rfl (fun i h1 h2 => by
       have : i = 0 := by simp at h1; omega
       subst this
       exact BRel.ofRowsV q1 q4 q2 q5 (hR2.mono (hmono _ (fun p hp x hx => by simp at hp; subst hp; rw [mkId_has hx]; exact hge)))) (fun p h x hx => by simp at h; subst h; rw [mkId_has hx]; exact ⟨hge, q6⟩) (fun vs h => by simp at h) (fun i j p q x h1 h2 _ _ => by
       cases i with
       | zero => cases j with
        | zero => rfl
        | succ j => simp at h2
       | succ i => simp at h1)
     refine wp_of_run (by rw [e]; simp [hrun]) (hn _ _ _ _ _ _ h (hs'.putD o.dst (.own m.length cap (mkId g cur.size n2 ti.esz) ?_ ⟨q2, q3⟩ q4.symm)))
     rw [← hs.mlen]; simp
   ·exact h.elim
  ·exact h.elim
end
end Go.Proofs.Ytfhdmhoeopbhnaa.Am
namespace Go.Proofs.Ytfhdmhoeopbhnaa.Am
variable [Inhabited DRT]
open Go.RowKit (Below)

def zer (z : List A) : Nat → List A
 | 0 => []
 | n + 1 => z ++ zer z n
theorem zer_len (z : List A) : ∀ n, (zer z n).length = n * z.length
 | 0 => by simp [zer]
 | n + 1 => by simp [zer, zer_len z n, Nat.add_mul]; omega
theorem zer_get (z : List A) : ∀ (n k : Nat) (h : k < (zer z n).length) (h' : k % z.length < z.length), (zer z n)[k] = z[k % z.length]
 | 0, k, h, _ => by simp [zer] at h
 | n + 1, k, h, h' => by
  simp only [zer]
  by_cases hk : k < z.length
  ·rw [List.getElem_append_left hk]; simp [Nat.mod_eq_of_lt hk]
  ·rw [List.getElem_append_right (by omega)]
   have e : (k - z.length) % z.length = k % z.length := (Nat.mod_eq_sub_mod (by omega)).symm
   rw [zer_get z n (k - z.length) (by simp [zer] at h; omega) (by rw [e]; exact h')]
   simp only [e]

def sMake (tt : TT) (t : TypeId) (l k : A) (m : List Blk) (K : KT) : Prop :=
 match tt.lookup t, l, k with
 | some ti, .int _ l, .int _ k => match ti.kind, tt.lookup ti.ety with
  | 3, some te => fnat ti.ebytes fun eb => fnat ti.ety fun ety => fnat ti.esz fun esz => fl te.zero fun z => (0 ≤ l ∧ l ≤ k ∧ k ≤ 140737488355328 ∧ k * (eb : Int) ≤ 140737488355328) ∧ pushB m (.row ety esz l.toNat fun _ => z) fun b m' => K (.own b) m'
  | _, _ => False
 | _, _, _ => False
def sBuildSl (tt : TT) (t : TypeId) (len : Nat) (parts : List (Nat × A)) (m : List Blk) (K : KT) : Prop :=
 match tt.lookup t with
 | none => False
 | some ti => match ti.kind, tt.lookup ti.ety, Nat.ble (len * ti.esz) 1000000 with
  | 3, some te, true => bldF ti parts (zer te.zero len) fun cs => match cs.any (hasOwn 4), Nat.beq cs.length (len * ti.esz) with
   | false, true => fnat ti.ety fun ety => fnat ti.esz fun esz => pushB m (.row ety esz len fun i => takeL esz (cs.drop (i * esz))) fun b m' => K (.own b) m'
   | _, _ => False
  | _, _, _ => False
/-- A slice of a row of ours: the row itself, shorter. -/
def sOwnSl (tt : TT) (t : TypeId) (b : Nat) (lo hi : Option A) (s : List A) (m : List Blk) (K : List A → A → List Blk → Prop) : Prop :=
 match tt.lookup t, lo with
 | some ti, none => match ti.kind, m.getD b .dead with
  | 3, .row ty sz n row => bnd hi n n fun h =>
   fd.fdl 4 (s.map (scr b 4)) fun s' => fbs ((m.map (scrB b 4)).set b (.row ty sz h row)) fun m' => K s' (.own b) m'
  | _, _ => False
 | _, _ => False
/-- An operation that may strike names. -/
def stepS (P : Program) (G : GInv) (tt : TT) (o : Oper) (s : List A) (m : List Blk) (K : List A → A → List Blk → Prop) : Prop :=
 match o.op with
 | .call { callee := .builtin .append, args, argTypes } => match args.toList, argTypes.toList with
  | [x, y], [t, t'] => match Nat.beq t' t with
   | true => sApp tt t (ev s x) (ev s y) s m K
   | false => False
  | _, _ => False
 | .makeSlice t l k => sMake tt t (ev s l) (ev s k) m (K s)
 | .buildSlice t len ps => sBuildSl tt t len (ps.toList.map fun p => (p.1, ev s p.2)) m (K s)
 | .slice t x lo hi mx => match mx, ev s x with
  | none, .own b => sOwnSl tt t b (evO s lo) (evO s hi) s m K
  | _, _ => step P G tt o s m (K s)
 | _ => step P G tt o s m (K s)

section
variable {c : Ctx} {s : List A} {m : List Blk} {a : Act} {w w' : World} {ids ids' : Ids} {P : Program} {im im' : Nat → Prop} {tt : TT} {G : GInv}
variable {next : Act → World → Prop} {Q : Exit → Act → World → Prop} {o : Oper}

theorem RowsV_made {z : Array Value} {sz n N : Nat} (hz : z.size = sz) (hn : n ≤ N) (hone : ∀ v ∈ z.toList, v.oneCell' = true) :
  RowsV im w n sz (fun _ => z.toList.map ofConst) ((madeCells z (N * sz)).toList.take (n * sz)) := by
 have hle : n * sz ≤ N * sz := Nat.mul_le_mul_right _ hn
 have hl : ((madeCells z (N * sz)).toList.take (n * sz)).length = n * sz := by rw [List.length_take, Array.length_toList, size_madeCells]; exact Nat.min_eq_left hle
 have hat : ∀ k (h : k < ((madeCells z (N * sz)).toList.take (n * sz)).length) (h' : k % sz < z.toList.length), ((madeCells z (N * sz)).toList.take (n * sz))[k] = z.toList[k % sz] := by
  intro k h h'
  simp [madeCells, hz]
  rw [getElem!_pos z (k % sz) (by simpa using h')]
 refine ⟨hl, ?_, fun i _ => by simp [hz], ?_⟩
 ·intro u hu
  obtain ⟨k, hk, rfl⟩ := List.getElem_of_mem hu
  have hk2 := hk
  rw [hl] at hk2
  obtain ⟨q1, q2, q3⟩ := divmod hk2 rfl rfl
  rw [hat k hk (by simpa [hz] using q2)]
  exact hone _ (List.getElem_mem _)
 ·intro i j hi hj h'
  have hjs : j < sz := by simpa [hz] using hj
  have e2 : (i * sz + j) % sz = j := by rw [Nat.mul_comm, Nat.mul_add_mod, Nat.mod_eq_of_lt hjs]
  rw [hat _ h' (by rw [e2]; simpa [hz] using hjs)]
  simp only [e2, List.getElem_map]
  exact ofConst_rel _ _ _

theorem sMake_sound (htt : TTok P tt) (hs : Sim c s m a w ids) {t : TypeId} {L C : Operand} (ho : o.op = .makeSlice t L C) {K : KT} (h : sMake tt t (ev s L) (ev s C) m K) (hn : NextOk c s o K next) : o.wp P a w next Q := by
 have hl := hs.ev L
 have hc := hs.ev C
 unfold sMake at h
 split at h
 ·rename_i ti k1 l k2 k hti hL hC
  rw [hL] at hl; rw [hC] at hc
  obtain ⟨i0, d, z0, _, hd, _, _, _, _, _, _, _, _, _, hk3, _⟩ := htt.facts hti
  split at h
  ·rename_i te hk hte
   obtain ⟨ie, ze, hd', hie, hsz, hby, hz, hzs, hne⟩ := hk3 hk
   subst hd'
   obtain ⟨i1, d1, z1, hi1, _, hz1, _, hone, _, hzero, _⟩ := htt.facts hte
   have e1 : i1 = ie := by rw [hie] at hi1; exact (Option.some.inj hi1).symm
   subst e1
   have e2 : z1 = ze := by rw [hz] at hz1; exact (Option.some.inj hz1).symm
   subst e2
   simp only [fnat_eq, fl_eq] at h
   obtain ⟨⟨c1, c2, c3, c4⟩, h⟩ := h
   rw [pushB_eq] at h
   have hrun := run_make (P := P) w t ti.ety i1 z1 hd hie hz k1 k2 l k c1 c2 (by rw [hby, Int.mul_comm]; omega) (by omega)
   refine wp_new hs hn (.row ti.ety ti.esz l.toNat fun _ => te.zero) (madeCells z1.cells (k.toNat * i1.size)) ti.ety l.toNat ti.esz (v := .slice (some ⟨w.heap.size, 0, none⟩) l.toNat k.toNat) ?_ h ?_ ?_
   ·unfold execOp; rw [ho]; simp only [hl.int_inv, hc.int_inv, Sem.run_bind, hrun]; rfl
   ·intro ids' im' w' g1 g2 g3 g4
    rw [hsz] at g4 ⊢
    refine BRel.ofRowsV (cap := k.toNat) g4 (by simp [size_madeCells]) (by omega) rfl ?_
    rw [hzero]
    exact RowsV_made hzs (by omega) hone
   ·intro ids' im' w' g
    refine .own _ k.toNat _ g ⟨by show l.toNat ≤ k.toNat; omega, by simp only [maxLen]; omega⟩ ?_
    simp [size_madeCells, hsz]
  ·exact h.elim
 ·exact h.elim

/-- A slice literal: the new block, and what it stands for. -/
theorem bsl_run (htt : TTok P tt) (hs : Sim c s m a w ids) {t : TypeId} {len : Nat} {ps : Array (Nat × Operand)} {ti te : TI} (hti : tt.lookup t = some ti) (hk : ti.kind = 3) (hte : tt.lookup ti.ety = some te) (hble : len * ti.esz ≤ 1000000)
  {K : List A → Prop} (h : bldF ti (ps.toList.map fun p => (p.1, ev s p.2)) (zer te.zero len) K) :
  ∃ cs' vs', K cs' ∧ (cs'.any (hasOwn 4) = false → cs'.length = len * ti.esz →
   (Instr.buildSlice t len (ps.map fun p => (p.1, a.eval p.2))).run P w = .ok (.slice (some ⟨w.heap.size, 0, none⟩) len len) (w.alloc (.cells vs' ti.ety)) ∧ vs'.size = len * ti.esz ∧ len ≤ maxLen ∧
   ∀ ids' im' w', (∀ b, imOf c ids w b → im' b) → (∀ b, imOf c ids w b → w'.heap[b]? = w.heap[b]?) → (∀ (b : Nat) p, ids[b]? = some p → p ≠ .dead → ids'[b]? = some p) →
    w'.heap[w.heap.size]? = some (.cells vs' ti.ety (0, 0)) → BRel ids' im' w' (.row ti.ety ti.esz len fun i => takeL ti.esz (cs'.drop (i * ti.esz))) (.lv (mkId w.heap.size vs'.size len ti.esz))) := by
 have hp := parts_rel hs ps.toList
 obtain ⟨i0, d, z0, _, hd, _, _, _, _, _, _, _, _, _, hk3, _⟩ := htt.facts hti
 obtain ⟨ie, ze, hd', hie, hsz, hby, hz, hzs, hne⟩ := hk3 hk
 subst hd'
 obtain ⟨i1, d1, z1, hi1, _, hz1, _, hone, _, hzero, _⟩ := htt.facts hte
 have e1 : i1 = ie := by rw [hie] at hi1; exact (Option.some.inj hi1).symm
 subst e1
 have e2 : z1 = ze := by rw [hz] at hz1; exact (Option.some.inj hz1).symm
 subst e2
 have hzl : te.zero.length = ti.esz := by rw [hzero]; simp [hzs]
 have hM := RowsV_made (im := imOf c ids w) (w := w) (n := len) (N := len) hzs (Nat.le_refl _) hone
 have hml : (madeCells z1.cells (len * ti.esz)).toList.length = len * ti.esz := by simp [size_madeCells]
 rw [List.take_of_length_le (by omega)] at hM
 obtain ⟨cs', vs', f1, f2, f3, f4, f5⟩ := bldF_sound (ti := ti) (ids := ids) (im := imOf c ids w) (w := w) _ _ (zer te.zero len) (madeCells z1.cells (len * ti.esz)).toList _ hp (by rw [hml, zer_len, hzl])
  hM.2.1 (fun j h1 h2 => by
   rw [hml] at h2
   obtain ⟨q1, q2, q3⟩ := divmod h2 rfl rfl
   have := hM.2.2.2 (j / ti.esz) (j % ti.esz) q1 (by simp [hzs]; exact q2) (by rw [q3, hml]; exact h2)
   rw [zer_get _ _ _ h1 (by rw [hzl]; exact q2)]
   simp only [hzl, q3] at this ⊢
   have e : te.zero[j % ti.esz]'(by rw [hzl]; exact q2) = (z1.cells.toList.map ofConst)[j % ti.esz]'(by simp [hzs]; exact q2) := by simp only [hzero]
   rw [e]; exact .imm this) h
 refine ⟨cs', vs'.toArray, f2, fun hown hlen => ?_⟩
 have hvl : vs'.length = len * ti.esz := by rw [f3, hlen]
 have hfill : ∀ zero : Array Value, (len * ti.esz = 0 ∨ zero = z1.cells) → (Array.range (len * ti.esz)).map (zero[· % zero.size]!) = madeCells z1.cells (len * ti.esz) := by
  intro zero h
  rcases h with h | h
  ·rw [h]; simp [madeCells]
  ·rw [h]; rfl
 have hpl : (fun i => some (i * ti.esz, ti.esz)) = placeOf ti := by
  funext x; unfold placeOf; rw [hk]; rfl
 have hrun : (Instr.buildSlice t len (ps.map fun p => (p.1, a.eval p.2))).run P w = .ok (.slice (some ⟨w.heap.size, 0, none⟩) len len) (w.alloc (.cells vs'.toArray ti.ety)) := by
  have hf : Instr.fill (placeOf ti) (madeCells z1.cells (len * ti.esz)) (ps.toList.map fun p => (p.1, a.eval p.2)) = some vs'.toArray := by simpa using f1
  have hle : ¬ 16777216 < len * ti.esz := by omega
  by_cases h0 : len * ti.esz = 0
  ·have := hfill #[] (.inl h0)
   rw [← this] at hf
   simp [Instr.buildSlice, underlying, hd, sizeOf, typeInfo, hie, hsz, h0, hpl, newRow]
   rw [h0] at hf
   simp at hf
   simp [hf]
  ·have := hfill z1.cells (.inr rfl)
   rw [← this] at hf
   simp [Instr.buildSlice, underlying, hd, sizeOf, typeInfo, hie, hsz, hle, h0, hpl, newRow, zeroValue, hz]
   simp [hf]
 refine ⟨hrun, by simpa using hvl, ?_, ?_⟩
 ·have : len ≤ len * ti.esz := Nat.le_mul_of_pos_right _ (Nat.pos_of_ne_zero hne)
  simp only [maxLen]; omega
 ·intro ids' im' w' g1 g2 g3 g4
  refine BRel.ofRowsV (cap := len) (vs := vs') g4 (by simpa using hvl) (Nat.le_refl _) (by rw [← hvl]; simp) ⟨hvl, f4, ?_, ?_⟩
  ·intro i hi
   simp only [takeL_eq]
   simp
   have := Nat.mul_le_mul_right ti.esz (show i + 1 ≤ len from hi)
   rw [Nat.add_mul] at this; omega
  ·intro i j hi hj h'
   have hc : i * ti.esz + j < cs'.length := by omega
   have e : (takeL ti.esz (cs'.drop (i * ti.esz)))[j] = cs'[i * ti.esz + j] := by simp [takeL_eq]
   rw [e]
   refine (hasOwn_rel 4 _ _ ?_ (f5 _ hc h')).mono g1 g2
   have := List.any_eq_false.1 hown _ (List.getElem_mem hc)
   simpa using this

theorem sBuildSl_sound (htt : TTok P tt) (hs : Sim c s m a w ids) {t : TypeId} {len : Nat} {ps : Array (Nat × Operand)} (ho : o.op = .buildSlice t len ps) {K : KT}
  (h : sBuildSl tt t len (ps.toList.map fun p => (p.1, ev s p.2)) m K) (hn : NextOk c s o K next) : o.wp P a w next Q := by
 unfold sBuildSl at h
 split at h
 ·exact h.elim
 ·rename_i ti hti
  split at h
  ·rename_i te hk hte hble
   obtain ⟨cs', vs', f2, hrest⟩ := bsl_run (P := P) htt hs hti hk hte (Nat.le_of_ble_eq_true hble) h
   split at f2
   ·rename_i hown hlen
    rw [fnat_eq, fnat_eq, pushB_eq] at f2
    obtain ⟨hrun, hvl, hmx, hB⟩ := hrest hown (Nat.eq_of_beq_eq_true hlen)
    refine wp_new hs hn _ vs' ti.ety len ti.esz (v := .slice (some ⟨w.heap.size, 0, none⟩) len len) ?_ f2 hB ?_
    ·unfold execOp; rw [ho]; simp only [Sem.run_bind, hrun]; rfl
    ·intro ids' im' w' g
     exact .own _ len _ g ⟨Nat.le_refl _, hmx⟩ hvl.symm
   ·exact f2.elim
  ·exact h.elim

theorem sOwnSl_sound (htt : TTok P tt) (hs : Sim c s m a w ids) {t : TypeId} {X : Operand} {lo hi : Option Operand} {b : Nat} (ho : o.op = .slice t X lo hi none) (hX : ev s X = .own b)
  {K : List A → A → List Blk → Prop} (h : sOwnSl tt t b (evO s lo) (evO s hi) s m K)
  (hn : ∀ s1 v m' a' w' ids', K s1 v m' → Sim c (putD s1 o.dst v) m' a' w' ids' → next a' w') : o.wp P a w next Q := by
 have hx := hs.ev X
 rw [hX] at hx
 have e : execOp a.eval o = (do let z ← Instr.sliceAt t (a.eval X) (lo.map a.eval) (hi.map a.eval) none; pure (.value z)) := by unfold execOp; rw [ho]; rfl
 unfold sOwnSl at h
 split at h
 ·rename_i ti hti hlo
  have hlo : lo = none := by cases lo with | none => rfl | some => simp [evO] at hlo
  subst hlo
  obtain ⟨i0, d, z0, _, hd, _, _, _, _, _, _, _, _, _, hk3, _⟩ := htt.facts hti
  split at h
  ·rename_i ty sz n row hk hb
   obtain ⟨ie, ze, hd', hie, hsz, hby, hz, hzs, hne⟩ := hk3 hk
   subst hd'
   have hun : P.underlying t = some (.slice (P.elem t)) := by
    have : P.elem t = ti.ety := by simp [Program.elem, hd]
    rw [this]; exact hd
   have hel : P.elem t = ti.ety := by simp [Program.elem, hd]
   obtain ⟨hlt, hm⟩ := getD_row hb
   have hbi : b < ids.length := by rw [hs.mlen]; exact hlt
   have hB := hs.blks b hlt hbi
   rw [hm] at hB
   rcases hs.own_at hx (by rw [hb]; simp) with ⟨h1, h2⟩ | ⟨p, cap, h1, h2, h3, h4⟩
   ·have : ids[b] = .virt := by rw [List.getElem?_eq_getElem hbi] at h1; exact Option.some.inj h1
    rw [this] at hB
    have hB : n = 0 := hB
    subst hB
    obtain ⟨hb', h, b1, b2, b3⟩ := bnd_run hs h (Nat.le_refl _)
    rw [fdl_eq, fbs_eq] at h
    have h0 : hb' = 0 := by
     cases hi with
     | none => exact b1 rfl
     | some L => have := b2 rfl; omega
    subst h0
    have hs' := hs.rebind (w' := w) b .virt (.row ty sz 0 row) 4 hlt rfl rfl rfl (Nat.le_refl _) (fun _ _ _ => rfl) (fun _ h => by cases h) (fun p' h => by cases h) (fun _ => rfl)
    refine wp_of_run ?_ (hn _ _ _ _ _ _ h (hs'.putD o.dst (v := .slice none 0 0) (.own0 b ?_)))
    ·rw [e, h2, Sem.run_bind, run_sliceAt_slice _ _ _ _ _ _ hun, run_slice_any _ _ _ _ _ hun]
     have := bounds_run (P := P) (w := w) (a := a) (isS := true) (len := 0) (cap := 0) (lo := none) b1 (fun _ => rfl) b3 (fun X h => by cases h)
     simp only [Option.map_none] at this
     simp [this, hel, sizeOf, typeInfo, hie, hsz, sliced]
    ·rw [List.getElem?_set_self hbi]
   ·have : ids[b] = .lv p := by rw [List.getElem?_eq_getElem hbi] at h1; exact Option.some.inj h1
    rw [this] at hB
    obtain ⟨hb', h, b1, b2, b3⟩ := bnd_run hs h (show n ≤ cap by have := hB.2.1; omega)
    rw [fdl_eq, fbs_eq] at h
    obtain ⟨e1, e2, vs, g1, g2, g3, g4, g5⟩ := hB
    have hle : hb' ≤ n := by
     cases hi with
     | none => have := b1 rfl; omega
     | some L => exact b2 rfl
    have hs' := hs.rebind (w' := w) b (.lv (mkId p.blk p.k hb' p.sz)) (.row ty sz hb' row) 4 hlt rfl rfl rfl (Nat.le_refl _) (fun _ _ _ => rfl) (fun _ h => by cases h)
     (fun p' h x hx => by cases h; rw [mkId_has hx]; exact ⟨(hs.fresh p (List.mem_of_getElem? h1)).2, .inr ⟨p, h1, .inl rfl⟩⟩)
     (fun hmm => ⟨e1, rfl, vs, g1, g2, Nat.le_trans (Nat.mul_le_mul_right _ hle) g3, fun i hi => g4 i (by omega), fun i j hi h h' => ⟨hmm _ _ (g5 i j (by omega) h h').1, (g5 i j (by omega) h h').2⟩⟩)
    refine wp_of_run ?_ (hn _ _ _ _ _ _ h (hs'.putD o.dst (v := .slice (some ⟨p.blk, 0, none⟩) hb' cap) (.own b cap (mkId p.blk p.k hb' p.sz) ?_ ⟨by show hb' ≤ cap; omega, h2.2⟩ h3)))
    ·rw [e, h4, Sem.run_bind, run_sliceAt_slice _ _ _ _ _ _ hun, run_slice_any _ _ _ _ _ hun, e2]
     have := bounds_run (P := P) (w := w) (a := a) (isS := true) (len := n) (cap := cap) (lo := none) b1 (fun _ => rfl) b3 (fun X h => by cases h)
     simp only [Option.map_none] at this
     have e3 : (⟨p.blk, 0, none⟩ : Addr).add 0 = ⟨p.blk, 0, none⟩ := rfl
     simp [this, hel, sizeOf, typeInfo, hie, hsz, sliced, e3]
    ·rw [List.getElem?_set_self hbi]
  ·exact h.elim
 ·exact h.elim

theorem stepS_sound (htt : TTok P tt) (hG : G.ok c) (hs : Sim c s m a w ids) {K : List A → A → List Blk → Prop} (h : stepS P G tt o s m K)
  (hn : ∀ s1 v m' a' w' ids', K s1 v m' → Sim c (putD s1 o.dst v) m' a' w' ids' → next a' w') : o.wp P a w next Q := by
 unfold stepS at h
 split at h
 ·rename_i args ts ho
  split at h
  ·rename_i x y t t' hx ht
   split at h
   ·rename_i hb
    have hb := Nat.eq_of_beq_eq_true hb
    subst hb
    have e1 : args = #[x, y] := by apply Array.ext'; simpa using hx
    have e2 : ts = #[t', t'] := by apply Array.ext'; simpa using ht
    rw [e1, e2] at ho
    exact sApp_sound htt hs ho h hn
   ·exact h.elim
  ·exact h.elim
 ·rename_i ho; exact sMake_sound htt hs ho h (fun v m' a' w' ids' => hn s v m' a' w' ids')
 ·rename_i ho; exact sBuildSl_sound htt hs ho h (fun v m' a' w' ids' => hn s v m' a' w' ids')
 ·rename_i ho
  split at h
  ·rename_i hX; exact sOwnSl_sound htt hs ho hX h hn
  ·exact step_sound htt hG hs h (fun v m' a' w' ids' => hn s v m' a' w' ids')
 ·exact step_sound htt hG hs h (fun v m' a' w' ids' => hn s v m' a' w' ids')
end
end Go.Proofs.Ytfhdmhoeopbhnaa.Am
namespace Go.Proofs.Ytfhdmhoeopbhnaa.Am
variable [Inhabited DRT]
open Go.RowKit (Below)

/-! ### Names that are changed, a world that is changed in what is ours alone -/
def Id.like (p q : Id) : Prop := q.blk = p.blk ∧ q.k = p.k ∧ q.n = p.n ∧ q.sz = p.sz ∧ ∀ n k, p.hist n = some k → q.hist n = some k
def Id.like0 (p q : Id) : Prop := q.blk = p.blk ∧ q.k = p.k ∧ q.n = p.n ∧ q.sz = p.sz
theorem Id.like_rfl (p : Id) : p.like p := ⟨rfl, rfl, rfl, rfl, fun _ _ h => h⟩
def likeE : IdE → IdE → Prop
 | .dead, _ => True
 | .virt, q => q = .virt
 | .stale, q => q = .stale
 | .lv p, q => ∃ p', q = .lv p' ∧ p.like p'
 | .gho vs, q => q = .gho vs
/-- As above, of names that no entry leans on. -/
def likeE0 : IdE → IdE → Prop
 | .dead, _ => True
 | .virt, q => q = .virt
 | .stale, q => q = .stale
 | .lv p, q => ∃ p', q = .lv p' ∧ p.like0 p'
 | .gho vs, q => q = .gho vs
theorem likeE0_rfl (p : IdE) : likeE0 p p := by
 cases p with
 | dead => trivial
 | stale => trivial
 | virt => rfl
 | lv p => exact ⟨p, rfl, rfl, rfl, rfl, rfl⟩
 | gho vs => rfl
theorem likeE_rfl (p : IdE) : likeE p p := by
 cases p with
 | dead => trivial
 | stale => trivial
 | virt => rfl
 | lv p => exact ⟨p, rfl, p.like_rfl⟩
 | gho vs => rfl

section
variable {c : Ctx} {s : List A} {m : List Blk} {a : Act} {w w' : World} {ids ids' : Ids} {P : Program} {im im' : Nat → Prop} {tt : TT} {G : GInv}
variable {next : Act → World → Prop} {Q : Exit → Act → World → Prop} {o : Oper}

theorem Rel.reid (hi : ∀ b, im b → im' b) (hw : ∀ b, im b → w'.heap[b]? = w.heap[b]?) (hd : ∀ (b : Nat) p, ids[b]? = some p → p ≠ .dead → ∃ q, ids'[b]? = some q ∧ likeE p q)
  {x : A} {v : Value} (h : Rel ids im w x v) : Rel ids' im' w' x v := by
 induction h with
 | imm h => exact .imm (h.mono hi hw)
 | ref b off p h =>
  obtain ⟨q, h1, p', rfl, h2⟩ := hd _ _ h (by simp)
  rw [← h2.1]; exact .ref b off p' h1
 | oref b i off p h =>
  obtain ⟨q, h1, p', rfl, h2⟩ := hd _ _ h (by simp)
  rw [← h2.1, ← h2.2.2.2.1]; exact .oref b i off p' h1
 | ownS b x n cap h =>
  obtain ⟨q, h1, h2⟩ := hd _ _ h (by simp)
  have h2 : q = .stale := h2
  subst h2
  exact .ownS b x n cap h1
 | refS b off x y h =>
  obtain ⟨q, h1, h2⟩ := hd _ _ h (by simp)
  have h2 : q = .stale := h2
  subst h2
  exact .refS b off x y h1
 | orefS b i off x y h =>
  obtain ⟨q, h1, h2⟩ := hd _ _ h (by simp)
  have h2 : q = .stale := h2
  subst h2
  exact .orefS b i off x y h1
 | omapS b x h =>
  obtain ⟨q, h1, h2⟩ := hd _ _ h (by simp)
  have h2 : q = .stale := h2
  subst h2
  exact .omapS b x h1
 | own0 b h =>
  obtain ⟨q, h1, h2⟩ := hd _ _ h (by simp)
  have h2 : q = .virt := h2
  subst h2
  exact .own0 b h1
 | own b cap p h hn hm =>
  obtain ⟨q, h1, p', rfl, h2⟩ := hd _ _ h (by simp)
  rw [← h2.1, ← h2.2.2.1]
  exact .own b cap p' h1 (by rw [h2.2.2.1]; exact hn) (by rw [h2.2.1, h2.2.2.2.1]; exact hm)
 | omap b p h =>
  obtain ⟨q, h1, p', rfl, h2⟩ := hd _ _ h (by simp)
  rw [← h2.1]; exact .omap b p' h1
 | ent b k p n h hn =>
  obtain ⟨q, h1, p', rfl, h2⟩ := hd _ _ h (by simp)
  exact .ent b k p' n h1 (h2.2.2.2.2 _ _ hn)
 | entS b k n h =>
  obtain ⟨q, h1, h2⟩ := hd _ _ h (by simp)
  have h2 : q = .stale := h2
  subst h2
  exact .entS b k n h1
 | agg cs vs hl ho hr ih => exact .agg cs vs hl ho ih
 | tup cs vs hl hr ih => exact .tup cs vs hl ih
 | fn f cs vs hl hr ih => exact .fn f cs vs hl ih

theorem scr_reid {b : Nat} (hi : ∀ b, im b → im' b) (hw : ∀ b, im b → w'.heap[b]? = w.heap[b]?) (hd : ∀ (b' : Nat) p, b' ≠ b → ids[b']? = some p → p ≠ .dead → ∃ q, ids'[b']? = some q ∧ likeE p q)
  (d : Nat) (x : A) (v : Value) (h : Rel ids im w x v) : Rel ids' im' w' (scr b d x) v := by
 have h1 : Rel (ids.set b .dead) im w (scr b d x) v := scr_rel (fun _ h => h) (fun _ _ => rfl) (fun b' p hne h => by rw [List.getElem?_set_ne (fun e => hne e.symm)]; exact h) d x v h
 refine h1.reid hi hw ?_
 intro b' p hp hnd
 by_cases hb : b' = b
 ·subst hb
  rw [List.getElem?_set] at hp
  split at hp
  ·split at hp
   ·cases hp; exact absurd rfl hnd
   ·cases hp
  ·rename_i hne; exact absurd rfl hne
 ·rw [List.getElem?_set_ne (fun e => hb e.symm)] at hp
  exact hd b' p hb hp hnd

theorem BRel.reid (hi : ∀ b, im b → im' b) (hw : ∀ b, im b → w'.heap[b]? = w.heap[b]?) (hd : ∀ (b : Nat) p, ids[b]? = some p → p ≠ .dead → ∃ q, ids'[b]? = some q ∧ likeE p q)
  {x : Blk} {p : IdE} (hp : ∀ q, p = .lv q → ∀ k, q.has k → w'.heap[k]? = w.heap[k]?) (h : BRel ids im w x p) : BRel ids' im' w' x p := by
 cases x with
 | box ty cs =>
  cases p with
  | dead => exact h
  | stale => exact h
  | virt => exact h
  | gho vs => exact h
  | lv q =>
   obtain ⟨vs, h1, h2, h3, h4⟩ := h
   exact ⟨vs, by rw [hp _ rfl _ (.inl rfl)]; exact h1, h2, h3, fun j h h' => ⟨(h4 j h h').1.reid hi hw hd, (h4 j h h').2⟩⟩
 | dead => exact h
 | gone => exact h
 | row ty sz n row => have h := BRel.mono (ids := ids) (ids' := ids) hi hw (fun _ _ h _ => h) hp h; cases p <;> exact h
 | nest ty ety sz n ho le row => have h := BRel.mono (ids := ids) (ids' := ids) hi hw (fun _ _ h _ => h) hp h; cases p <;> exact h
 | mapb g n k v => have h := BRel.mono (ids := ids) (ids' := ids) hi hw (fun _ _ h _ => h) hp h; cases p <;> exact h
 | mapx g n k v => have h := BRel.mono (ids := ids) (ids' := ids) hi hw (fun _ _ h _ => h) hp h; cases p <;> exact h
 | ghost cs =>
  cases p with
  | dead => exact h
  | stale => exact h
  | virt => exact h
  | lv q => exact h
  | gho vs => exact ⟨h.1, fun j h1 h2 => (h.2 j h1 h2).reid hi hw hd⟩
theorem BRel.rescr {b : Nat} (hi : ∀ b, im b → im' b) (hw : ∀ b, im b → w'.heap[b]? = w.heap[b]?) (hd : ∀ (b' : Nat) p, b' ≠ b → ids[b']? = some p → p ≠ .dead → ∃ q, ids'[b']? = some q ∧ likeE p q)
  (d : Nat) {x : Blk} {p : IdE} (hp : ∀ q, p = .lv q → ∀ k, q.has k → w'.heap[k]? = w.heap[k]?) (h : BRel ids im w x p) : BRel ids' im' w' (scrB b d x) p := by
 cases x with
 | box ty cs =>
  cases p with
  | dead => exact h
  | stale => exact h
  | virt => exact h
  | gho vs => exact h
  | lv q =>
   obtain ⟨vs, h1, h2, h3, h4⟩ := h
   refine ⟨vs, by rw [hp _ rfl _ (.inl rfl)]; exact h1, h2, by simpa using h3, fun j h h' => ?_⟩
   rw [List.getElem_map]
   exact ⟨scr_reid hi hw hd d _ _ (h4 j (by simpa using h) h').1, (h4 j (by simpa using h) h').2⟩
 | dead => exact h
 | gone => exact h
 | row ty sz n row => have h := BRel.mono (ids := ids) (ids' := ids) hi hw (fun _ _ h _ => h) hp h; cases p <;> exact h
 | nest ty ety sz n ho le row => have h := BRel.mono (ids := ids) (ids' := ids) hi hw (fun _ _ h _ => h) hp h; cases p <;> exact h
 | mapb g n k v => have h := BRel.mono (ids := ids) (ids' := ids) hi hw (fun _ _ h _ => h) hp h; cases p <;> exact h
 | mapx g n k v => have h := BRel.mono (ids := ids) (ids' := ids) hi hw (fun _ _ h _ => h) hp h; cases p <;> exact h
 | ghost cs =>
  cases p with
  | dead => exact h
  | stale => exact h
  | virt => exact h
  | lv q => exact h
  | gho vs =>
   refine ⟨by simpa using h.1, fun j h1 h2 => ?_⟩
   rw [List.getElem_map]
   exact scr_reid hi hw hd d _ _ (h.2 j (by simpa using h1) h2)

/-- What is read through values stays as it is. -/
theorem Sim.im_stays (hs : Sim c s m a w ids) (hsz : w.heap.size ≤ w'.heap.size)
  (hbl : ∀ k, k < w.heap.size → (∀ (b : Nat) (p : Id), ids[b]? = some (.lv p) → ¬ p.has k) → w'.heap[k]? = w.heap[k]?)
  (hown : ∀ p', IdE.lv p' ∈ ids' → ∀ x, p'.has x → x < w'.heap.size ∧ (w.heap.size ≤ x ∨ ∃ (b : Nat) (p : Id), ids[b]? = some (.lv p) ∧ p.has x)) :
  (∀ k, imOf c ids w k → imOf c ids' w' k) ∧ (∀ k, imOf c ids w k → w'.heap[k]? = w.heap[k]?) := by
 constructor
 ·intro k h
  rcases h with h | ⟨h1, h2, h3⟩
  ·exact .inl h
  ·refine .inr ⟨h1, Nat.lt_of_lt_of_le h2 hsz, fun p hp hx => ?_⟩
   rcases (hown p hp k hx).2 with h | ⟨b, p0, h4, h5⟩
   ·omega
   ·exact h3 p0 (List.mem_of_getElem? h4) h5
 ·intro k h
  refine hbl k (imOf_lt hs h) (fun b p hp e => ?_)
  rcases h with h | ⟨_, _, h3⟩
  ·exact hs.im0new h (hs.freshX p (List.mem_of_getElem? hp) k e).1
  ·exact h3 p (List.mem_of_getElem? hp) e
/-- A state that follows on another one. -/
theorem Sim.goOn (hs : Sim c s m a w ids) {s' : List A} {m' : List Blk} (hos : w'.os = w.os) (htp : w'.tape = w.tape) (hou : w'.output = w.output) (hsz : w.heap.size ≤ w'.heap.size)
  (hbl : ∀ k, k < w.heap.size → (∀ (b : Nat) (p : Id), ids[b]? = some (.lv p) → ¬ p.has k) → w'.heap[k]? = w.heap[k]?)
  (hown : ∀ p', IdE.lv p' ∈ ids' → ∀ x, p'.has x → x < w'.heap.size ∧ (w.heap.size ≤ x ∨ ∃ (b : Nat) (p : Id), ids[b]? = some (.lv p) ∧ p.has x))
  (hgho : ∀ vs, IdE.gho vs ∈ ids' → IdE.gho vs ∈ ids)
  (hdis : ∀ (b b' : Nat) p q x, ids'[b]? = some (.lv p) → ids'[b']? = some (.lv q) → p.has x → q.has x → b = b')
  (hsl : s'.length = s.length) (hml : ids'.length = m'.length)
  (hslots : ∀ i (h : i < s'.length) (h' : i < a.tmps.size), Rel ids' (imOf c ids' w') w' s'[i] a.tmps[i])
  (hblks : ∀ b (h : b < m'.length) (h' : b < ids'.length), BRel ids' (imOf c ids' w') w' m'[b] ids'[b]) (hdr : drLe w.drawn w'.drawn := by exact drLe.refl _) : Sim c s' m' a w' ids' where
 defers := hs.defers
 len := by rw [hs.len, hsl]
 slots := hslots
 mlen := hml
 blks := hblks
 distinctX := hdis
 freshX := by
  intro p hp x hx
  refine ⟨?_, (hown p hp x hx).1⟩
  rcases (hown p hp x hx).2 with h | ⟨b, p0, h4, h5⟩
  ·exact .inl (Nat.le_trans hs.frame.size h)
  ·exact (hs.freshX p0 (List.mem_of_getElem? h4) x h5).1
 frame := by
  refine hs.frame.go hos htp hou hsz (fun k hk hm => ?_) hdr
  refine hbl k (Nat.lt_of_lt_of_le hk hs.frame.size) (fun b p hp e => ?_)
  rcases (hs.freshX p (List.mem_of_getElem? hp) k e).1 with h | h
  ·omega
  ·exact hm h
 im0lt := hs.im0lt
 gho := fun vs h => hs.gho vs (hgho vs h)
end
end Go.Proofs.Ytfhdmhoeopbhnaa.Am
namespace Go.Proofs.Ytfhdmhoeopbhnaa.Am
variable [Inhabited DRT]
open Go.RowKit (Below)

/-! ### Rows that own rows -/
def updN {α : Type} (f : Nat → α) (i : Nat) (x : α) : Nat → α := fun j => if j = i then x else f j
/-- The inner row is taken out. -/
def sTake (tt : TT) (t : TypeId) (b i : Nat) (ty ety : TypeId) (sz n : Nat) (hole : Option Nat) (len : Nat → Nat) (row : Nat → Nat → List A) (m : List Blk) (K : KT) : Prop :=
 match tt.lookup t with
 | none => False
 | some ti => match ti.kind, Nat.beq ti.ety ety, Nat.beq ti.esz sz, hole with
  | 3, true, true, none => i < n ∧ setB m b (.nest ty ety sz n (some i) len row) fun m' => pushB m' (.row ety sz (len i) (row i)) fun k m'' => K (.own k) m''
  | _, _, _, _ => False
/-- It is put back. -/
def sPutB (b i b' : Nat) (ty ety : TypeId) (sz n : Nat) (hole : Option Nat) (len : Nat → Nat) (row : Nat → Nat → List A) (s : List A) (m : List Blk) (K : List A → A → List Blk → Prop) : Prop :=
 match hole, m.getD b' .dead, Nat.beq b b' with
 | some j, .row ety' sz' n' row', false => match Nat.beq ety' ety, Nat.beq sz' sz with
  | true, true => (i = j ∧ i < n) ∧ fd.fdl 4 (s.map (scr b' 4)) fun s' => fbs (((m.map (scrB b' 4)).set b (.nest ty ety sz n none (updN len j n') (updN row j row'))).set b' .dead) fun m' => K s' .junk m'
  | _, _ => False
 | _, _, _ => False
def stepN (P : Program) (G : GInv) (tt : TT) (o : Oper) (s : List A) (m : List Blk) (K : List A → A → List Blk → Prop) : Prop :=
 match o.op with
 | .indexAddr t x i => match ev s x with
  | .own b => match m.getD b .dead with
   | .nest _ _ _ n _ _ _ => match tt.lookup t, ev s i with
    | some ti, .int _ ix => match ti.kind, Nat.beq ti.esz 1 with
     | 3, true => (0 ≤ ix ∧ ix < (n : Int)) ∧ K s (.oref b ix.toNat 0) m
     | _, _ => False
    | _, _ => False
   | _ => stepS P G tt o s m K
  | _ => stepS P G tt o s m K
 | .load t x => match ev s x with
  | .oref b i off => match m.getD b .dead with
   | .nest ty ety sz n hole len row => match off with
    | 0 => sTake tt t b i ty ety sz n hole len row m (K s)
    | _ => False
   | _ => stepS P G tt o s m K
  | _ => stepS P G tt o s m K
 | .store t x y => match ev s x with
  | .oref b i off => match m.getD b .dead with
   | .nest ty ety sz n hole len row => match off, ev s y, tt.lookup t with
    | 0, .own b', some ti => match Nat.beq ti.size 1 with
     | true => sPutB b i b' ty ety sz n hole len row s m K
     | false => False
    | _, _, _ => False
   | _ => stepS P G tt o s m K
  | _ => stepS P G tt o s m K
 | _ => stepS P G tt o s m K

section
variable {c : Ctx} {s : List A} {m : List Blk} {a : Act} {w w' : World} {ids ids' : Ids} {P : Program} {im im' : Nat → Prop} {tt : TT} {G : GInv}
variable {next : Act → World → Prop} {Q : Exit → Act → World → Prop} {o : Oper}

theorem getD_some {b : Nat} {x : Blk} (hx : x ≠ .dead) (h : m.getD b .dead = x) : ∃ hb : b < m.length, m[b] = x := by
 rcases Nat.lt_or_ge b m.length with h' | h'
 ·exact ⟨h', by rw [List.getD_eq_getElem?_getD, List.getElem?_eq_getElem h'] at h; exact h⟩
 ·rw [List.getD_eq_getElem?_getD, List.getElem?_eq_none h'] at h; exact absurd h.symm hx
theorem nest_at (hs : Sim c s m a w ids) {b : Nat} {ty ety : TypeId} {sz n : Nat} {hole : Option Nat} {len : Nat → Nat} {row : Nat → Nat → List A} (hb : m.getD b .dead = .nest ty ety sz n hole len row) (h0 : 0 < n) :
  ∃ p, ids[b]? = some (.lv p) ∧ BRel ids (imOf c ids w) w (.nest ty ety sz n hole len row) (.lv p) ∧ b < m.length ∧ b < ids.length := by
 obtain ⟨h1, h2⟩ := getD_some (by simp) hb
 have h3 : b < ids.length := by rw [hs.mlen]; exact h1
 have hB := hs.blks b h1 h3
 rw [h2] at hB
 cases hp : ids[b] with
 | dead => rw [hp] at hB; exact hB.elim
 | stale => rw [hp] at hB; exact hB.elim
 | virt => rw [hp] at hB; have hB : n = 0 := hB; omega
 | gho vs => rw [hp] at hB; exact hB.elim
 | lv p => rw [hp] at hB; exact ⟨p, by rw [List.getElem?_eq_getElem h3, hp], hB, h1, h3⟩

/-- A nest from which an inner row is taken. -/
theorem Sim.take (hs : Sim c s m a w ids) {b i : Nat} {ty ety : TypeId} {sz n : Nat} {len : Nat → Nat} {row : Nat → Nat → List A} (hb : m.getD b .dead = .nest ty ety sz n none len row) (hi : i < n) :
  ∃ p vs ids' v, ids[b]? = some (.lv p) ∧ w.heap[p.blk]? = some (.cells vs ty (0, 0)) ∧ vs[i]? = some v ∧ p.sz = 1 ∧
   Sim c s (m.set b (.nest ty ety sz n (some i) len row) ++ [.row ety sz (len i) (row i)]) a w ids' ∧ Rel ids' (imOf c ids' w) w (.own m.length) v := by
 obtain ⟨p, hid, hB, hbm, hbi⟩ := nest_at hs hb (by omega)
 obtain ⟨g1, g2, g3, vs, h1, h2, h3, kb, h4⟩ := hB
 have hivs : i < vs.size := by omega
 obtain ⟨k1, k2, k3⟩ := h4 i hi (by simp) hivs
 -- the new names
 let p' : Id := ⟨p.blk, p.k, p.n, p.sz, fun x => p.kid x ∧ kb i ≠ some x, p.hist⟩
 have hsub : ∀ x, p'.has x → p.has x := by
  rintro x (h | h)
  ·exact .inl h
  ·exact .inr h.1
 have hq : ∃ q : IdE, (∀ q', q = .lv q' → ∀ x, q'.has x → kb i = some x) ∧ (∀ im w', (∀ x, kb i = some x → w'.heap[x]? = w.heap[x]?) → (∀ u v, RelI (imOf c ids w) w u v → RelI im w' u v) → ∀ ids', BRel ids' im w' (.row ety sz (len i) (row i)) q) ∧
   (∀ ids' im w' k, ids'[k]? = some q → Rel ids' im w' (.own k) vs[i]) := by
  rcases k1 with ⟨e1, e2, e3⟩ | ⟨q, cap, us, e1, e2, e3, e4, e5, e6, e7, e8⟩
  ·exact ⟨.virt, (fun q' h => by cases h), (fun _ _ _ _ _ => e2), (fun ids' im w' k h => by rw [e1]; exact .own0 k h)⟩
  ·refine ⟨.lv (mkId q us.size (len i) sz), (fun q' h x hx => by cases h; rw [mkId_has hx]; exact e2), ?_, ?_⟩
   ·intro im w' hk hm ids'
    refine ⟨rfl, rfl, us, by show w'.heap[q]? = _; rw [hk q e2]; exact e3, rfl, ?_, e7, fun i' j hi' h h' => ⟨hm _ _ (e8 i' j hi' h h').1, (e8 i' j hi' h h').2⟩⟩
    show len i * sz ≤ us.size
    rw [e4]; exact Nat.mul_le_mul_right _ e5
   ·intro ids' im w' k h
    rw [e1]
    exact .own k cap (mkId q us.size (len i) sz) h ⟨e5, e6⟩ e4.symm
 obtain ⟨q, hq1, hq2, hq3⟩ := hq
 let ids' := ids.set b (.lv p') ++ [q]
 have hl' : ids'.length = ids.length + 1 := by simp [ids']
 have get_old : ∀ k, k < ids.length → k ≠ b → ids'[k]? = ids[k]? := by
  intro k hk hne
  simp only [ids']
  rw [List.getElem?_append_left (by simpa using hk), List.getElem?_set_ne (fun e => hne e.symm)]
 have get_b : ids'[b]? = some (.lv p') := by
  simp only [ids']
  rw [List.getElem?_append_left (by simpa using hbi), List.getElem?_set_self hbi]
 have get_q : ids'[ids.length]? = some q := by
  simp only [ids']
  rw [List.getElem?_append_right (by simp)]; simp
 have cases_id : ∀ (k : Nat) (r : Id), ids'[k]? = some (.lv r) → (k = b ∧ r = p') ∨ (k = ids.length ∧ q = .lv r) ∨ (k ≠ b ∧ k < ids.length ∧ ids[k]? = some (.lv r)) := by
  intro k r h
  by_cases hkb : k = b
  ·subst hkb; rw [get_b] at h; cases h; exact .inl ⟨rfl, rfl⟩
  ·rcases Nat.lt_trichotomy k ids.length with hk | hk | hk
   ·rw [get_old k hk hkb] at h; exact .inr (.inr ⟨hkb, hk, h⟩)
   ·subst hk; rw [get_q] at h; exact .inr (.inl ⟨rfl, Option.some.inj h⟩)
   ·rw [List.getElem?_eq_none (by omega)] at h; cases h
 have hown : ∀ r, IdE.lv r ∈ ids' → ∀ x, r.has x → x < w.heap.size ∧ (w.heap.size ≤ x ∨ ∃ (b : Nat) (p : Id), ids[b]? = some (.lv p) ∧ p.has x) := by
  intro r hr x hx
  obtain ⟨k, hk⟩ := List.getElem?_of_mem hr
  rcases cases_id k r hk with ⟨_, rfl⟩ | ⟨_, e⟩ | ⟨_, _, e⟩
  ·exact ⟨(hs.freshX p (List.mem_of_getElem? hid) x (hsub x hx)).2, .inr ⟨b, p, hid, hsub x hx⟩⟩
  ·have hx' : p.has x := .inr (k2 x (hq1 r e x hx))
   exact ⟨(hs.freshX p (List.mem_of_getElem? hid) x hx').2, .inr ⟨b, p, hid, hx'⟩⟩
  ·exact ⟨(hs.freshX r (List.mem_of_getElem? e) x hx).2, .inr ⟨k, r, e, hx⟩⟩
 obtain ⟨hi1, hi2⟩ := hs.im_stays (w' := w) (ids' := ids') (Nat.le_refl _) (fun _ _ _ => rfl) hown
 have hd : ∀ (b' : Nat) r, ids[b']? = some r → r ≠ .dead → ∃ q, ids'[b']? = some q ∧ likeE r q := by
  intro b' r hr _
  have hlt : b' < ids.length := by
   rcases Nat.lt_or_ge b' ids.length with h' | h'
   ·exact h'
   ·rw [List.getElem?_eq_none h'] at hr; cases hr
  by_cases hbb : b' = b
  ·subst hbb; rw [hid] at hr; cases hr
   exact ⟨_, get_b, p', rfl, rfl, rfl, rfl, rfl, fun _ _ h => h⟩
  ·exact ⟨r, by rw [get_old b' hlt hbb]; exact hr, likeE_rfl r⟩
 have hmono : ∀ u v, RelI (imOf c ids w) w u v → RelI (imOf c ids' w) w u v := fun u v h => h.mono hi1 hi2
 refine ⟨p, vs, ids', vs[i], hid, h1, Array.getElem?_eq_getElem hivs, g1, ?_, hq3 _ _ _ _ (by rw [← hs.mlen]; exact get_q)⟩
 have hgq : ∀ vs, q ≠ .gho vs := fun vs e => by
  have := hq2 (imOf c ids w) w (fun _ _ => rfl) (fun _ _ h => h) []
  rw [e] at this; exact this
 refine hs.goOn rfl rfl rfl (Nat.le_refl _) (fun _ _ _ => rfl) hown (fun vs h => by
  simp only [ids'] at h
  rcases List.mem_append.1 h with h | h
  ·rcases List.mem_or_eq_of_mem_set h with h | h
   ·exact h
   ·cases h
  ·simp at h; exact absurd h.symm (hgq vs)) ?_ rfl (by simp [ids', hs.mlen]) (fun i h h' => (hs.slots i h h').reid hi1 hi2 hd) ?_
 ·intro k k' r r' x e1 e2 x1 x2
  have inb : ∀ y, q = .lv r → r.has y → p.kid y := fun y e hy => k2 y (hq1 r e y hy)
  rcases cases_id k r e1 with ⟨rfl, rfl⟩ | ⟨rfl, e⟩ | ⟨ne, _, e⟩ <;> rcases cases_id k' r' e2 with ⟨rfl, rfl⟩ | ⟨rfl, e'⟩ | ⟨ne', _, e'⟩
  ·rfl
  ·exfalso
   have hx := hq1 r' e' x x2
   rcases x1 with h | h
   ·exact g3 (by rw [← h]; exact k2 x hx)
   ·exact h.2 hx
  ·exact absurd (hs.distinctX _ _ p r' x hid e' (hsub x x1) x2).symm ne'
  ·exfalso
   have hx := hq1 r e x x1
   rcases x2 with h | h
   ·exact g3 (by rw [← h]; exact k2 x hx)
   ·exact h.2 hx
  ·rfl
  ·exact absurd (hs.distinctX _ _ p r' x hid e' (.inr (k2 x (hq1 r e x x1))) x2).symm ne'
  ·exact absurd (hs.distinctX _ _ r p x e hid x1 (hsub x x2)) ne
  ·exact absurd (hs.distinctX _ _ r p x e hid x1 (.inr (k2 x (hq1 r' e' x x2)))) ne
  ·exact hs.distinctX k k' r r' x e e' x1 x2
 ·intro k hk hk'
  simp only [List.length_append, List.length_set, List.length_singleton] at hk
  have hat : ids'[k]? = some ids'[k] := List.getElem?_eq_getElem hk'
  rcases Nat.lt_or_ge k m.length with hkm | hkm
  ·rw [List.getElem_append_left (by simpa using hkm), List.getElem_set]
   split
   ·rename_i he; subst he
    rw [get_b] at hat
    rw [← Option.some.inj hat]
    refine ⟨g1, g2, (fun h => g3 h.1), vs, h1, h2, h3, kb, ?_⟩
    intro j hj hhole hjv
    obtain ⟨j1, j2, j3⟩ := h4 j hj (by simp) hjv
    have hji : j ≠ i := fun e => hhole (by rw [e])
    refine ⟨j1.mono hi1 hi2 (fun _ _ => rfl), fun x hx => ⟨j2 x hx, fun e => ?_⟩, fun j' hj' _ e1 e2 => j3 j' hj' (by simp) e1 e2⟩
    exact hji (k3 j hj (by simp) (by rw [hx, e]) (by rw [e]; simp))
   ·rename_i he
    have hki : k < ids.length := by rw [hs.mlen]; exact hkm
    rw [get_old k hki (fun e => he e.symm), List.getElem?_eq_getElem hki] at hat
    rw [← Option.some.inj hat]
    exact (hs.blks k hkm hki).reid hi1 hi2 hd (fun _ _ _ _ => rfl)
  ·have hq' : ids'[k]? = some q := by rw [show k = ids.length by rw [hs.mlen]; omega]; exact get_q
   rw [hq'] at hat
   rw [← Option.some.inj hat, List.getElem_append_right (by simpa using hkm)]
   simp only [List.length_set, show k - m.length = 0 by omega, List.getElem_cons_zero]
   exact hq2 _ _ (fun _ _ => rfl) hmono _

/-- An inner row is put back. -/
theorem Sim.putBack (hs : Sim c s m a w ids) {b b' i : Nat} {ty ety : TypeId} {sz n n' : Nat} {len : Nat → Nat} {row : Nat → Nat → List A} {row' : Nat → List A} (hb : m.getD b .dead = .nest ty ety sz n (some i) len row)
  (hb' : m.getD b' .dead = .row ety sz n' row') (hne : b ≠ b') (hi : i < n) {v : Value} (hv : Rel ids (imOf c ids w) w (.own b') v) :
  ∃ p vs ids', ids[b]? = some (.lv p) ∧ w.heap[p.blk]? = some (.cells vs ty (0, 0)) ∧ i < vs.size ∧ p.sz = 1 ∧
   Sim c (s.map (scr b' 4)) (((m.map (scrB b' 4)).set b (.nest ty ety sz n none (updN len i n') (updN row i row'))).set b' .dead) a (w.setRow p.blk (vs.setIfInBounds i v)) ids' := by
 obtain ⟨p, hid, hB, hbm, hbi⟩ := nest_at hs hb (by omega)
 obtain ⟨g1, g2, g3, vs, h1, h2, h3, kb, h4⟩ := hB
 have hivs : i < vs.size := by omega
 obtain ⟨hbm', hm'⟩ := getD_some (by simp) hb'
 have hbi' : b' < ids.length := by rw [hs.mlen]; exact hbm'
 let w' := w.setRow p.blk (vs.setIfInBounds i v)
 have hsz : w'.heap.size = w.heap.size := by simp [w', World.setRow]
 -- the inner block's name
 have hx : ∃ x : Option Nat, (∀ y, x = some y → ∃ q, ids[b']? = some (.lv q) ∧ q.blk = y) ∧
   (∀ im w', (∀ y, x = some y → w'.heap[y]? = w.heap[y]?) → (∀ u v, RelI (imOf c ids w) w u v → RelI im w' u v) → Inner im w' ety sz n' row' v x) := by
  rcases own_len hs hv hb' with ⟨e1, e2, e3⟩ | ⟨q, cap, e1, e2, e3, e4, e5, e6⟩
  ·exact ⟨none, (fun y h => by cases h), fun _ _ _ _ => .inl ⟨e2, e1, rfl⟩⟩
  ·have hB' := hs.blks b' hbm' hbi'
   rw [List.getElem?_eq_getElem hbi'] at e1
   rw [hm', Option.some.inj e1] at hB'
   obtain ⟨q1, q2, us, q3, q4, q5, q6, q7⟩ := hB'
   refine ⟨some q.blk, (fun y h => by cases h; exact ⟨q, by rw [List.getElem?_eq_getElem hbi']; exact e1, rfl⟩), fun im w' hk hm => .inr ⟨q.blk, cap, us, e6, rfl, by rw [hk _ rfl]; exact q3, by rw [q4, e3], e2.1, e2.2, q6, fun i' j hi' h h' => ⟨hm _ _ (q7 i' j hi' h h').1, (q7 i' j hi' h h').2⟩⟩⟩
 obtain ⟨x, hx1, hx2⟩ := hx
 let p' : Id := ⟨p.blk, p.k, p.n, p.sz, fun y => p.kid y ∨ x = some y, p.hist⟩
 have hsub : ∀ y, p'.has y → p.has y ∨ x = some y := by
  rintro y (h | h | h)
  ·exact .inl (.inl h)
  ·exact .inl (.inr h)
  ·exact .inr h
 let ids' := (ids.set b (.lv p')).set b' .dead
 have hl' : ids'.length = ids.length := by simp [ids']
 have get_old : ∀ k, k ≠ b → k ≠ b' → ids'[k]? = ids[k]? := by
  intro k h1 h2
  simp only [ids']
  rw [List.getElem?_set_ne (fun e => h2 e.symm), List.getElem?_set_ne (fun e => h1 e.symm)]
 have get_b : ids'[b]? = some (.lv p') := by
  simp only [ids']
  rw [List.getElem?_set_ne (fun e => hne e.symm), List.getElem?_set_self hbi]
 have get_b' : ids'[b']? = some .dead := by
  simp only [ids']
  rw [List.getElem?_set_self (by simpa using hbi')]
 have cases_id : ∀ (k : Nat) (r : Id), ids'[k]? = some (.lv r) → (k = b ∧ r = p') ∨ (k ≠ b ∧ k ≠ b' ∧ ids[k]? = some (.lv r)) := by
  intro k r h
  by_cases hkb : k = b
  ·subst hkb; rw [get_b] at h; cases h; exact .inl ⟨rfl, rfl⟩
  ·by_cases hkb' : k = b'
   ·subst hkb'; rw [get_b'] at h; cases h
   ·rw [get_old k hkb hkb'] at h; exact .inr ⟨hkb, hkb', h⟩
 have hown : ∀ r, IdE.lv r ∈ ids' → ∀ y, r.has y → y < w'.heap.size ∧ (w.heap.size ≤ y ∨ ∃ (b : Nat) (p : Id), ids[b]? = some (.lv p) ∧ p.has y) := by
  intro r hr y hy
  rw [hsz]
  obtain ⟨k, hk⟩ := List.getElem?_of_mem hr
  rcases cases_id k r hk with ⟨_, rfl⟩ | ⟨_, _, e⟩
  ·rcases hsub y hy with h | h
   ·exact ⟨(hs.freshX p (List.mem_of_getElem? hid) y h).2, .inr ⟨b, p, hid, h⟩⟩
   ·obtain ⟨q, q1, q2⟩ := hx1 y h
    have : q.has y := .inl q2.symm
    exact ⟨(hs.freshX q (List.mem_of_getElem? q1) y this).2, .inr ⟨b', q, q1, this⟩⟩
  ·exact ⟨(hs.freshX r (List.mem_of_getElem? e) y hy).2, .inr ⟨k, r, e, hy⟩⟩
 have hbl : ∀ k, k < w.heap.size → (∀ (b : Nat) (p : Id), ids[b]? = some (.lv p) → ¬ p.has k) → w'.heap[k]? = w.heap[k]? := by
  intro k _ hk
  exact setRow_other w p.blk k _ (fun e => hk b p hid (.inl e))
 obtain ⟨hi1, hi2⟩ := hs.im_stays (w' := w') (ids' := ids') (by rw [hsz]; exact Nat.le_refl _) hbl hown
 have hd : ∀ (k : Nat) r, k ≠ b' → ids[k]? = some r → r ≠ .dead → ∃ q, ids'[k]? = some q ∧ likeE r q := by
  intro k r hk hr _
  by_cases hbb : k = b
  ·subst hbb; rw [hid] at hr; cases hr
   exact ⟨_, get_b, p', rfl, rfl, rfl, rfl, rfl, fun _ _ h => h⟩
  ·exact ⟨r, by rw [get_old k hbb hk]; exact hr, likeE_rfl r⟩
 have hmono : ∀ u v, RelI (imOf c ids w) w u v → RelI (imOf c ids' w') w' u v := fun u v h => h.mono hi1 hi2
 have hpb : ∀ (k : Nat) (r : Id) y, ids[k]? = some (.lv r) → k ≠ b → r.has y → w'.heap[y]? = w.heap[y]? := by
  intro k r y hr hk hy
  refine setRow_other w p.blk y _ (fun e => hk ?_)
  exact hs.distinctX k b r p y hr hid hy (.inl e)
 refine ⟨p, vs, ids', hid, h1, hivs, g1, ?_⟩
 refine hs.goOn rfl rfl rfl (by show w.heap.size ≤ w'.heap.size; rw [hsz]; exact Nat.le_refl _) hbl hown (fun vs h => by
  simp only [ids'] at h
  rcases List.mem_or_eq_of_mem_set h with h | h
  ·rcases List.mem_or_eq_of_mem_set h with h | h
   ·exact h
   ·cases h
  ·cases h) ?_ (by simp) (by simp [ids', hs.mlen]) ?_ ?_
 ·intro k k' r r' y e1 e2 x1 x2
  rcases cases_id k r e1 with ⟨rfl, rfl⟩ | ⟨ne, ne2, e⟩ <;> rcases cases_id k' r' e2 with ⟨rfl, rfl⟩ | ⟨ne', ne2', e'⟩
  ·rfl
  ·rcases hsub y x1 with h | h
   ·exact absurd (hs.distinctX _ _ p r' y hid e' h x2).symm ne'
   ·obtain ⟨q, q1, q2⟩ := hx1 y h
    exact absurd (hs.distinctX _ _ q r' y q1 e' (.inl q2.symm) x2).symm ne2'
  ·rcases hsub y x2 with h | h
   ·exact absurd (hs.distinctX _ _ r p y e hid x1 h) ne
   ·obtain ⟨q, q1, q2⟩ := hx1 y h
    exact absurd (hs.distinctX _ _ r q y e q1 x1 (.inl q2.symm)) ne2
  ·exact hs.distinctX k k' r r' y e e' x1 x2
 ·intro k h h'
  rw [List.getElem_map]
  exact scr_reid hi1 hi2 hd 4 _ _ (hs.slots k (by simpa using h) h')
 ·intro k hk hk'
  have hat : ids'[k]? = some ids'[k] := List.getElem?_eq_getElem hk'
  simp only [List.length_set, List.length_map] at hk
  rw [List.getElem_set]
  split
  ·rename_i he; subst he
   rw [get_b'] at hat
   rw [← Option.some.inj hat]; exact rfl
  ·rename_i he
   rw [List.getElem_set]
   split
   ·rename_i he2; subst he2
    rw [get_b] at hat
    rw [← Option.some.inj hat]
    have hv2 : ∀ j (h : j < (vs.setIfInBounds i v).size) (h' : j < vs.size), (vs.setIfInBounds i v)[j] = if i = j then v else vs[j] := by
     intro j h h'; rw [Array.getElem_setIfInBounds]
    have hkey : ∀ y, x = some y → w'.heap[y]? = w.heap[y]? := by
     intro y hy
     obtain ⟨q, q1, q2⟩ := hx1 y hy
     exact hpb b' q y q1 (fun e => hne e.symm) (.inl q2.symm)
    have hpk : ∀ y, p.kid y → w'.heap[y]? = w.heap[y]? := by
     intro y hy
     exact setRow_other w p.blk y _ (fun e => g3 (by rw [← e]; exact hy))
    refine ⟨g1, g2, ?_, vs.setIfInBounds i v, setRow_heap w p.blk vs _ ty _ h1, by simp [h2]; rfl, h3, updN kb i x, ?_⟩
    ·rintro (h | h)
     ·exact g3 h
     ·obtain ⟨q, q1, q2⟩ := hx1 _ h
      exact hne (hs.distinctX b b' p q p.blk hid q1 (.inl rfl) (.inl q2.symm))
    ·intro j hj _ hjv
     have hjv' : j < vs.size := by simpa using hjv
     rw [hv2 j hjv hjv']
     by_cases hji : j = i
     ·subst hji
      rw [if_pos rfl]
      simp only [updN, if_pos]
      refine ⟨hx2 _ _ hkey hmono, (fun y hy => .inr hy), ?_⟩
      intro j' hj' _ e1 e2
      by_cases hjj : j' = j
      ·exact hjj
      ·exfalso
       rw [if_neg hjj] at e1
       cases hxx : x with
       | none => exact e2 hxx
       | some y =>
        have hj'v : j' < vs.size := by omega
        obtain ⟨_, k2, _⟩ := h4 j' hj' (by simp; exact fun e => hjj e.symm) hj'v
        obtain ⟨q, q1, q2⟩ := hx1 y hxx
        exact hne (hs.distinctX b b' p q y hid q1 (.inr (k2 y (by rw [e1, hxx]))) (.inl q2.symm))
     ·rw [if_neg (fun e => hji e.symm)]
      simp only [updN, if_neg hji]
      obtain ⟨k1, k2, k3⟩ := h4 j hj (by simp; exact fun e => hji e.symm) hjv'
      refine ⟨k1.mono hi1 hi2 (fun y hy => hpk y (k2 y hy)), (fun y hy => .inl (k2 y hy)), ?_⟩
      intro j' hj' _ e1 e2
      by_cases hjj : j' = i
      ·exfalso
       subst hjj
       rw [if_pos rfl] at e1
       cases hxx : x with
       | none => rw [hxx] at e1; exact e2 e1.symm
       | some y =>
        obtain ⟨q, q1, q2⟩ := hx1 y hxx
        exact hne (hs.distinctX b b' p q y hid q1 (.inr (k2 y (by rw [← e1, hxx]))) (.inl q2.symm))
      ·rw [if_neg hjj] at e1
       exact k3 j' hj' (by simp; exact fun e => hjj e.symm) e1 e2
   ·rename_i he2
    have hkm : k < m.length := hk
    have hki : k < ids.length := by rw [hs.mlen]; exact hkm
    rw [get_old k (fun e => he2 e.symm) (fun e => he e.symm), List.getElem?_eq_getElem hki] at hat
    rw [← Option.some.inj hat, List.getElem_map]
    refine (hs.blks k hkm hki).rescr hi1 hi2 hd 4 ?_
    intro q hq y hy
    exact hpb k q y (by rw [List.getElem?_eq_getElem hki, hq]) (fun e => he2 e.symm) hy
end
end Go.Proofs.Ytfhdmhoeopbhnaa.Am
namespace Go.Proofs.Ytfhdmhoeopbhnaa.Am
variable [Inhabited DRT]
open Go.RowKit (Below)
section
variable {c : Ctx} {s : List A} {m : List Blk} {a : Act} {w w' : World} {ids ids' : Ids} {P : Program} {im im' : Nat → Prop} {tt : TT} {G : GInv}
variable {next : Act → World → Prop} {Q : Exit → Act → World → Prop} {o : Oper}

theorem set_take (vs : Array Value) (i : Nat) (v : Value) (h : i < vs.size) : (vs.toList.take i ++ [v] ++ vs.toList.drop (i + [v].length)).toArray = vs.setIfInBounds i v := by
 apply Array.ext'
 simp only [List.length_singleton, Array.toList_setIfInBounds]
 rw [List.set_eq_take_append_cons_drop, if_pos (by simpa using h)]
 simp

theorem stepN_sound (htt : TTok P tt) (hG : G.ok c) (hs : Sim c s m a w ids) {K : List A → A → List Blk → Prop} (h : stepN P G tt o s m K)
  (hn : ∀ s1 v m' a' w' ids', K s1 v m' → Sim c (putD s1 o.dst v) m' a' w' ids' → next a' w') : o.wp P a w next Q := by
 unfold stepN at h
 split at h
 ·rename_i t X Y ho
  split at h
  ·rename_i b hX
   split at h
   ·rename_i ty ety sz n hole len row hb
    split at h
    ·rename_i ti kk ix hti hY
     split at h
     ·rename_i hk he
      obtain ⟨h01, h⟩ := h
      obtain ⟨i, d, z, hi, hd, _, _, _, _, _, _, _, _, hk2, hk3, _⟩ := htt.facts hti
      obtain ⟨ie, ze, hde, hie, hesz, _⟩ := hk3 hk
      subst hde
      have hx := hs.ev X
      have hy := hs.ev Y
      rw [hX] at hx
      rw [hY] at hy
      obtain ⟨p, hid, hB, _, _⟩ := nest_at hs hb (by omega)
      obtain ⟨g1, g2, g3, vs, h1, h2, h3, kb, h4⟩ := hB
      have e : execOp a.eval o = (do let z ← Instr.indexAt t (a.eval X) (a.eval Y); pure (.value z)) := by unfold execOp; rw [ho]
      have hesz1 : ti.esz = 1 := Nat.eq_of_beq_eq_true he
      rcases hs.own_at hx (by rw [hb]; simp) with ⟨q1, _⟩ | ⟨p', cap, q1, q2, q3, q4⟩
      ·rw [hid] at q1; cases q1
      ·rw [hid] at q1; cases q1
       refine wp_of_run (v := .pointer (some ⟨p.blk, 0 + ix.toNat * 1, none⟩)) (w' := w) ?_ (hn s _ m _ _ ids h (hs.putD o.dst ?_))
       ·rw [e, q4, hy.int_inv, g2]
        simp [Instr.indexAt, asIntOf, underlying, hd, h01.1, h01.2, sizeOf, typeInfo, hie, hesz, hesz1, addr_add]
       ·have := Rel.oref (ids := ids) (im := imOf c ids w) (w := w) b ix.toNat 0 p hid
        rw [g1] at this; simpa using this
     ·exact h.elim
    ·exact h.elim
   ·exact stepS_sound htt hG hs h hn
  ·exact stepS_sound htt hG hs h hn
 ·rename_i t X ho
  split at h
  ·rename_i b i off hX
   split at h
   ·rename_i ty ety sz n hole len row hb
    split at h
    ·unfold sTake at h
     split at h
     ·exact h.elim
     ·rename_i ti hti
      split at h
      ·rename_i hk he1 he2
       obtain ⟨hin, h⟩ := h
       rw [setB_eq, pushB_eq] at h
       obtain ⟨i0, d, z, hi, hd, _, _, _, _, _, hag, _, _, hk2, hk3, _⟩ := htt.facts hti
       obtain ⟨ie, ze, hde, hie, hesz, _⟩ := hk3 hk
       subst hde
       obtain ⟨p, vs, ids', v, q1, q2, q3, q4, q5, q6⟩ := hs.take hb hin
       have hx := hs.ev X
       rw [hX] at hx
       obtain ⟨p', r1, r2⟩ := hs.oref_at hx (by rw [hb]; simp)
       rw [q1] at r1; cases r1
       have hc : w.cell? ⟨p.blk, i * p.sz + 0, none⟩ = some v := by
        rw [q4, cell_of_row w p.blk _ vs ty (0, 0) q2]; simpa using q3
       have hrun := run_loadVar_one (P := P) (w := w) hd (by rfl) p.blk (i * p.sz + 0) v hc
       refine wp_of_run (v := v) (w' := w) ?_ (hn s _ _ _ _ ids' h (q5.putD o.dst ?_))
       ·have e1 : execOp a.eval o = (do let z ← loadVar t ⟨p.blk, i * p.sz + 0, none⟩; pure (.value z)) := by
         unfold execOp; rw [ho]; simp only [r2]; rfl
        rw [e1]; simp at hrun; simp [hrun]
       ·simpa using q6
      ·exact h.elim
    ·exact h.elim
   ·exact stepS_sound htt hG hs h hn
  ·exact stepS_sound htt hG hs h hn
 ·rename_i t X Y ho
  split at h
  ·rename_i b i off hX
   split at h
   ·rename_i ty ety sz n hole len row hb
    split at h
    ·rename_i b' ti hY hti
     split at h
     ·rename_i hsz1
      have hsz1 : ti.size = 1 := Nat.eq_of_beq_eq_true hsz1
      unfold sPutB at h
      split at h
      ·rename_i j ety' sz' n' row' hb' hbb
       split at h
       ·rename_i he1 he2
        have he1 := Nat.eq_of_beq_eq_true he1
        have he2 := Nat.eq_of_beq_eq_true he2
        subst he1; subst he2
        obtain ⟨⟨hij, hin⟩, h⟩ := h
        subst hij
        rw [fdl_eq, fbs_eq] at h
        have hne : b ≠ b' := fun e => by subst e; rw [Nat.beq_refl] at hbb; cases hbb
        have hx := hs.ev X
        have hy := hs.ev Y
        rw [hX] at hx; rw [hY] at hy
        obtain ⟨i0, d, z, hi, hd, _, hsz0, _⟩ := htt.facts hti
        obtain ⟨p, vs, ids', q1, q2, q3, q4, q5⟩ := hs.putBack hb hb' hne hin hy
        obtain ⟨p', r1, r2⟩ := hs.oref_at hx (by rw [hb]; simp)
        rw [q1] at r1; cases r1
        obtain ⟨o1, o2⟩ := one_rel (by rfl) hy
        have hst := run_storeVar (P := P) (w := w) hi p.blk (i * p.sz + 0) ty vs (a.eval Y) [a.eval Y] o2 (by rw [hsz0, hsz1]; rfl) (by intro u hu; rw [List.mem_singleton.1 hu]; exact o1) q2 (by rw [q4]; simp; omega)
        rw [q4] at hst
        simp only [Nat.mul_one, Nat.add_zero] at hst
        rw [set_take vs i _ q3] at hst
        refine wp_of_skip (w' := w.setRow p.blk (vs.setIfInBounds i (a.eval Y))) ?_ (hn _ _ _ _ _ ids' h (q5.junk_put o.dst _))
        have e1 : execOp a.eval o = (do storeVar t ⟨p.blk, i * p.sz + 0, none⟩ (a.eval Y); pure .skip) := by
         unfold execOp; rw [ho]; simp only [r2]; rfl
        rw [e1, q4]; simp [hst]
       ·exact h.elim
      ·exact h.elim
     ·exact h.elim
    ·exact h.elim
   ·exact stepS_sound htt hG hs h hn
  ·exact stepS_sound htt hG hs h hn
 ·exact stepS_sound htt hG hs h hn
end
end Go.Proofs.Ytfhdmhoeopbhnaa.Am
namespace Go.Proofs.Ytfhdmhoeopbhnaa.Am
variable [Inhabited DRT]
open Go.RowKit (Below)

/-! ### Names of blocks that are renamed -/
structure Ren where
 r : Nat → Option Nat
 o : Nat → Option Nat
 m : Nat → Option Nat
def renA (τ : Ren) : Nat → A → A
 | 0, _ => .junk
 | d + 1, x => match x with
  | .ref b o => match τ.r b with
   | some b' => .ref b' o
   | none => .junk
  | .oref b i o => match τ.o b with
   | some b' => .oref b' i o
   | none => .junk
  | .own b => match τ.o b with
   | some b' => .own b'
   | none => .junk
  | .omap b => match τ.m b with
   | some b' => .omap b'
   | none => .junk
  | .ent _ _ => .junk
  | .agg cs => .agg (cs.map (renA τ d))
  | .tup cs => .tup (cs.map (renA τ d))
  | .fn f cs => .fn f (cs.map (renA τ d))
  | x => x
def renB (τ : Ren) (d : Nat) : Blk → Blk
 | .box ty cs => .box ty (cs.map (renA τ d))
 | .ghost cs => .ghost (cs.map (renA τ d))
 | x => x
/-- What a renaming must keep. -/
structure RenOk (τ : Ren) (ids ids' : Ids) : Prop where
 r : ∀ b b' p, τ.r b = some b' → ids[b]? = some (.lv p) → ∃ p', ids'[b']? = some (.lv p') ∧ p'.blk = p.blk
 o : ∀ b b' p, τ.o b = some b' → ids[b]? = some p → p ≠ .dead → ∃ q, ids'[b']? = some q ∧ likeE0 p q
 m : ∀ b b' p, τ.m b = some b' → ids[b]? = some (.lv p) → ∃ p', ids'[b']? = some (.lv p') ∧ p'.blk = p.blk
 rs : ∀ b b', τ.r b = some b' → ids[b]? = some .stale → ids'[b']? = some .stale
 ms : ∀ b b', τ.m b = some b' → ids[b]? = some .stale → ids'[b']? = some .stale

section
variable {c : Ctx} {s : List A} {m : List Blk} {a : Act} {w w' : World} {ids ids' : Ids} {P : Program} {im im' : Nat → Prop} {tt : TT} {G : GInv}

theorem renA_rel {τ : Ren} (hi : ∀ b, im b → im' b) (hw : ∀ b, im b → w'.heap[b]? = w.heap[b]?) (ht : RenOk τ ids ids') :
  ∀ (d : Nat) (x : A) (v : Value), Rel ids im w x v → Rel ids' im' w' (renA τ d x) v
 | 0, x, v, _ => .imm (.junk _)
 | d + 1, x, v, h => by
  have keep : ∀ y, RelI im w y v → Rel ids' im' w' y v := fun y hy => .imm (hy.mono hi hw)
  cases x with
  | ref b o =>
   simp only [renA]
   split
   ·rename_i b' hb
    rcases h.ref_inv with ⟨p, h1, rfl⟩ | ⟨h1, x, y, rfl⟩
    rotate_left
    ·exact .refS _ _ x y (ht.rs _ _ hb h1)
    obtain ⟨p', h2, h3⟩ := ht.r _ _ _ hb h1
    rw [← h3]; exact .ref _ _ p' h2
   ·exact .imm (.junk _)
  | oref b i o =>
   simp only [renA]
   split
   ·rename_i b' hb
    rcases h.oref_inv with ⟨p, h1, rfl⟩ | ⟨h1, x, y, rfl⟩
    rotate_left
    ·obtain ⟨q, h4, h5⟩ := ht.o _ _ _ hb h1 (by simp)
     have h5 : q = .stale := h5
     subst h5
     exact .orefS _ _ _ x y h4
    obtain ⟨q, h2, p', rfl, h3⟩ := ht.o _ _ _ hb h1 (by simp)
    rw [← h3.1, ← h3.2.2.2]; exact .oref _ _ _ p' h2
   ·exact .imm (.junk _)
  | own b =>
   simp only [renA]
   split
   ·rename_i b' hb
    rcases h.own_inv with ⟨h1, rfl⟩ | ⟨p, cap, h1, h2, h3, rfl⟩ | ⟨h1, x, n, cap, rfl⟩
    ·obtain ⟨q, h4, h5⟩ := ht.o _ _ _ hb h1 (by simp)
     have h5 : q = .virt := h5
     subst h5
     exact .own0 _ h4
    ·obtain ⟨q, h4, p', rfl, h5⟩ := ht.o _ _ _ hb h1 (by simp)
     rw [← h5.1, ← h5.2.2.1]
     exact .own _ cap p' h4 (by rw [h5.2.2.1]; exact h2) (by rw [h5.2.1, h5.2.2.2]; exact h3)
    ·obtain ⟨q, h4, h5⟩ := ht.o _ _ _ hb h1 (by simp)
     have h5 : q = .stale := h5
     subst h5
     exact .ownS _ x n cap h4
   ·exact .imm (.junk _)
  | omap b =>
   simp only [renA]
   split
   ·rename_i b' hb
    rcases h.omap_inv with ⟨p, h1, rfl⟩ | ⟨h1, x, rfl⟩
    rotate_left
    ·exact .omapS _ x (ht.ms _ _ hb h1)
    obtain ⟨p', h2, h3⟩ := ht.m _ _ _ hb h1
    rw [← h3]; exact .omap _ p' h2
   ·exact .imm (.junk _)
  | agg cs =>
   obtain ⟨vs, rfl, hl, ho, hr⟩ := h.agg_inv
   exact .agg _ vs (by simpa using hl) ho (fun j h h' => by rw [List.getElem_map]; exact renA_rel hi hw ht d _ _ (hr j (by simpa using h) h'))
  | tup cs =>
   obtain ⟨vs, rfl, hl, hr⟩ := h.tup_inv
   exact .tup _ vs (by simpa using hl) (fun j h h' => by rw [List.getElem_map]; exact renA_rel hi hw ht d _ _ (hr j (by simpa using h) h'))
  | fn f cs =>
   obtain ⟨vs, rfl, hl, hr⟩ := h.fn_inv
   exact .fn f _ vs (by simpa using hl) (fun j h h' => by rw [List.getElem_map]; exact renA_rel hi hw ht d _ _ (hr j (by simpa using h) h'))
  | int k n => cases h with | imm h => exact keep _ h
  | bool k => cases h with | imm h => exact keep _ h
  | sb k => cases h with | imm h => exact keep _ h
  | str k => cases h with | imm h => exact keep _ h
  | nilp => cases h with | imm h => exact keep _ h
  | bref cs off => cases h with | imm h => exact keep _ h
  | nils => cases h with | imm h => exact keep _ h
  | sl n sz row => cases h with | imm h => exact keep _ h
  | nilfn => cases h with | imm h => exact keep _ h
  | nilm => cases h with | imm h => exact keep _ h
  | mv g n k v => cases h with | imm h => exact keep _ h
  | junk => exact .imm (.junk _)
  | ent => exact .imm (.junk _)

theorem renB_rel {τ : Ren} (hi : ∀ b, im b → im' b) (hw : ∀ b, im b → w'.heap[b]? = w.heap[b]?) (ht : RenOk τ ids ids') (d : Nat)
  {x : Blk} {p : IdE} (hp : ∀ q, p = .lv q → ∀ k, q.has k → w'.heap[k]? = w.heap[k]?) (h : BRel ids im w x p) : BRel ids' im' w' (renB τ d x) p := by
 cases x with
 | box ty cs =>
  cases p with
  | dead => exact h
  | stale => exact h
  | virt => exact h
  | gho vs => exact h
  | lv q =>
   obtain ⟨vs, h1, h2, h3, h4⟩ := h
   refine ⟨vs, by rw [hp _ rfl _ (.inl rfl)]; exact h1, h2, by simpa using h3, fun j h h' => ?_⟩
   rw [List.getElem_map]
   exact ⟨renA_rel hi hw ht d _ _ (h4 j (by simpa using h) h').1, (h4 j (by simpa using h) h').2⟩
 | ghost cs =>
  cases p with
  | dead => exact h
  | stale => exact h
  | virt => exact h
  | lv q => exact h
  | gho vs =>
   refine ⟨by simpa using h.1, fun j h1 h2 => ?_⟩
   rw [List.getElem_map]
   exact renA_rel hi hw ht d _ _ (h.2 j (by simpa using h1) h2)
 | dead => exact h
 | gone => exact h
 | row ty sz n row => have h := BRel.mono (ids := ids) (ids' := ids) hi hw (fun _ _ h _ => h) hp h; cases p <;> exact h
 | nest ty ety sz n ho le row => have h := BRel.mono (ids := ids) (ids' := ids) hi hw (fun _ _ h _ => h) hp h; cases p <;> exact h
 | mapb g n k v => have h := BRel.mono (ids := ids) (ids' := ids) hi hw (fun _ _ h _ => h) hp h; cases p <;> exact h
 | mapx g n k v => have h := BRel.mono (ids := ids) (ids' := ids) hi hw (fun _ _ h _ => h) hp h; cases p <;> exact h
end

/-! ### Many places set at once -/
def setMany {α : Type} : List Nat → List α → List α → List α
 | b :: bs, x :: xs, m => setMany bs xs (m.set b x)
 | _, _, m => m
theorem setMany_len {α : Type} : ∀ (ρ : List Nat) (xs m : List α), (setMany ρ xs m).length = m.length
 | [], xs, m => by cases xs <;> rfl
 | b :: bs, [], m => rfl
 | b :: bs, x :: xs, m => by rw [setMany, setMany_len bs xs]; simp
theorem setMany_ne {α : Type} : ∀ (ρ : List Nat) (xs m : List α) (b : Nat), b ∉ ρ → (setMany ρ xs m)[b]? = m[b]?
 | [], xs, m, b, _ => by cases xs <;> rfl
 | b' :: bs, [], m, b, _ => rfl
 | b' :: bs, x :: xs, m, b, h => by
  rw [setMany, setMany_ne bs xs _ b (fun h' => h (by simp [h'])), List.getElem?_set_ne (fun e => h (by simp [e]))]
theorem setMany_at {α : Type} : ∀ (ρ : List Nat) (xs m : List α) (k b : Nat) (x : α), ρ.Nodup → ρ[k]? = some b → xs[k]? = some x → b < m.length → (setMany ρ xs m)[b]? = some x
 | [], xs, m, k, b, x, _, h, _, _ => by simp at h
 | b' :: bs, [], m, k, b, x, _, _, h, _ => by simp at h
 | b' :: bs, y :: xs, m, k, b, x, hn, h1, h2, hb => by
  rw [setMany]
  cases k with
  | zero =>
   simp at h1 h2
   subst h1; subst h2
   rw [setMany_ne _ _ _ _ (List.nodup_cons.1 hn).1, List.getElem?_set_self hb]
  | succ k => exact setMany_at bs xs _ k b x (List.nodup_cons.1 hn).2 (by simpa using h1) (by simpa using h2) (by simpa using hb)

/-! ### What a call is handed -/
def posN : List Nat → Nat → Nat → Option Nat
 | [], _, _ => none
 | x :: xs, k, b => match Nat.beq b x with
  | true => some k
  | false => posN xs (k + 1) b
theorem posN_some : ∀ (l : List Nat) (k b j : Nat), posN l k b = some j → k ≤ j ∧ l[j - k]? = some b
 | [], k, b, j, h => by simp [posN] at h
 | x :: xs, k, b, j, h => by
  unfold posN at h
  split at h
  ·rename_i e
   cases h
   have := Nat.eq_of_beq_eq_true e
   subst this
   simp
  ·obtain ⟨h1, h2⟩ := posN_some xs (k + 1) b j h
   refine ⟨by omega, ?_⟩
   rw [show j - k = (j - (k + 1)) + 1 by omega]
   simpa using h2
theorem posN_none : ∀ (l : List Nat) (k b : Nat), posN l k b = none → b ∉ l
 | [], _, _, _ => by simp
 | x :: xs, k, b, h => by
  unfold posN at h
  split at h
  ·cases h
  ·rename_i e
   have := posN_none xs (k + 1) b h
   simp only [List.mem_cons, not_or]
   exact ⟨fun e' => by subst e'; simp at e, this⟩
def reach (m : List Blk) : Nat → A → List Nat
 | 0, _ => []
 | d + 1, x => match x with
  | .ref b _ => b :: match m.getD b .dead with
   | .box _ cs => (cs.map (reach m d)).flatten
   | _ => []
  | .oref b _ _ => [b]
  | .own b => [b]
  | .omap b => [b]
  | .agg cs => (cs.map (reach m d)).flatten
  | .tup cs => (cs.map (reach m d)).flatten
  | .fn _ cs => (cs.map (reach m d)).flatten
  | _ => []
def ddN : List Nat → List Nat → List Nat
 | _, [] => []
 | acc, x :: xs => match memN0 x acc with
  | true => ddN acc xs
  | false => x :: ddN (x :: acc) xs
where memN0 (i : Nat) : List Nat → Bool
 | [] => false
 | j :: js => match Nat.beq i j with
  | true => true
  | false => memN0 i js
def fNL : List Nat → (List Nat → Prop) → Prop
 | [], K => K []
 | x :: xs, K => fnat x fun y => fNL xs fun ys => K (y :: ys)
theorem fNL_eq : ∀ (l : List Nat) (K : List Nat → Prop), fNL l K = K l
 | [], _ => rfl
 | x :: xs, K => by simp only [fNL, fnat_eq, fNL_eq xs]
def nodupB : List Nat → Bool
 | [] => true
 | x :: xs => match ddN.memN0 x xs with
  | true => false
  | false => nodupB xs
theorem memN0_iff {i : Nat} : ∀ {l : List Nat}, ddN.memN0 i l = true ↔ i ∈ l
 | [] => by simp [ddN.memN0]
 | x :: xs => by
  unfold ddN.memN0
  split
  ·rename_i h; have := Nat.eq_of_beq_eq_true h; simp [this]
  ·rename_i h
   have hne : i ≠ x := fun e => by subst e; simp at h
   simp [hne, memN0_iff (l := xs)]
theorem nodupB_sound : ∀ {l : List Nat}, nodupB l = true → l.Nodup
 | [], _ => List.nodup_nil
 | x :: xs, h => by
  unfold nodupB at h
  split at h
  ·cases h
  ·rename_i hn
   refine List.nodup_cons.2 ⟨fun hm => ?_, nodupB_sound h⟩
   rw [memN0_iff.2 hm] at hn; cases hn
def handable : Blk → Bool
 | .box _ _ => true
 | .row _ _ _ _ => true
 | .nest _ _ _ _ _ _ _ => true
 | .mapb _ _ _ _ => true
 | _ => false
def okR (m : List Blk) : List Nat → Bool
 | [] => true
 | b :: bs => match handable (m.getD b .dead) with
  | true => okR m bs
  | false => false
theorem okR_sound {m : List Blk} : ∀ {l : List Nat}, okR m l = true → ∀ b ∈ l, handable (m.getD b .dead) = true ∧ b < m.length
 | [], _, b, hb => by simp at hb
 | x :: xs, h, b, hb => by
  unfold okR at h
  split at h
  ·rename_i hx
   rcases List.mem_cons.1 hb with rfl | hb
   ·refine ⟨hx, ?_⟩
    rcases Nat.lt_or_ge b m.length with h' | h'
    ·exact h'
    ·rw [List.getD_eq_getElem?_getD, List.getElem?_eq_none h'] at hx; simp [handable] at hx
   ·exact okR_sound h b hb
  ·cases h
/-- The names that are watched: rows that are handed as they are, and all boxes and maps. -/
def ghA : A → A
 | .own b => .own b
 | _ => .junk
def ghB (m : List Blk) : Nat → List Nat → List A
 | _, [] => []
 | k, b :: bs => (match m.getD b .dead with
  | .box _ _ => .ref k 0
  | .mapb _ _ _ _ => .omap k
  | _ => .junk) :: ghB m (k + 1) bs
abbrev renAll (f : Nat → Option Nat) : Ren := ⟨f, f, f⟩
def backN (ρ : List Nat) (M : Nat) : Nat → Option Nat
 | 0 => none
 | j + 1 => match Nat.blt j ρ.length with
  | true => some (ρ.getD j 0)
  | false => some (M + (j - ρ.length))
def keepR (ρ : List Nat) (go : List A) (n : Nat) (b : Nat) : Option Nat :=
 match posN ρ 0 b with
 | none => some b
 | some k => match go.getD (n + k) .junk with
  | .ref k' o => match Nat.beq k' (k + 1), o with
   | true, 0 => some b
   | _, _ => none
  | _ => none
def keepM (ρ : List Nat) (go : List A) (n : Nat) (b : Nat) : Option Nat :=
 match posN ρ 0 b with
 | none => some b
 | some k => match go.getD (n + k) .junk with
  | .omap k' => match Nat.beq k' (k + 1) with
   | true => some b
   | false => none
  | _ => none
def anyOwn (k : Nat) : List A → List A → Bool
 | .own b :: as, g :: gs => match Nat.beq b k, g with
  | true, .own b' => match Nat.beq b' k with
   | true => true
   | false => anyOwn k as gs
  | _, _ => anyOwn k as gs
 | _ :: as, _ :: gs => anyOwn k as gs
 | _, _ => false
def sameSz (x y : Blk) : Bool :=
 match x, y with
 | .row _ sz _ _, .row _ sz' _ _ => Nat.beq sz sz'
 | .nest _ _ _ _ _ _ _, .nest _ _ _ _ _ _ _ => true
 | _, _ => false
def keepO (ρ : List Nat) (as go : List A) (m mo : List Blk) (b : Nat) : Option Nat :=
 match posN ρ 0 b with
 | none => some b
 | some k => match anyOwn (k + 1) as go, sameSz (m.getD b .dead) (mo.getD k .dead) with
  | true, true => some b
  | _, _ => none
def noGhost : List Blk → Bool
 | [] => true
 | .ghost _ :: _ => false
 | .gone :: _ => false
 | _ :: xs => noGhost xs

def muOf (ids : Ids) : Nat → Prop := fun x => ∃ p, IdE.lv p ∈ ids ∧ p.has x
/-- A function that is handed blocks, and hands some back. -/
def MCalls (P : Program) (G : GInv) (f : FuncId) (args : List A) (mi : List Blk) (r : A) (mo : List Blk) : Prop :=
 (∃ fn cd, P.funcs[f]? = some fn ∧ fn.body = some cd ∧ (fn.name == "runtime.NumGoroutine") = false) ∧
 ∀ (im : Nat → Prop) (w : World) (vs gs : List Value) (ids : Ids), G.ok ⟨w, im, muOf ids, gs⟩ → Sim ⟨w, im, muOf ids, gs⟩ args mi ⟨vs.toArray, []⟩ w ids →
  Calls P f vs.toArray w fun e w' => ∃ v ids', e = .returned v ∧ Sim ⟨w, im, muOf ids, gs⟩ [r] mo ⟨#[v], []⟩ w' ids'
def sCallM (P : Program) (G : GInv) (f : A) (args : List A) (s : List A) (m : List Blk) (K : List A → A → List Blk → Prop) : Prop :=
 match f with
 | .fn g cap => fd.fdl 4 (args ++ cap) fun as => fNL (ddN [] ((as.map (reach m 8)).flatten)) fun ρ => match okR m ρ, nodupB ρ with
  | true, true => fd.fdl 4 (as.map (renA (renAll (posN ρ 1)) 4)) fun as' =>
   fbs (.ghost (as'.map ghA ++ ghB m 1 ρ) :: ρ.map fun b => renB (renAll (posN ρ 1)) 4 (m.getD b .dead)) fun mi =>
   ∃ r mo, MCalls P G g as' mi r mo ∧ match mo with
    | .ghost go :: mo' => match noGhost mo', Nat.ble ρ.length mo'.length with
     | true, true =>
      fd.fdl 4 (s.map (renA ⟨keepR ρ go as'.length, keepO ρ as' go m mo', keepM ρ go as'.length⟩ 4)) fun s' =>
      fbs (setMany ρ (mo'.map (renB (renAll (backN ρ m.length)) 4)) (m.map (renB ⟨keepR ρ go as'.length, keepO ρ as' go m mo', keepM ρ go as'.length⟩ 4)) ++ (mo'.drop ρ.length).map (renB (renAll (backN ρ m.length)) 4)) fun m' =>
      fd 4 (renA (renAll (backN ρ m.length)) 4 r) fun r' => K s' r' m'
     | _, _ => False
    | _ => False
  | _, _ => False
 | _ => False
end Go.Proofs.Ytfhdmhoeopbhnaa.Am

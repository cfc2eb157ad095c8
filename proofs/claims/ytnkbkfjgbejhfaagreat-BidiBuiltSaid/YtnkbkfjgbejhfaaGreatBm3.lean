/-
  THE ENGINE, part 3: an abstract machine of symbolic values, each step proved sound.
-/
import Derived.Test.YtnkbkfjgbejhfaaGreatBm2
import Derived.Laws.BytesArg
import Derived.ProofKit
import Derived.LaidMore
import Derived.OpenShut
import Derived.Stop.Joined
import Derived.Orders
set_option linter.unusedSimpArgs false
set_option linter.unusedSectionVars false
set_option linter.unusedVariables false
namespace Go.Proofs.YtnkbkfjgbejhfaaGreat.Am
variable [Inhabited DRT]
open Go.RowKit (Below)
section
variable {c : Ctx} {s : List A} {m : List Blk} {a : Act} {w w' : World} {ids ids' : Ids} {P : Program} {im im' : Nat → Prop} {tt : TT} {G : GInv}
variable {next : Act → World → Prop} {Q : Exit → Act → World → Prop} {o : Oper}

theorem del_run {t kt et : TypeId} {agg : Bool} {sh : List KS} (ht : P.underlying t = some (.map kt et)) (hkt : KeyT P kt agg sh) {k : List KC} (hk : kOk sh k)
  {r : Nat} {es : Array MapEntry} {clock : Nat} (hh : w.heap[r]? = some (.map es clock)) {f : Nat → List KC} (hf : ∀ i (h : i < es.size), kOk sh (f i) ∧ es[i].key = kV agg sh (f i)) (t' ty : TypeId) :
  (∃ i, ∃ (_ : i < es.size), f i = k ∧ (Builtin.delete_ #[t, t'] ty #[.map (some r), kV agg sh k]).run P w = .ok (.tuple #[]) { w with heap := w.heap.setIfInBounds r (.map (es.eraseIdxIfInBounds i) clock) }) ∨
  ((∀ i, i < es.size → f i ≠ k) ∧ (Builtin.delete_ #[t, t'] ty #[.map (some r), kV agg sh k]).run P w = .ok (.tuple #[]) { w with heap := w.heap.setIfInBounds r (.map es clock) }) := by
 obtain ⟨res, e1, e2⟩ := find_run (w := w) hkt hk es f hf
 have hc := hkt.chk (w := w) hk es.isEmpty
 rcases e2 with ⟨rfl, e2⟩ | ⟨i, hi, e2, rfl⟩
 ·refine .inr ⟨e2, ?_⟩
  have hso := MapKept.run_setObj_map (P := P) (.map es clock) hh
  simp [Builtin.delete_, run_underlying ht, MapKept.run_getObj_map hh, hc, e1, hso]
 ·refine .inl ⟨i, hi, e2, ?_⟩
  have hso := MapKept.run_setObj_map (P := P) (.map (es.eraseIdxIfInBounds i) clock) hh
  simp [Builtin.delete_, run_underlying ht, MapKept.run_getObj_map hh, hc, e1, hso]

theorem sDel_sound (htt : TTok P tt) (hs : Sim c s m a w ids) {t t' : TypeId} {X Y : Operand} (ho : o.op = .call { callee := .builtin .delete, args := #[X, Y], argTypes := #[t, t'] }) {K : KT} (h : sDel tt t (ev s X) (ev s Y) m K) (hn : NextOk c s o K next) : o.wp P a w next Q := by
 have e : (execOp a.eval o) = (do pure (.value (← Builtin.delete_ #[t, t'] o.type #[a.eval X, a.eval Y]))) := by
  obtain ⟨dst, op, ty, pos, after, guard⟩ := o
  simp only at ho; subst ho
  rw [BigFrame.execOp_builtin, BigFrame.builtin_delete]; simp
 unfold sDel at h
 obtain ⟨kt, et, agg, sh, z, zv, h1, h2, _, _, h⟩ := mapTy_inv htt h (imOf c ids w) w
 split at h
 ·rename_i k b hk hx'
  have hx := hs.ev X; rw [hx'] at hx
  obtain ⟨g1, g2⟩ := keyA_rel hk (hs.ev Y)
  split at h
  ·rename_i agg' sh' has val hmb
   split at h
   ·rename_i hb1 hb2
    have hb1 := boolEq_iff hb1
    have hb2 := ksEq_iff hb2
    subst hb1; subst hb2
    rw [setB_eq] at h
    obtain ⟨p, h5, h6⟩ := hs.omap_at hx (by rw [hmb]; simp)
    obtain ⟨x, hxm, hbr⟩ := hs.blk_at h5
    rw [getD_of_get hxm] at hmb; subst hmb
    obtain ⟨es, clock, f, q1, q2, q3, q4, q5, q6, q7⟩ := hbr
    have htup : ∀ w', Rel ids (imOf c ids w') w' (.tup []) (.tuple #[]) := fun w' => .imm (.tup [] [] rfl (fun _ h => by simp at h))
    rcases del_run (w := w) h1 h2 g1 q1 (fun i hi => ⟨(q2 i hi).1, (q2 i hi).2.1⟩) t' o.type with ⟨i, hi, e1, e2⟩ | ⟨e1, e2⟩
    ·refine wp_of_run (by rw [e, h6, g2]; simp only [Sem.run_bind, e2, Result.andThen_ok]; rfl) (hn _ _ _ _ ids h ((hs.setObj b p h5 _ _ ?_).putD _ (htup _)))
     intro w' hw' hm'
     have hsz : (es.eraseIdxIfInBounds i).size = es.size - 1 := by simp only [Array.eraseIdxIfInBounds, hi, dif_pos]; simp
     have hget : ∀ j (hj : j < (es.eraseIdxIfInBounds i).size), (es.eraseIdxIfInBounds i)[j] = if h : j < i then es[j]'(by omega) else es[j + 1]'(by omega) := by
      intro j hj
      simp only [Array.eraseIdxIfInBounds, hi, dif_pos]
      rw [Array.getElem_eraseIdx]
     obtain ⟨F, F1, F2⟩ : ∃ F : Nat → List KC, (∀ j, j < i → F j = f j) ∧ ∀ j, ¬ j < i → F j = f (j + 1) := ⟨fun j => if j < i then f j else f (j + 1), fun j h => by simp [h], fun j h => by simp [h]⟩
     refine ⟨_, clock, F, hw', ?_, ?_, ?_, ?_, ?_, ?_⟩
     ·intro j hj
      rw [hget j hj]
      by_cases hji : j < i
      ·rw [dif_pos hji, F1 j hji]
       exact ⟨(q2 j (by omega)).1, (q2 j (by omega)).2.1, by
        unfold putH; rw [if_neg (fun he => by have := q3 j i (by omega) hi (by rw [he, e1]); omega)]; exact (q2 j (by omega)).2.2⟩
      ·rw [dif_neg hji, F2 j hji]
       exact ⟨(q2 (j + 1) (by omega)).1, (q2 (j + 1) (by omega)).2.1, by
        unfold putH; rw [if_neg (fun he => by have := q3 (j + 1) i (by omega) hi (by rw [he, e1]); omega)]; exact (q2 (j + 1) (by omega)).2.2⟩
     ·intro j j' g3 g4 g5
      by_cases hj : j < i <;> by_cases hj' : j' < i
      ·rw [F1 j hj, F1 j' hj'] at g5; exact q3 j j' (by omega) (by omega) g5
      ·rw [F1 j hj, F2 j' hj'] at g5; have := q3 j (j' + 1) (by omega) (by omega) g5; omega
      ·rw [F2 j hj, F1 j' hj'] at g5; have := q3 (j + 1) j' (by omega) (by omega) g5; omega
      ·rw [F2 j hj, F2 j' hj'] at g5; have := q3 (j + 1) (j' + 1) (by omega) (by omega) g5; omega
     ·intro k' g3 g4
      unfold putH at g4
      split at g4
      ·cases g4
      ·rename_i hne
       obtain ⟨j, hj, hj'⟩ := q4 k' g3 g4
       have hji : j ≠ i := fun he => hne (by rw [← hj', he, e1])
       by_cases hlt : j < i
       ·exact ⟨j, by omega, by rw [F1 j hlt]; exact hj'⟩
       ·exact ⟨j - 1, by omega, by rw [F2 (j - 1) (by omega), show j - 1 + 1 = j by omega]; exact hj'⟩
     ·intro j hj
      rw [hget j hj]
      by_cases hji : j < i
      ·rw [dif_pos hji, F1 j hji]; exact hm' _ _ (q5 j (by omega))
      ·rw [dif_neg hji, F2 j hji]; exact hm' _ _ (q5 (j + 1) (by omega))
     ·intro j hj
      rw [hget j hj]
      split
      ·exact q6 j (by omega)
      ·exact q6 (j + 1) (by omega)
     ·intro j j' hj hj' he
      rw [hget j hj, hget j' hj'] at he
      split at he <;> split at he
      ·exact q7 j j' (by omega) (by omega) he
      ·have := q7 j (j' + 1) (by omega) (by omega) he; omega
      ·have := q7 (j + 1) j' (by omega) (by omega) he; omega
      ·have := q7 (j + 1) (j' + 1) (by omega) (by omega) he; omega
    ·refine wp_of_run (by rw [e, h6, g2]; simp only [Sem.run_bind, e2, Result.andThen_ok]; rfl) (hn _ _ _ _ ids h ((hs.setObj b p h5 _ _ ?_).putD _ (htup _)))
     intro w' hw' hm'
     refine ⟨_, clock, f, hw', ?_, q3, ?_, fun j hj => hm' _ _ (q5 j hj), q6, q7⟩
     ·intro j hj
      exact ⟨(q2 j hj).1, (q2 j hj).2.1, by unfold putH; rw [if_neg (e1 j hj)]; exact (q2 j hj).2.2⟩
     ·intro k' g3 g4
      unfold putH at g4
      split at g4
      ·cases g4
      ·exact q4 k' g3 g4
   ·exact h.elim
  ·exact h.elim
 ·exact h.elim
/-! ### Entries of maps that are laid, and then written -/
theorem ent_run {t kt et : TypeId} {agg : Bool} {sh : List KS} (ht : P.underlying t = some (.map kt et)) (hkt : KeyT P kt agg sh) {zv : Value} (hz : (zeroValue et).run P w = .ok zv w) {k : List KC} (hk : kOk sh k)
  {r : Nat} {es : Array MapEntry} {clock : Nat} (hh : w.heap[r]? = some (.map es clock)) {f : Nat → List KC} (hf : ∀ i (h : i < es.size), kOk sh (f i) ∧ es[i].key = kV agg sh (f i)) :
  (∃ i, ∃ (h : i < es.size), f i = k ∧ (Instr.mapEntry t (.map (some r)) (kV agg sh k)).run P w = .ok (.tuple #[es[i].val, .int .i64 (es[i].born : Nat)]) { w with heap := w.heap.setIfInBounds r (.map (es.modify i fun e => { e with key := kV agg sh k }) clock) }) ∨
  ((∀ i, i < es.size → f i ≠ k) ∧ (Instr.mapEntry t (.map (some r)) (kV agg sh k)).run P w = .ok (.tuple #[zv, .int .i64 (clock : Nat)]) { w with heap := w.heap.setIfInBounds r (.map (es.push { key := kV agg sh k, val := zv, born := clock }) (clock + 1)) }) := by
 obtain ⟨res, e1, e2⟩ := find_run (w := w) hkt hk es f hf
 have hc := hkt.chk (w := w) hk false
 rcases e2 with ⟨rfl, e2⟩ | ⟨i, hi, e2, rfl⟩
 ·refine .inr ⟨e2, ?_⟩
  have hso := MapKept.run_setObj_map (P := P) (.map (es.push { key := kV agg sh k, val := zv, born := clock }) (clock + 1)) hh
  simp only [Instr.mapEntry, Sem.run_bind, run_underlying ht, Result.andThen_ok, MapKept.run_getObj_map hh, hc, e1, hz, hso]
  rfl
 ·refine .inl ⟨i, hi, e2, ?_⟩
  have hst : (Instr.keyThatStays (((es[i]?).map (·.key)).getD (kV agg sh k)) (kV agg sh k)).run P w = .ok (kV agg sh k) w := by
   have : ((es[i]?).map (·.key)).getD (kV agg sh k) = kV agg sh k := by
    rw [Array.getElem?_eq_getElem hi]
    show es[i].key = _
    rw [(hf i hi).2, e2]
   rw [this]
   unfold Instr.keyThatStays
   rw [if_pos (sameBits_kV hk hkt.len1)]
   rfl
  have hso := MapKept.run_setObj_map (P := P) (.map (es.modify i fun e => { e with key := kV agg sh k }) clock) hh
  simp only [Instr.mapEntry, Sem.run_bind, run_underlying ht, Result.andThen_ok, MapKept.run_getObj_map hh, hc, e1, hst, hso]
  rw [Array.getElem?_eq_getElem hi]
  rfl
theorem est_run {t : TypeId} {r : Nat} {es : Array MapEntry} {clock : Nat} (hh : w.heap[r]? = some (.map es clock)) {i : Nat} (hi : i < es.size) (hu : ∀ j (h : j < es.size), es[j].born = es[i].born → j = i) (v : Value) :
  (Instr.entryStore t (.map (some r)) (.int .i64 (es[i].born : Nat)) v).run P w = .ok () { w with heap := w.heap.setIfInBounds r (.map (es.modify i fun e => { e with val := v }) clock) } := by
 have hso := MapKept.run_setObj_map (P := P) (.map (es.modify i fun e => { e with val := v }) clock) hh
 have hfi : es.findIdx? (fun e => (e.born : Int) == ((es[i].born : Nat) : Int)) = some i := by
  rw [Array.findIdx?_eq_some_iff_getElem]
  refine ⟨hi, by simp, fun j hj => ?_⟩
  have hne : es[j].born ≠ es[i].born := fun e => by have := hu j (by omega) e; omega
  have hne' : ((es[j].born : Nat) : Int) ≠ ((es[i].born : Nat) : Int) := fun e => hne (by omega)
  simp
  exact hne'
 have e1 : (asInt (.int .i64 ((es[i].born : Nat) : Int))).run P w = .ok ((es[i].born : Nat) : Int) w := by simp [asInt, asIntOf]
 simp only [Instr.entryStore, Sem.run_bind, MapKept.run_getObj_map hh, Result.andThen_ok, e1, hfi, hso]
/-- A block of ours that is an object is written, and what is known of its entries grows. -/
theorem Sim.setObjH (hs : Sim c s m a w ids) (b : Nat) (p p' : Id) (hid : ids[b]? = some (.lv p)) (hl : p.like p') (hk : ∀ x, p'.has x → p.has x) (x : Blk) (ob : Obj)
  (hx : ∀ w', w'.heap[p.blk]? = some ob → (∀ a v, RelI (imOf c ids w) w a v → RelI (imOf c (ids.set b (.lv p')) w') w' a v) → BRel (ids.set b (.lv p')) (imOf c (ids.set b (.lv p')) w') w' x (.lv p')) :
  Sim c s (m.set b x) a { w with heap := w.heap.setIfInBounds p.blk ob } (ids.set b (.lv p')) := by
 have hmem : IdE.lv p ∈ ids := List.mem_of_getElem? hid
 have hfr := hs.fresh p hmem
 have hbi : b < ids.length := (List.getElem?_eq_some_iff.1 hid).1
 have hsz : ({ w with heap := w.heap.setIfInBounds p.blk ob } : World).heap.size = w.heap.size := by simp
 have hoth : ∀ k, k ≠ p.blk → ({ w with heap := w.heap.setIfInBounds p.blk ob } : World).heap[k]? = w.heap[k]? := by
  intro k hk; simp [Array.getElem?_setIfInBounds_ne (fun e => hk e.symm)]
 have mem : ∀ (k : Nat) (r : Id), (ids.set b (.lv p'))[k]? = some (.lv r) → (k = b ∧ r = p') ∨ (k ≠ b ∧ ids[k]? = some (.lv r)) := by
  intro k r h
  rw [List.getElem?_set] at h
  split at h
  ·rename_i e; subst e
   cases h; exact .inl ⟨rfl, rfl⟩
  ·rename_i hne; exact .inr ⟨fun e => hne e.symm, h⟩
 have hown : ∀ r, IdE.lv r ∈ ids.set b (.lv p') → ∀ x, r.has x → x < ({ w with heap := w.heap.setIfInBounds p.blk ob } : World).heap.size ∧ (w.heap.size ≤ x ∨ ∃ (b : Nat) (p : Id), ids[b]? = some (.lv p) ∧ p.has x) := by
  intro r hr y hy
  obtain ⟨k, hk'⟩ := List.getElem?_of_mem hr
  rcases mem k r hk' with ⟨_, rfl⟩ | ⟨_, e⟩
  ·exact ⟨by rw [hsz]; exact (hs.freshX p hmem y (hk y hy)).2, .inr ⟨b, p, hid, hk y hy⟩⟩
  ·exact ⟨by rw [hsz]; exact (hs.freshX r (List.mem_of_getElem? e) y hy).2, .inr ⟨k, r, e, hy⟩⟩
 have hbl : ∀ k, k < w.heap.size → (∀ (b : Nat) (p : Id), ids[b]? = some (.lv p) → ¬ p.has k) → ({ w with heap := w.heap.setIfInBounds p.blk ob } : World).heap[k]? = w.heap[k]? :=
  fun k _ hk => hoth k (fun e => hk b p hid (.inl e))
 obtain ⟨hi1, hi2⟩ := hs.im_stays (w' := { w with heap := w.heap.setIfInBounds p.blk ob }) (ids' := ids.set b (.lv p')) (by rw [hsz]; exact Nat.le_refl _) hbl hown
 have hd : ∀ (k : Nat) r, ids[k]? = some r → r ≠ .dead → ∃ q, (ids.set b (.lv p'))[k]? = some q ∧ likeE r q := by
  intro k r hr _
  rw [List.getElem?_set]
  split
  ·rename_i e; subst e
   rw [hid] at hr; cases hr
   exact ⟨_, rfl, p', rfl, hl⟩
  ·exact ⟨r, hr, likeE_rfl r⟩
 refine hs.goOn rfl rfl rfl (by rw [hsz]; exact Nat.le_refl _) hbl hown (fun vs h => by
  rcases List.mem_or_eq_of_mem_set h with h | h
  ·exact h
  ·cases h) ?_ rfl (by simp [hs.mlen]) (fun i h h' => (hs.slots i h h').reid hi1 hi2 hd) ?_
 ·intro k k' r r' x e1 e2 x1 x2
  rcases mem k r e1 with ⟨rfl, rfl⟩ | ⟨ne, e⟩ <;> rcases mem k' r' e2 with ⟨rfl, rfl⟩ | ⟨ne', e'⟩
  ·rfl
  ·exact absurd (hs.distinctX _ _ p r' x hid e' (hk x x1) x2).symm ne'
  ·exact absurd (hs.distinctX _ _ r p x e hid x1 (hk x x2)) ne
  ·exact hs.distinctX k k' r r' x e e' x1 x2
 ·intro k hk1 hk2
  simp only [List.length_set] at hk1 hk2
  rw [List.getElem_set, List.getElem_set]
  split
  ·refine hx _ ?_ (fun a v h => h.mono hi1 hi2)
   simp [hfr.2]
  ·rename_i he
   refine (hs.blks k hk1 hk2).reid hi1 hi2 hd ?_
   intro q hq y hy
   refine hoth y (fun e => he ?_)
   exact hs.distinctX b k p q y hid (by rw [List.getElem?_eq_getElem hk2, hq]) (.inl e) hy
def sEnt (tt : TT) (t : TypeId) (x key : A) (m : List Blk) (K : KT) : Prop :=
 mapTy tt t fun agg sh _ => match keyA agg sh key, x with
  | some k, .omap b => match m.getD b .dead with
   | .mapx agg' sh' has val => match boolEq agg agg', ksEq sh sh' with
    | true, true => setB m b (.mapx agg' sh' (putH has k true) (putV val k .junk)) fun m' => K (.tup [.junk, .ent b k]) m'
    | _, _ => False
   | _ => False
  | _, _ => False
def sESt (x st v : A) (m : List Blk) (K : KT) : Prop :=
 match x, st, hasOwn 4 v with
 | .omap b, .ent b' k, false => match Nat.beq b b', m.getD b .dead with
  | true, .mapx agg sh has val => fd 4 v fun v' => setB m b (.mapx agg sh has (putV val k v')) fun m' => K .junk m'
  | _, _ => False
 | _, _, _ => False
theorem sEnt_sound (htt : TTok P tt) (hs : Sim c s m a w ids) {t : TypeId} {X Y : Operand} (ho : o.op = .mapEntry t X Y) {K : KT} (h : sEnt tt t (ev s X) (ev s Y) m K) (hn : NextOk c s o K next) : o.wp P a w next Q := by
 have e : execOp a.eval o = (do pure (.value (← Instr.mapEntry t (a.eval X) (a.eval Y)))) := by
  obtain ⟨dst, op, ty, pos, after, guard⟩ := o
  simp only at ho; subst ho; rfl
 unfold sEnt at h
 obtain ⟨kt, et, agg, sh, z, zv, h1, h2, hz, _, h⟩ := mapTy_inv htt h (imOf c ids w) w
 split at h
 ·rename_i k b hk hx'
  have hx := hs.ev X; rw [hx'] at hx
  obtain ⟨g1, g2⟩ := keyA_rel hk (hs.ev Y)
  split at h
  ·rename_i agg' sh' has val hmb
   split at h
   ·rename_i hb1 hb2
    have hb1 := boolEq_iff hb1
    have hb2 := ksEq_iff hb2
    subst hb1; subst hb2
    rw [setB_eq] at h
    obtain ⟨p, h5, h6⟩ := hs.omap_at hx (by rw [hmb]; simp)
    obtain ⟨x, hxm, hbr⟩ := hs.blk_at h5
    rw [getD_of_get hxm] at hmb; subst hmb
    obtain ⟨es, clock, f, q1, q2, q3, q4, q5, q6, q7, q8⟩ := hbr
    have hbi : b < ids.length := (List.getElem?_eq_some_iff.1 h5).1
    rcases ent_run h1 h2 hz g1 q1 (fun i hi => ⟨(q2 i hi).1, (q2 i hi).2.1⟩) with ⟨i, hi, e1, e2⟩ | ⟨e1, e2⟩
    ·refine wp_of_run (by rw [e, h6, g2]; simp only [Sem.run_bind, e2, Result.andThen_ok]; rfl) (hn _ _ _ _ _ h ((hs.setObjH b p p h5 p.like_rfl (fun _ h => h) _ _ ?_).putD _ ?_))
     ·intro w' hw' hm'
      refine ⟨_, clock, f, hw', ?_, ?_, ?_, ?_, ?_, q7, ?_⟩
      ·intro j hj
       have hj' : j < es.size := by simpa using hj
       rw [Array.getElem_modify]
       split
       ·rename_i hij; subst hij
        exact ⟨(q2 i hj').1, by rw [e1], by simp [putH, e1]⟩
       ·exact ⟨(q2 j hj').1, (q2 j hj').2.1, by
         unfold putH; split
         ·rfl
         ·exact (q2 j hj').2.2⟩
      ·intro i j g3 g4; exact q3 i j (by simpa using g3) (by simpa using g4)
      ·intro k' g3 g4
       unfold putH at g4
       split at g4
       ·rename_i he; subst he; exact ⟨i, by simpa using hi, e1⟩
       ·obtain ⟨j, hj, hj'⟩ := q4 k' g3 g4; exact ⟨j, by simpa using hj, hj'⟩
      ·intro j hj
       have hj' : j < es.size := by simpa using hj
       rw [Array.getElem_modify]
       split
       ·rename_i hij; subst hij
        unfold putV; rw [if_pos e1]; exact .junk _
       ·rename_i hij
        unfold putV; rw [if_neg (fun he => hij (q3 i j hi hj' (by rw [e1, he])))]
        exact hm' _ _ (q5 j hj')
      ·intro j hj
       have hj' : j < es.size := by simpa using hj
       rw [Array.getElem_modify]
       split
       ·exact q6 j hj'
       ·exact q6 j hj'
      ·intro n k' hn'
       obtain ⟨j, hj, e3, e4⟩ := q8 n k' hn'
       refine ⟨j, by simpa using hj, ?_, e4⟩
       rw [Array.getElem_modify]
       split <;> exact e3
     ·refine .tup [.junk, .ent b k] [_, _] rfl fun j hj hj' => ?_
      match j with
      | 0 => exact .imm (.junk _)
      | 1 => exact .ent b k p _ (by rw [List.getElem?_set_self hbi]) (by rw [q6 i hi, e1])
    ·refine wp_of_run (by rw [e, h6, g2]; simp only [Sem.run_bind, e2, Result.andThen_ok]; rfl)
      (hn _ _ _ _ _ h ((hs.setObjH b p ⟨p.blk, p.k, p.n, p.sz, p.kid, fun n => if n = clock then some k else p.hist n⟩ h5 ⟨rfl, rfl, rfl, rfl, fun n k' hh => by
       show (if n = clock then some k else p.hist n) = some k'
       rw [if_neg (fun e => by subst e; rw [q7 n (Nat.le_refl _)] at hh; cases hh)]; exact hh⟩ (fun _ h => h) _ _ ?_).putD _ ?_))
     ·intro w' hw' hm'
      obtain ⟨F, F1, F2⟩ : ∃ F : Nat → List KC, F es.size = k ∧ ∀ j, j < es.size → F j = f j := ⟨fun j => if j = es.size then k else f j, by simp, fun j h => by simp [Nat.ne_of_lt h]⟩
      refine ⟨_, clock + 1, F, hw', ?_, ?_, ?_, ?_, ?_, ?_, ?_⟩
      ·intro j hj
       have hj' : j < es.size + 1 := by simpa using hj
       rw [Array.getElem_push]
       split
       ·rename_i hlt
        rw [F2 j hlt]
        exact ⟨(q2 j hlt).1, (q2 j hlt).2.1, by
         unfold putH; split
         ·rfl
         ·exact (q2 j hlt).2.2⟩
       ·rename_i hlt
        have : j = es.size := by omega
        rw [this, F1]
        exact ⟨g1, rfl, by simp [putH]⟩
      ·intro i j g3 g4 g5
       have g3 : i < es.size + 1 := by simpa using g3
       have g4 : j < es.size + 1 := by simpa using g4
       by_cases hi : i < es.size <;> by_cases hj : j < es.size
       ·rw [F2 i hi, F2 j hj] at g5; exact q3 i j hi hj g5
       ·have : j = es.size := by omega
        rw [this, F1, F2 i hi] at g5; exact absurd g5 (e1 i hi)
       ·have : i = es.size := by omega
        rw [this, F1, F2 j hj] at g5; exact absurd g5.symm (e1 j hj)
       ·omega
      ·intro k' g3 g4
       unfold putH at g4
       split at g4
       ·rename_i he; subst he; exact ⟨es.size, by simp, F1⟩
       ·obtain ⟨j, hj, hj'⟩ := q4 k' g3 g4
        exact ⟨j, by simp; omega, by rw [F2 j hj]; exact hj'⟩
      ·intro j hj
       have hj' : j < es.size + 1 := by simpa using hj
       rw [Array.getElem_push]
       split
       ·rename_i hlt
        rw [F2 j hlt]
        unfold putV; rw [if_neg (e1 j hlt)]
        exact hm' _ _ (q5 j hlt)
       ·rename_i hlt
        have : j = es.size := by omega
        rw [this, F1]
        unfold putV; rw [if_pos rfl]; exact .junk _
      ·intro j hj
       have hj' : j < es.size + 1 := by simpa using hj
       rw [Array.getElem_push]
       show (if _ = clock then some k else p.hist _) = _
       split
       ·rename_i hlt
        rw [F2 j hlt, if_neg (fun e => ?_)]
        ·exact q6 j hlt
        ·have := q7 _ (Nat.le_of_eq e.symm)
         rw [q6 j hlt] at this; cases this
       ·rename_i hlt
        have : j = es.size := by omega
        rw [this, F1, if_pos rfl]
      ·intro n hn'
       show (if n = clock then some k else p.hist n) = none
       rw [if_neg (by omega)]; exact q7 n (by omega)
      ·intro n k' hn'
       have hn' : (if n = clock then some k else p.hist n) = some k' := hn'
       split at hn'
       ·rename_i en
        cases hn'
        exact ⟨es.size, by simp, by simp [en], F1⟩
       ·obtain ⟨j, hj, e3, e4⟩ := q8 n k' hn'
        refine ⟨j, by simp; omega, ?_, by rw [F2 j hj]; exact e4⟩
        rw [Array.getElem_push, dif_pos hj]; exact e3
     ·refine .tup [.junk, .ent b k] [_, _] rfl fun j hj hj' => ?_
      match j with
      | 0 => exact .imm (.junk _)
      | 1 => exact .ent b k _ _ (by rw [List.getElem?_set_self hbi]) (by show (if clock = clock then some k else _) = _; rw [if_pos rfl])
   ·exact h.elim
  ·exact h.elim
 ·exact h.elim
theorem sESt_sound (hs : Sim c s m a w ids) {t : TypeId} {X Y Z : Operand} (ho : o.op = .entryStore t X Y Z) {K : KT} (h : sESt (ev s X) (ev s Y) (ev s Z) m K) (hn : NextOk c s o K next) : o.wp P a w next Q := by
 have e : execOp a.eval o = (do Instr.entryStore t (a.eval X) (a.eval Y) (a.eval Z); pure .skip) := by
  obtain ⟨dst, op, ty, pos, after, guard⟩ := o
  simp only at ho; subst ho; rfl
 unfold sESt at h
 split at h
 ·rename_i b b' k hx' hy' hown
  have hx := hs.ev X; rw [hx'] at hx
  have hy := hs.ev Y; rw [hy'] at hy
  have hv := hasOwn_rel 4 _ _ hown (hs.ev Z)
  split at h
  ·rename_i agg sh has val hbb hmb
   have hbb := Nat.eq_of_beq_eq_true hbb
   subst hbb
   rw [fd_eq, setB_eq] at h
   obtain ⟨p, h5, h6⟩ := hs.omap_at hx (by rw [hmb]; simp)
   obtain ⟨x, hxm, hbr⟩ := hs.blk_at h5
   rcases hy.ent_inv with ⟨p2, n, g1, g2, g3⟩ | ⟨g1, _⟩
   rotate_left
   ·rw [h5] at g1; cases g1
   rw [h5] at g1; cases g1
   rw [getD_of_get hxm] at hmb; subst hmb
   obtain ⟨es, clock, f, q1, q2, q3, q4, q5, q6, q7, q8⟩ := hbr
   obtain ⟨i, hi, e3, e4⟩ := q8 n k g2
   subst e3
   have hu : ∀ j (h : j < es.size), es[j].born = es[i].born → j = i := fun j hj he => by
    have k1 := q6 j hj
    have k2 := q6 i hi
    rw [he, k2] at k1
    exact q3 j i hj hi (Option.some.inj k1).symm
   have e2 := est_run (P := P) (t := t) q1 hi hu (a.eval Z)
   refine wp_of_skip (by rw [e, h6, g3]; simp only [Sem.run_bind, e2, Result.andThen_ok]; rfl) (hn _ _ _ _ _ h (Sim.junk_put (hs.setObj b p h5 _ _ ?_) _ _))
   intro w' hw' hm'
   refine ⟨_, clock, f, hw', ?_, ?_, ?_, ?_, ?_, q7, ?_⟩
   ·intro j hj
    have hj' : j < es.size := by simpa using hj
    rw [Array.getElem_modify]
    split <;> exact q2 j hj'
   ·intro i j g3 g4; exact q3 i j (by simpa using g3) (by simpa using g4)
   ·intro k' g3 g4
    obtain ⟨j, hj, hj'⟩ := q4 k' g3 g4; exact ⟨j, by simpa using hj, hj'⟩
   ·intro j hj
    have hj' : j < es.size := by simpa using hj
    rw [Array.getElem_modify]
    split
    ·rename_i hij; subst hij
     unfold putV; rw [if_pos e4]; exact hm' _ _ hv
    ·rename_i hij
     unfold putV; rw [if_neg (fun he => hij (q3 i j hi hj' (by rw [e4, he])))]
     exact hm' _ _ (q5 j hj')
   ·intro j hj
    have hj' : j < es.size := by simpa using hj
    rw [Array.getElem_modify]
    split <;> exact q6 j hj'
   ·intro n k' hn'
    obtain ⟨j, hj, e3, e4⟩ := q8 n k' hn'
    refine ⟨j, by simpa using hj, ?_, e4⟩
    rw [Array.getElem_modify]
    split <;> exact e3
  ·exact h.elim
 ·exact h.elim
end

/-! ### A row of bytes of ours, as a text -/
def u8s (row : Nat → List A) : Nat → Option (List UInt8)
 | 0 => some []
 | n + 1 => match u8s row n with
  | some l => match row n with
   | [.int .u8 v] => some (l ++ [UInt8.ofNat v.toNat])
   | _ => none
  | none => none
def sConvB (tt : TT) (src dst : TypeId) (x : A) (m : List Blk) (K : KT) : Prop :=
 match x with
 | .own b => match m.getD b .dead with
  | .row _ sz n row => match tt.lookup src, tt.lookup dst with
   | some si, some di => match si.kind, di.kind, tt.lookup si.ety, Nat.beq sz 1 with
    | 3, 4, some ei, true => match ei.kind, ei.ik, u8s row n with
     | 5, .u8, some l => K (.str l) m
     | _, _, _ => False
    | _, _, _, _ => False
   | _, _ => False
  | _ => False
 | _ => sConv tt src dst x fun v => K v m
theorem u8s_get : ∀ (row : Nat → List A) (n : Nat) (l : List UInt8), u8s row n = some l → l.length = n ∧ ∀ i, i < n → ∃ v : Int, row i = [.int .u8 v] ∧ l[i]? = some (UInt8.ofNat v.toNat)
 | row, 0, l, h => by
  simp only [u8s, Option.some.injEq] at h
  subst h
  exact ⟨rfl, fun i h => absurd h (Nat.not_lt_zero _)⟩
 | row, n + 1, l, h => by
  unfold u8s at h
  split at h
  ·rename_i l0 h0
   obtain ⟨g1, g2⟩ := u8s_get row n l0 h0
   split at h
   ·rename_i v hv
    have h := Option.some.inj h
    subst h
    refine ⟨by simp [g1], fun i hi => ?_⟩
    rcases Nat.lt_or_eq_of_le (Nat.le_of_lt_succ hi) with q | q
    ·obtain ⟨v', e1, e2⟩ := g2 i q
     exact ⟨v', e1, by rw [List.getElem?_append_left (by omega)]; exact e2⟩
    ·subst q
     exact ⟨v, hv, by rw [List.getElem?_append_right (by omega), g1]; simp⟩
   ·cases h
  ·cases h
section
variable {c : Ctx} {s : List A} {m : List Blk} {a : Act} {w w' : World} {ids ids' : Ids} {P : Program} {im im' : Nat → Prop} {tt : TT} {G : GInv}
variable {next : Act → World → Prop} {Q : Exit → Act → World → Prop} {o : Oper}
theorem sConvB_sound (htt : TTok P tt) (hs : Sim c s m a w ids) {X : Operand} {src dst : TypeId} (ho : o.op = .convert src dst X) {K : KT} (h : sConvB tt src dst (ev s X) m K) (hn : NextOk c s o K next) : o.wp P a w next Q := by
 unfold sConvB at h
 split at h
 ·rename_i b hv
  split at h
  ·rename_i ty sz n row hmb
   split at h
   ·rename_i si di hsi hdi
    split at h
    ·rename_i ei hk1 hk2 hei hsz
     split at h
     ·rename_i l hk3 hik hl
      have hsz : sz = 1 := Nat.eq_of_beq_eq_true hsz
      subst hsz
      have hx := hs.ev X
      rw [hv] at hx
      have e : execOp a.eval o = (do let z ← convert src dst (a.eval X); pure (.value z)) := by unfold execOp; rw [ho]
      obtain ⟨_, d1, _, _, hd1, _, _, _, _, _, _, _, _, _, b3, _⟩ := htt.facts hsi
      obtain ⟨_, _, rfl, _⟩ := b3 hk1
      obtain ⟨_, d2, _, _, hd2, _, _, _, _, _, _, _, _, _, _, _, b4, _⟩ := htt.facts hdi
      obtain rfl := b4 hk2
      obtain ⟨_, d3, _, _, hd3, _, _, _, _, _, _, _, _, _, _, b5, _⟩ := htt.facts hei
      obtain rfl := b5 hk3
      rw [hik] at hd3
      obtain ⟨hll, hlg⟩ := u8s_get row n l hl
      rcases hs.own_at hx (by rw [hmb]; simp) with ⟨h1, h2⟩ | ⟨p, cap, h1, _, _, h2⟩
      ·have hb : b < ids.length := by
        rcases Nat.lt_or_ge b ids.length with h' | h'
        ·exact h'
        ·rw [List.getElem?_eq_none h'] at h1; cases h1
       have hm : b < m.length := by rw [← hs.mlen]; exact hb
       have hB := hs.blks b hm hb
       rw [List.getElem?_eq_getElem hb] at h1
       rw [Option.some.inj h1] at hB
       have e2 : m.getD b .dead = m[b] := by rw [List.getD_eq_getElem?_getD, List.getElem?_eq_getElem hm]; rfl
       rw [← e2, hmb] at hB
       have hn0 : n = 0 := hB
       have hl0 : l = [] := List.length_eq_zero_iff.1 (by omega)
       subst hl0
       refine wp_val hs hn ⟨_, .string ByteArray.empty, ?_, h, .imm (.str [])⟩
       have hrun := run_convert_bytes_nil (P := P) (w := w) src si.ety hd1 hd3 0 0 dst hd2
       rw [e, h2]
       simp only [Sem.run_bind, hrun, Result.andThen_ok]
       rfl
      ·obtain ⟨x, hxm, hbr⟩ := hs.blk_at h1
       rw [getD_of_get hxm] at hmb; subst hmb
       obtain ⟨g1, g2, vs, g3, g4, g5, g6, g7⟩ := hbr
       have hcell : ∀ i, i < n → w.cell? ⟨p.blk, 0 + i, none⟩ = some (.int .u8 (((List.range n).map fun i => match row i with | [.int _ v] => v | _ => 0).getD i 0)) := by
        intro i hi
        obtain ⟨v, e1, _⟩ := hlg i hi
        have hlt : i * 1 + 0 < vs.size := by omega
        have hr := (g7 i 0 hi (by rw [g6 i hi]; omega) hlt).1
        have e3 : (row i)[0]'(by rw [g6 i hi]; omega) = .int .u8 v := by simp only [e1, List.getElem_cons_zero]
        rw [e3] at hr
        have hv' : vs[i * 1 + 0] = .int .u8 v := by
         generalize vs[i * 1 + 0] = vv at hr
         cases hr; rfl
        have e4 : ((List.range n).map fun i => match row i with | [.int _ v] => v | _ => 0).getD i 0 = v := by
         simp [List.getD_eq_getElem?_getD, hi, e1]
        rw [e4]
        unfold World.cell?
        simp only [g3, Nat.zero_add]
        have hlt2 : i < vs.size := by omega
        simp only [Nat.mul_one, Nat.add_zero] at hv'
        simp [Array.getElem?_eq_getElem hlt2, hv']
       have hrun := run_convert_bytes_arg (P := P) (w := w) src si.ety hd1 hd3 p.blk 0 n cap ((List.range n).map fun i => match row i with | [.int _ v] => v | _ => 0) (by simp) hcell dst hd2
       refine wp_val hs hn ⟨_, .string ⟨l.toArray⟩, ?_, h, .imm (.str l)⟩
       rw [e, h2, g2]
       have hsl : strOfNums ((List.range n).map fun i => match row i with | [.int _ v] => v | _ => 0) = ⟨l.toArray⟩ := by
        unfold strOfNums
        congr 2
        apply List.ext_getElem?
        intro i
        rcases Nat.lt_or_ge i n with hi | hi
        ·obtain ⟨v, e1, e5⟩ := hlg i hi
         rw [e5]
         simp [hi, e1]
        ·rw [List.getElem?_eq_none (by simpa using hi), List.getElem?_eq_none (by omega)]
       rw [hsl] at hrun
       simp [hrun]
     ·exact h.elim
    ·exact h.elim
   ·exact h.elim
  ·exact h.elim
 ·exact sConv_sound htt hs ho h hn
end

/-! ### One operation, maps and handed blocks among them -/
def stepM (P : Program) (G : GInv) (tt : TT) (o : Oper) (s : List A) (m : List Blk) (K : List A → A → List Blk → Prop) : Prop :=
 match o.op with
 | .call { callee := .value f, args, .. } => sCall P G (ev s f) (args.toList.map (ev s)) m (K s) ∨ sCallM P G (ev s f) (args.toList.map (ev s)) s m K ∨
   fNL (ddN [] (((args.toList.map (ev s)).map (reach m 8)).flatten)) (fun ρ => frzMany ρ s m fun s' m' => sCall P G (ev s' f) (args.toList.map (ev s')) m' (K s')) ∨
   sCallN P G (ev s f) (args.toList.map (ev s)) m (K s)
 | .call { callee := .builtin .delete, args, argTypes } => match args.toList, argTypes.toList with
  | [x, k], [t, _] => sDel tt t (ev s x) (ev s k) m (K s)
  | _, _ => False
 | .makeMap t r => match r with
  | none => sMkMap tt t m (K s)
  | some _ => False
 | .convert src dst x => sConvB tt src dst (ev s x) m (K s)
 | .lookup t x k ok => sLook tt t (ev s x) (ev s k) ok m fun v => K s v m
 | .mapUpdate t x k v => sUpd tt t (ev s x) (ev s k) (ev s v) m (K s)
 | .insert t x k v => sUpd tt t (ev s x) (ev s k) (ev s v) m (K s)
 | .mapEntry t x k => sEnt tt t (ev s x) (ev s k) m (K s)
 | .entryStore _ x st v => sESt (ev s x) (ev s st) (ev s v) m (K s)
 | .range t x => sRange tt t (ev s x) m (K s)
 | .next x str => sNext (ev s x) str m (K s)
 | .entry x => sEntry (ev s x) m fun v => K s v m
 | .buildSlice t len ps => match len, ps.toList with
  | 1, [(0, x)] => match ev s x with
   | .own b' => sBuildN tt t b' s m K
   | _ => stepN P G tt o s m K
  | _, _ => stepN P G tt o s m K
 | .call { callee := .builtin .len, args, argTypes } => match args.toList, argTypes.toList with
  | [x], [t] => match ev s x with
   | .own b => match m.getD b .dead with
    | .nest _ _ _ n _ _ _ => sLenN tt t n s m K
    | _ => stepN P G tt o s m K
   | .omap b => sLenMap tt t (.omap b) m fun v => K s v m
   | .mv g n h v => sLenMap tt t (.mv g n h v) m fun v => K s v m
   | _ => stepN P G tt o s m K
  | _, _ => stepN P G tt o s m K
 | .call { callee := .builtin .append, args, argTypes } => match args.toList, argTypes.toList with
  | [x, y], [t, t'] => match ev s x, ev s y with
   | .own b, .own b2 => match m.getD b .dead, m.getD b2 .dead with
    | .nest ty ety sz n none len row, .nest ty2 ety2 sz2 n2 none len2 row2 => match Nat.beq t' t with
     | true => sAppN tt t b b2 ty ety sz n len row ty2 ety2 sz2 n2 len2 row2 s m K
     | false => False
    | _, _ => stepN P G tt o s m K
   | _, _ => stepN P G tt o s m K
  | _, _ => stepN P G tt o s m K
 | .indexAddr t x i => match ev s x with
  | .own b => match m.getD b .dead with
   | .mgrid _ _ _ n _ _ _ _ _ => sIdxG tt t b n (ev s i) fun v => K s v m
   | _ => stepN P G tt o s m K
  | _ => stepN P G tt o s m K
 | .load t x => match ev s x with
  | .oref b i off => match m.getD b .dead with
   | .mgrid _ _ _ n hi cs _ _ _ => sLoadG tt t i off n hi cs fun v => K s v m
   | _ => stepN P G tt o s m K
  | _ => stepN P G tt o s m K
 | .store t x y => match ev s x with
  | .oref b i off => match m.getD b .dead with
   | .mgrid ty agg sh n _ cs ini has val => sStoreG tt t i off (ev s y) ty agg sh n cs ini has val fun x' => setB m b x' fun m' => K s .junk m'
   | _ => stepN P G tt o s m K
  | _ => stepN P G tt o s m K
 | _ => stepN P G tt o s m K
section
variable {c : Ctx} {s : List A} {m : List Blk} {a : Act} {w w' : World} {ids ids' : Ids} {P : Program} {im im' : Nat → Prop} {tt : TT} {G : GInv}
variable {next : Act → World → Prop} {Q : Exit → Act → World → Prop} {o : Oper}
theorem stepM_sound (htt : TTok P tt) (hG : G.ok c) (hs : Sim c s m a w ids) {K : List A → A → List Blk → Prop} (h : stepM P G tt o s m K)
  (hn : ∀ s1 v m' a' w' ids', K s1 v m' → Sim c (putD s1 o.dst v) m' a' w' ids' → next a' w') : o.wp P a w next Q := by
 have hn' : NextOk c s o (K s) next := fun v m' a' w' ids' h1 h2 => hn s v m' a' w' ids' h1 h2
 unfold stepM at h
 split at h
 ·rename_i f args ts ho
  rcases h with h | h | h | h
  ·exact sCall_sound hs hG ho h hn'
  ·exact sCallM_sound hs hG ho h hn
  ·rw [fNL_eq] at h
   obtain ⟨s', m', ids', h', hs'⟩ := frzMany_sound _ hs h
   exact sCall_sound hs' hG ho h' (fun v m' a' w' ids' h1 h2 => hn s' v m' a' w' ids' h1 h2)
  ·exact sCallN_sound hs hG ho h hn'
 ·rename_i args ts ho
  split at h
  ·rename_i x k t t' hx ht
   have e1 : args = #[x, k] := by apply Array.ext'; simpa using hx
   have e2 : ts = #[t, t'] := by apply Array.ext'; simpa using ht
   subst e1; subst e2
   exact sDel_sound htt hs ho h hn'
  ·exact h.elim
 ·rename_i t r ho
  split at h
  ·exact sMkMap_sound htt hs ho h hn'
  ·exact h.elim
 ·rename_i ho; exact sConvB_sound htt hs ho h hn'
 ·rename_i ho; exact sLook_sound htt hs ho h hn'
 ·rename_i ho; exact sUpd_sound htt hs (.inl ho) h hn'
 ·rename_i ho; exact sUpd_sound htt hs (.inr ho) h hn'
 ·rename_i ho; exact sEnt_sound htt hs ho h hn'
 ·rename_i ho; exact sESt_sound hs ho h hn'
 ·rename_i ho; exact sRange_sound htt hs ho h hn'
 ·rename_i ho; exact sNext_sound hs ho h hn'
 ·rename_i ho; exact sEntry_sound hs ho h hn'
 ·rename_i t len ps ho
  split at h
  ·rename_i x hps
   split at h
   ·rename_i b' hX
    have e1 : ps = #[(0, x)] := by apply Array.ext'; simpa using hps
    subst e1
    exact sBuildN_sound htt hs ho hX h hn
   ·exact stepN_sound htt hG hs h hn
  ·exact stepN_sound htt hG hs h hn
 ·rename_i args ts ho
  split at h
  ·rename_i x t hx ht
   have e1 : args = #[x] := by apply Array.ext'; simpa using hx
   have e2 : ts = #[t] := by apply Array.ext'; simpa using ht
   subst e1; subst e2
   split at h
   ·rename_i b hX
    split at h
    ·rename_i hb
     exact sLenN_sound htt hs ho hX hb h hn
    ·exact stepN_sound htt hG hs h hn
   ·rename_i b hX
    rw [← hX] at h
    exact sLenMap_sound htt hs ho h hn'
   ·rename_i g n hh v hX
    rw [← hX] at h
    exact sLenMap_sound htt hs ho h hn'
   ·exact stepN_sound htt hG hs h hn
  ·exact stepN_sound htt hG hs h hn
 ·rename_i args ts ho
  split at h
  ·rename_i x y t t' hx ht
   have e1 : args = #[x, y] := by apply Array.ext'; simpa using hx
   have e2 : ts = #[t, t'] := by apply Array.ext'; simpa using ht
   subst e1; subst e2
   split at h
   ·rename_i b b2 hX hY
    split at h
    ·rename_i hb hb2
     split at h
     ·rename_i htt'
      have htt' := Nat.eq_of_beq_eq_true htt'
      subst htt'
      exact sAppN_sound htt hs ho hX hY hb hb2 h hn
     ·exact h.elim
    ·exact stepN_sound htt hG hs h hn
   ·exact stepN_sound htt hG hs h hn
  ·exact stepN_sound htt hG hs h hn
 ·rename_i t x i ho
  split at h
  ·rename_i b hx
   split at h
   ·rename_i hb
    exact sIdxG_sound htt hs ho hx hb h (fun v a' w' ids' h1 h2 => hn s v m a' w' ids' h1 h2)
   ·exact stepN_sound htt hG hs h hn
  ·exact stepN_sound htt hG hs h hn
 ·rename_i t x ho
  split at h
  ·rename_i b i off hx
   split at h
   ·rename_i hb
    exact sLoadG_sound htt hs ho hx hb h (fun v a' w' ids' h1 h2 => hn s v m a' w' ids' h1 h2)
   ·exact stepN_sound htt hG hs h hn
  ·exact stepN_sound htt hG hs h hn
 ·rename_i t x y ho
  split at h
  ·rename_i b i off hx
   split at h
   ·rename_i hb
    refine sStoreG_sound htt hs ho hx hb h (fun x a' w' ids' h1 h2 => hn s _ _ a' w' ids' ?_ h2)
    rw [setB_eq] at h1; exact h1
   ·exact stepN_sound htt hG hs h hn
  ·exact stepN_sound htt hG hs h hn
 ·exact stepN_sound htt hG hs h hn
end
end Go.Proofs.YtnkbkfjgbejhfaaGreat.Am
namespace Go.Proofs.YtnkbkfjgbejhfaaGreat.Am
variable [Inhabited DRT]
open Go.RowKit (Below)

def putF (s : List A) (d : Option Nat) (v : A) (K : List A → Prop) : Prop :=
 match d with
 | some d => setF s d v K
 | none => K s
theorem putF_eq (s : List A) (d : Option Nat) (v : A) (K : List A → Prop) : putF s d v K = K (putD s d v) := by
 cases d with
 | none => rfl
 | some d => exact setF_eq _ _ _ _
def gslot (ops : List Oper) (j : Nat) : Option Nat := (ops[j]?).bind (·.dst)
def guard1 (g : Option Nat) (want : Bool) (s : List A) (X Y : List A → Prop) : Prop :=
 match g with
 | none => False
 | some d => match s.getD d .junk with
  | .bool b => match b, want with
   | true, true => X s
   | false, false => X s
   | true, false => Y s
   | false, true => Y s
  | .sb b => match want with
   | true => (b = true → setF s d (.bool true) X) ∧ (b = false → setF s d (.bool false) Y)
   | false => (b = false → setF s d (.bool false) X) ∧ (b = true → setF s d (.bool true) Y)
  | .tup vs => match vs with
   | [] => Y s
   | _ => False
  | _ => False
def runL (P : Program) (G : GInv) (tt : TT) (ops : List Oper) : List Oper → List A → List Blk → (List A → List Blk → Prop) → Prop
 | [], s, m, K => K s m
 | o :: rest, s, m, K => match o.guard with
  | none => stepM P G tt o s m fun s1 v m' => putF s1 o.dst v fun s' => runL P G tt ops rest s' m' K
  | some (j, want) => guard1 (gslot ops j) want s
    (fun s => stepM P G tt o s m fun s1 v m' => putF s1 o.dst v fun s' => runL P G tt ops rest s' m' K)
    (fun s => putF s o.dst (.tup []) fun s' => runL P G tt ops rest s' m K)

section
variable {c : Ctx} {s : List A} {m : List Blk} {a : Act} {w w' : World} {ids ids' : Ids} {P : Program} {im im' : Nat → Prop} {tt : TT} {G : GInv}
variable {next : Act → World → Prop} {Q : Exit → Act → World → Prop} {o : Oper}

theorem Sim.reslot (hs : Sim c s m a w ids) (d : Nat) {x : A} (hv : Rel ids (imOf c ids w) w x (a.tmps.getD d undef)) : Sim c (s.set d x) m a w ids where
 defers := hs.defers
 len := by simp [hs.len]
 slots := by
  intro i h h'
  simp only [List.length_set] at h
  rw [List.getElem_set]
  split
  ·rename_i he; subst he; simpa [Array.getD_eq_getD_getElem?, h'] using hv
  ·exact hs.slots i h h'
 mlen := hs.mlen
 blks := hs.blks
 distinctX := hs.distinctX
 freshX := hs.freshX
 frame := hs.frame
 im0lt := hs.im0lt
 gho := hs.gho

theorem yielded_eq {ops : List Oper} {j d : Nat} {b : Bool} (hg : gslot ops j = some d) (hv : a.tmps.getD d undef = .bool b) : yielded ops.toArray a.tmps j = some b := by
 unfold yielded
 have h1 : (ops.toArray[j]?).bind (·.dst) = some d := by simpa [gslot] using hg
 rw [h1]
 have h2 : a.tmps[d]? = some (.bool b) := by
  rcases Nat.lt_or_ge d a.tmps.size with h | h
  ·simpa [Array.getD_eq_getD_getElem?, h] using hv
  ·simp [Array.getD_eq_getD_getElem?, h, undef] at hv
 simp [h2]

theorem runL_sound (htt : TTok P tt) {ops : List Oper} {QA : List A → List Blk → Prop} (hG : G.ok c) (hQ : ∀ s m a w ids, QA s m → Sim c s m a w ids → Q .normal a w) :
  ∀ (rest : List Oper) (s : List A) (m : List Blk) (a : Act) (w : World) (ids : Ids), Sim c s m a w ids → runL P G tt ops rest s m QA → wpList P ops.toArray Q rest a w
 | [], s, m, a, w, ids, hs, h => hQ s m a w ids h hs
 | o :: rest, s, m, a, w, ids, hs, h => by
  have exec : ∀ s, Sim c s m a w ids → (stepM P G tt o s m fun s1 v m' => putF s1 o.dst v fun s' => runL P G tt ops rest s' m' QA) → ∀ K : Act → World → Prop, (∀ a w, wpList P ops.toArray Q rest a w → K a w) → o.wp P a w K Q := by
   intro s hs h K hK
   refine stepM_sound htt hG hs h ?_
   intro s1 v m' a' w' ids' hk hs'
   rw [putF_eq] at hk
   exact hK _ _ (runL_sound htt hG hQ rest _ _ _ _ _ hs' hk)
  have skip : ∀ s, Sim c s m a w ids → (putF s o.dst (.tup []) fun s' => runL P G tt ops rest s' m QA) → ∀ K : Act → World → Prop, (∀ a w, wpList P ops.toArray Q rest a w → K a w) → K (a.put o.dst undef) w := by
   intro s hs h K hK
   rw [putF_eq] at h
   exact hK _ _ (runL_sound htt hG hQ rest _ _ _ _ _ (hs.putD o.dst (.imm (.tup [] [] rfl (fun _ h => by simp at h)))) h)
  unfold runL at h
  refine wpList_step fun K hK => ?_
  split at h
  ·rename_i hg
   have : Region.wanted o (yielded ops.toArray a.tmps) = true := by unfold Region.wanted; rw [hg]
   rw [if_pos this]
   exact exec s hs h K hK
  ·rename_i j want hg
   have hw : Region.wanted o (yielded ops.toArray a.tmps) = (yielded ops.toArray a.tmps j == some want) := by unfold Region.wanted; rw [hg]
   rw [hw]
   unfold guard1 at h
   split at h
   ·exact h.elim
   ·rename_i d hd
    have hev := hs.ev (.tmp d)
    simp only [ev, Act.eval] at hev
    split at h
    ·rename_i b hb; rw [hb] at hev
     rw [yielded_eq hd hev.bool_inv]
     split at h
     ·exact exec s hs h K hK
     ·exact exec s hs h K hK
     ·exact skip s hs h K hK
     ·exact skip s hs h K hK
    ·rename_i b hb; rw [hb] at hev
     have hbv := hev.sb_inv
     rw [yielded_eq hd hbv]
     have hsim : ∀ b', b = b' → Sim c (s.set d (.bool b')) m a w ids := by
      intro b' e; subst e; exact hs.reslot d (by rw [hbv]; exact .imm (.bool _))
     rw [setF_eq, setF_eq, setF_eq, setF_eq] at h
     split at h
     ·cases b
      ·exact skip _ (hsim false rfl) (h.2 rfl) K hK
      ·exact exec _ (hsim true rfl) (h.1 rfl) K hK
     ·cases b
      ·exact exec _ (hsim false rfl) (h.1 rfl) K hK
      ·exact skip _ (hsim true rfl) (h.2 rfl) K hK
    ·rename_i vs hb; rw [hb] at hev
     split at h
     ·obtain ⟨us, hu, hu2, _⟩ := hev.tup_inv
      have hu3 : us = [] := by simpa using hu2
      subst hu3
      have hy : yielded ops.toArray a.tmps j = none := by
       unfold yielded
       have h1 : (ops.toArray[j]?).bind (·.dst) = some d := by simpa [gslot] using hd
       rw [h1]
       rcases Nat.lt_or_ge d a.tmps.size with h | h
       ·have h2 : a.tmps[d]? = some (.tuple #[]) := by simpa [Array.getD_eq_getD_getElem?, h] using hu
        simp [h2]
       ·simp [h]
      rw [hy]
      exact skip s hs h K hK
     ·exact h.elim
    ·exact h.elim
end

/-! ### Code -/
theorem wp_loop_ghost {P : Program} {Q : Exit → Act → World → Prop} {a : Act} {w : World} {c : Code} (I : Nat → Act → World → Prop) (n₀ : Nat) (h₀ : I n₀ a w)
  (round : ∀ n a w, I n a w → c.wp P (Exit.then (fun a' w' => ∃ n', n' < n ∧ I n' a' w') Q) a w) : (Code.loop c).wp P Q a w := by
 intro b k cs
 have key : ∀ n a w, I n a w →
   ∃ e a' w', Q e a' w' ∧ Arrives P (lone (b.at a (.code c :: .inLoop c :: k)) cs w) b k cs e a' w' := by
  intro n
  induction n using Nat.strongRecOn with
  | _ n ih =>
   intro a w hI
   obtain ⟨e, a₁, w₁, hq, harr⟩ := round n a w hI b (.inLoop c :: k) cs
   cases e with
   | normal =>
    obtain ⟨n', hlt, hI₁⟩ := hq
    obtain ⟨e₂, a₂, w₂, hq₂, harr₂⟩ := ih n' hlt a₁ w₁ hI₁
    exact ⟨e₂, a₂, w₂, hq₂, .of_steps (Steps.trans harr (.one step_inLoop)) harr₂⟩
   | exit id => exact ⟨_, a₁, w₁, hq, .pass (x := .inLoop c) rfl (fun _ _ => .inl (by simp)) harr⟩
   | goto l => exact ⟨_, a₁, w₁, hq, .pass (x := .inLoop c) rfl (fun _ _ => .inl (by simp)) harr⟩
   | ret => exact ⟨_, a₁, w₁, hq, .pass (x := .inLoop c) rfl (fun _ _ => .inl (by simp)) harr⟩
   | panic ch => exact ⟨_, a₁, w₁, hq, .pass (x := .inLoop c) rfl (fun _ _ => .inl (by simp)) harr⟩
   | outgrown => exact ⟨_, a₁, w₁, hq, .pass (x := .inLoop c) rfl (fun _ _ => .inl (by simp)) harr⟩
 obtain ⟨e, a', w', hq, harr⟩ := key _ a w h₀
 exact ⟨e, a', w', hq, .of_steps (.one step_loop) harr⟩

def post (c : Ctx) (Q : Exit → List A → List Blk → Prop) : Exit → Act → World → Prop := fun e a w => ∃ s m ids, Q e s m ∧ Sim c s m a w ids

@[irreducible] def WA (P : Program) (G : GInv) (cd : Code) (Q : Exit → List A → List Blk → Prop) (s : List A) (m : List Blk) : Prop :=
 ∀ c a w ids, G.ok c → Sim c s m a w ids → cd.wp P (post c Q) a w

def thenA (next : List A → List Blk → Prop) (Q : Exit → List A → List Blk → Prop) : Exit → List A → List Blk → Prop
 | .normal, s, m => next s m
 | e, s, m => Q e s m
def blockA (id : Nat) (Q : Exit → List A → List Blk → Prop) : Exit → List A → List Blk → Prop
 | .exit id', s, m => match Nat.beq id' id with
  | true => Q .normal s m
  | false => Q (.exit id') s m
 | e, s, m => Q e s m
def condA (v : A) (X Y : Prop) : Prop :=
 match v with
 | .bool true => X
 | .bool false => Y
 | .sb b => (b = true → X) ∧ (b = false → Y)
 | _ => False

section
variable {P : Program} {G : GInv} {tt : TT} {Q : Exit → List A → List Blk → Prop} {s : List A} {m : List Blk}

theorem WA_seq {x y : Code} (h : WA P G x (thenA (WA P G y Q) Q) s m) : WA P G (.seq x y) Q s m := by
 unfold WA at h ⊢
 intro c a w ids hG hs
 refine wp_seq (wp_mono (h c a w ids hG hs) ?_)
 rintro e a' w' ⟨s', m', ids', hq, hs'⟩
 cases e with
 | normal =>
  exact hq c a' w' ids' hG hs'
 | _ => exact ⟨s', m', ids', hq, hs'⟩
theorem WA_skip (h : Q .normal s m) : WA P G .skip Q s m := by
 unfold WA; intro c a w ids hG hs; exact wp_skip ⟨s, m, ids, h, hs⟩
theorem WA_ret (h : Q .ret s m) : WA P G .ret Q s m := by
 unfold WA; intro c a w ids hG hs; exact wp_ret ⟨s, m, ids, h, hs⟩
theorem WA_exit {id : Nat} (h : Q (.exit id) s m) : WA P G (.exit id) Q s m := by
 unfold WA; intro c a w ids hG hs; exact wp_exit ⟨s, m, ids, h, hs⟩
theorem WA_block {id : Nat} {x : Code} (h : WA P G x (blockA id Q) s m) : WA P G (.block id x) Q s m := by
 unfold WA at h ⊢
 intro c a w ids hG hs
 refine wp_block (wp_mono (h c a w ids hG hs) ?_)
 rintro e a' w' ⟨s', m', ids', hq, hs'⟩
 cases e with
 | exit id' =>
  simp only [blockA] at hq
  simp only [Exit.inBlock]
  split at hq
  ·rename_i he; rw [if_pos (Nat.eq_of_beq_eq_true he)]; exact ⟨s', m', ids', hq, hs'⟩
  ·rename_i he
   rw [if_neg (fun e => by subst e; rw [Nat.beq_refl] at he; cases he)]; exact ⟨s', m', ids', hq, hs'⟩
 | _ => exact ⟨s', m', ids', hq, hs'⟩
theorem WA_cond {t : Operand} {x y : Code} (h : condA (ev s t) (WA P G x Q s m) (WA P G y Q s m)) : WA P G (.cond t x y) Q s m := by
 unfold condA at h
 unfold WA
 intro c a w ids hG hs
 have hev := hs.ev t
 split at h
 ·rename_i hv; rw [hv] at hev; unfold WA at h; exact wp_cond_true hev.bool_inv (h c a w ids hG hs)
 ·rename_i hv; rw [hv] at hev; unfold WA at h; exact wp_cond_false hev.bool_inv (h c a w ids hG hs)
 ·rename_i b hv; rw [hv] at hev
  cases b
  ·have := h.2 rfl; unfold WA at this; exact wp_cond_false hev.sb_inv (this c a w ids hG hs)
  ·have := h.1 rfl; unfold WA at this; exact wp_cond_true hev.sb_inv (this c a w ids hG hs)
 ·exact h.elim
theorem WA_region (htt : TTok P tt) {id : Nat} {l : List Oper} (h : runL P G tt l l s m (Q .normal)) : WA P G (.region id l.toArray false) Q s m := by
 unfold WA
 intro c a w ids hG hs
 exact wp_region_lit (runL_sound htt hG (fun s m a w ids hq hs => ⟨s, m, ids, hq, hs⟩) l s m a w ids hs h)

/-- A state that says less. -/
def WkS (s : List A) (m : List Blk) (s' : List A) (m' : List Blk) : Prop := ∀ c a w ids, Sim c s m a w ids → ∃ ids', Sim c s' m' a w ids'

theorem WA_weaken {cd : Code} {s' : List A} {m' : List Blk} (hw : WkS s m s' m') (h : WA P G cd Q s' m') : WA P G cd Q s m := by
 unfold WA at h ⊢
 intro c a w ids hG hs
 obtain ⟨ids', hs'⟩ := hw c a w ids hs
 exact h c a w ids' hG hs'
theorem WA_mono {cd : Code} {Q' : Exit → List A → List Blk → Prop} (h : WA P G cd Q s m) (hq : ∀ e s m, Q e s m → Q' e s m) : WA P G cd Q' s m := by
 unfold WA at h ⊢
 intro c a w ids hG hs
 refine wp_mono (h c a w ids hG hs) ?_
 rintro e a' w' ⟨s', m', ids', hq', hs'⟩
 exact ⟨s', m', ids', hq _ _ _ hq', hs'⟩

def roundA {ι : Type} (S : ι → List A) (M : ι → List Blk) (μ : ι → Nat) (i : ι) (Q : Exit → List A → List Blk → Prop) : Exit → List A → List Blk → Prop
 | .normal, s, m => ∃ j, μ j < μ i ∧ WkS s m (S j) (M j)
 | e, s, m => Q e s m
theorem WA_loop {ι : Type} {body : Code} (S : ι → List A) (M : ι → List Blk) (μ : ι → Nat) (i0 : ι) (h0 : WkS s m (S i0) (M i0))
  (hr : ∀ i, WA P G body (roundA S M μ i Q) (S i) (M i)) : WA P G (.loop body) Q s m := by
 refine WA_weaken h0 ?_
 unfold WA
 intro c a w ids hG hs
 refine wp_loop_ghost (fun n a w => ∃ i ids, μ i = n ∧ Sim c (S i) (M i) a w ids) (μ i0) ⟨i0, ids, rfl, hs⟩ ?_
 rintro n a w ⟨i, ids, rfl, hs⟩
 have := hr i
 unfold WA at this
 refine wp_mono (this c a w ids hG hs) ?_
 rintro e a' w' ⟨s', m', ids', hq, hs'⟩
 cases e with
 | normal =>
  obtain ⟨j, hlt, hw⟩ := hq
  obtain ⟨ids'', hs''⟩ := hw c a' w' ids' hs'
  exact ⟨μ j, hlt, j, ids'', rfl, hs''⟩
 | _ => exact ⟨s', m', ids', hq, hs'⟩
end
end Go.Proofs.YtnkbkfjgbejhfaaGreat.Am
namespace Go.Proofs.YtnkbkfjgbejhfaaGreat.Am
variable [Inhabited DRT]
open Go.RowKit (Below)

def andL : List Prop → Prop
 | [] => True
 | [p] => p
 | p :: q :: ps => p ∧ andL (q :: ps)
theorem andL_cons {p : Prop} {ps : List Prop} : andL (p :: ps) ↔ p ∧ andL ps := by
 cases ps <;> simp [andL]
theorem andL_append {ps qs : List Prop} : andL (ps ++ qs) ↔ andL ps ∧ andL qs := by
 induction ps with
 | nil => simp [andL]
 | cons p ps ih => rw [List.cons_append, andL_cons, andL_cons, ih, and_assoc]

/-- What must hold that the first value may be taken for the second one, where blocks from n on are forgotten. -/
def fitA : Nat → Nat → A → A → List Prop
 | 0, _, _, y => match y with
  | .junk => []
  | _ => [False]
 | d + 1, n, x, y => match y with
  | .junk => []
  | .int k b => match x with
   | .int k' a => match kindEq k' k with
    | true => [a = b]
    | false => [False]
   | _ => [False]
  | .bool b => match x with
   | .bool a => [a = b]
   | .sb a => [a = b]
   | _ => [False]
  | .sb b => match x with
   | .bool a => [a = b]
   | .sb a => [a = b]
   | _ => [False]
  | .str b => match x with
   | .str a => [a = b]
   | _ => [False]
  | .nilp => match x with
   | .nilp => []
   | _ => [False]
  | .nils => match x with
   | .nils => []
   | _ => [False]
  | .nilfn => match x with
   | .nilfn => []
   | _ => [False]
  | .nilm => match x with
   | .nilm => []
   | _ => [False]
  | .mv g' n' k' v' => match x with
   | .mv g1 n1 k1 v1 => [g1 = g', n1 = n', ∀ i, k1 i = k' i, ∀ i, k1 i = true → v1 i = v' i]
   | _ => [False]
  | .omap b => match x with
   | .omap b' => match Nat.beq b' b, Nat.blt b n with
    | true, true => []
    | _, _ => [False]
   | _ => [False]
  | .ent _ _ => [False]
  | .osl _ _ => [False]
  | .ref b o => match x with
   | .ref b' o' => match Nat.beq b' b, Nat.beq o' o, Nat.blt b n with
    | true, true, true => []
    | _, _, _ => [False]
   | _ => [False]
  | .oref b i o => match x with
   | .oref b' i' o' => match Nat.beq b' b, Nat.blt b n with
    | true, true => [i' = i, o' = o]
    | _, _ => [False]
   | _ => [False]
  | .own b => match x with
   | .own b' => match Nat.beq b' b, Nat.blt b n with
    | true, true => []
    | _, _ => [False]
   | _ => [False]
  | .sl n' sz' row' => match x with
   | .sl n1 sz row => match Nat.beq sz sz' with
    | true => [n1 = n', (∀ i, i < n1 → row i = row' i) ∨ ∀ i, i < n1 → andL (fitL d 0 (row i) (row' i))]
    | false => [False]
   | .nils => [n' = 0]
   | _ => [False]
  | .bref cs' o' => match x with
   | .bref cs o => [cs = cs', o = o']
   | _ => [False]
  | .agg cs' => match x with
   | .agg cs => fitL d n cs cs'
   | _ => [False]
  | .tup cs' => match x with
   | .tup cs => fitL d n cs cs'
   | _ => [False]
  | .fn f' cs' => match x with
   | .fn f cs => (f = f') :: fitL d n cs cs'
   | _ => [False]
where fitL (d n : Nat) : List A → List A → List Prop
 | [], [] => []
 | x :: xs, y :: ys => fitA d n x y ++ fitL d n xs ys
 | _, _ => [False]
def fitB (n : Nat) (x y : Blk) : List Prop :=
 match x, y with
 | .box ty cs, .box ty' cs' => match Nat.beq ty ty' with
  | true => fitA.fitL 4 n cs cs'
  | false => [False]
 | .row ty sz n1 row, .row ty' sz' n1' row' => match Nat.beq ty ty', Nat.beq sz sz' with
  | true, true => [n1 = n1', (∀ i, i < n1 → row i = row' i) ∨ ∀ i, i < n1 → andL (fitA.fitL 4 0 (row i) (row' i))]
  | _, _ => [False]
 | .nest ty ety sz n1 ho le row, .nest ty' ety' sz' n1' ho' le' row' => match Nat.beq ty ty', Nat.beq ety ety', Nat.beq sz sz', ho, ho' with
  | true, true, true, none, none => [n1 = n1', ∀ i, i < n1 → le i = le' i ∧ ∀ j, j < le i → row i j = row' i j]
  | _, _, _, _, _ => [False]
 | .mapb g1 n1 k1 v1, .mapb g' n' k' v' => [g1 = g', n1 = n', ∀ i, k1 i = k' i, ∀ i, k1 i = true → v1 i = v' i]
 | .mapx g1 n1 k1 v1, .mapb g' n' k' v' => [g1 = g', n1 = n', ∀ i, k1 i = k' i, ∀ i, k1 i = true → v1 i = v' i]
 | .mit g1 n1 k1 v1 se, .mit g' n' k' v' se' => [g1 = g', n1 = n', ∀ i, k1 i = k' i, ∀ i, k1 i = true → v1 i = v' i, se = se']
 | .mgrid ty g1 n1 k1 _ cs ini h1 v1, .mgrid ty' g' n' k' _ cs' ini' h' v' => match Nat.beq ty ty', cs, cs' with
  | true, [], [] => [g1 = g', n1 = n', k1 = k', ∀ i, i < k1 → ini' i ≤ 1 → ini i = ini' i ∧ (ini' i = 1 → (∀ k, h1 i k = h' i k) ∧ ∀ k, h1 i k = true → v1 i k = v' i k)]
  | _, _, _ => [False]
 | .row ty sz n1 row, .rowE ty' sz' n1' Φ => match Nat.beq ty ty', Nat.beq sz sz' with
  | true, true => [n1 = n1', ∃ row', Φ row' ∧ ∀ i, i < n1 → row i = row' i]
  | _, _ => [False]
 | .rowE ty sz n1 Φ, .rowE ty' sz' n1' Φ' => match Nat.beq ty ty', Nat.beq sz sz' with
  | true, true => [n1 = n1', ∀ row, Φ row → Φ' row]
  | _, _ => [False]
 | .ghost cs, .ghost cs' => fitA.fitL 4 n cs cs'
 | .dead, .dead => []
 | .gone, .gone => []
 | _, _ => [False]
def fitBs (n : Nat) : List Blk → List Blk → List Prop
 | _, [] => []
 | x :: xs, y :: ys => fitB n x y ++ fitBs n xs ys
 | [], _ :: _ => [False]
/-- The first state may be taken for the second. -/
def fitS (s : List A) (m : List Blk) (s' : List A) (m' : List Blk) : Prop := andL (fitA.fitL 5 m'.length s s' ++ fitBs m'.length m m')

section
variable {c : Ctx} {s : List A} {m : List Blk} {a : Act} {w w' : World} {ids ids' : Ids} {P : Program} {im im' : Nat → Prop} {tt : TT} {G : GInv}

theorem RelI.up (hi : ∀ b, im b → im' b) {x : A} {v : Value} (h : RelI im w x v) : RelI im' w x v := h.mono hi (fun _ _ => rfl)

theorem fitL_len : ∀ (d n : Nat) (xs ys : List A), andL (fitA.fitL d n xs ys) → xs.length = ys.length
 | _, _, [], [], _ => rfl
 | d, n, x :: xs, y :: ys, h => by
  rw [fitA.fitL, andL_append] at h
  simp [fitL_len d n xs ys h.2]
 | _, _, [], _ :: _, h => by simp [fitA.fitL, andL] at h
 | _, _, _ :: _, [], h => by simp [fitA.fitL, andL] at h
theorem fitL_get : ∀ (d n : Nat) (xs ys : List A), andL (fitA.fitL d n xs ys) → ∀ j (h : j < xs.length) (h' : j < ys.length), andL (fitA d n xs[j] ys[j])
 | _, _, [], _, _, j, h, _ => by simp at h
 | _, _, _ :: _, [], _, j, _, h' => by simp at h'
 | d, n, x :: xs, y :: ys, h, j, h1, h2 => by
  rw [fitA.fitL, andL_append] at h
  cases j with
  | zero => exact h.1
  | succ j => exact fitL_get d n xs ys h.2 j (by simpa using h1) (by simpa using h2)

theorem take_get {n b : Nat} {p : IdE} (h : ids[b]? = some p) (hb : b < n) : (ids.take n)[b]? = some p := by
 rw [List.getElem?_take, if_pos hb]; exact h

theorem Rel.nil_rel {x : A} {v : Value} (h : Rel [] im w x v) : RelI im w x v := by
 induction h with
 | imm h => exact h
 | ref b off p h => simp at h
 | oref b i off p h => simp at h
 | own0 b h => simp at h
 | own b cap p h => simp at h
 | ownS b x n cap h => simp at h
 | refS b off x y h => simp at h
 | orefS b i off x y h => simp at h
 | omapS b x h => simp at h
 | omap b p h => simp at h
 | ent b k p n h hn => simp at h
 | entS b k n h => simp at h
 | osl b k cap x p h hx => simp at h
 | osl0 b k h => simp at h
 | oslS b k x n cap h => simp at h
 | agg cs vs hl ho hr ih => exact .agg cs vs hl ho ih
 | tup cs vs hl hr ih => exact .tup cs vs hl ih
 | fn f cs vs hl hr ih => exact .fn f cs vs hl ih

theorem fitA_rel (hi : ∀ b, im b → im' b) : ∀ (d n : Nat) (x y : A) (v : Value), andL (fitA d n x y) → Rel ids im w x v → Rel (ids.take n) im' w y v
 | 0, n, x, y, v, h, hr => by
  cases y <;> simp [fitA, andL] at h
  exact .imm (.junk _)
 | d + 1, n, x, y, v, h, hr => by
  have lists : ∀ cs cs' : List A, andL (fitA.fitL d n cs cs') → cs.length = cs'.length ∧ ∀ (us : List Value), (∀ j (h : j < cs.length) (h' : j < us.length), Rel ids im w cs[j] us[j]) → ∀ j (h : j < cs'.length) (h' : j < us.length), Rel (ids.take n) im' w cs'[j] us[j] := by
   intro cs cs' h
   have hl := fitL_len _ _ _ _ h
   refine ⟨hl, fun us hus j h1 h2 => fitA_rel hi d n _ _ _ (fitL_get _ _ _ _ h j (by omega) h1) (hus j (by omega) h2)⟩
  unfold fitA at h
  split at h
  ·exact .imm (.junk _)
  ·split at h
   ·split at h
    ·rename_i hk; rw [kindEq_iff] at hk; subst hk
     have h : _ = _ := h
     subst h; rw [hr.int_inv]; exact .imm (.int _ _)
    ·exact h.elim
   ·exact h.elim
  ·split at h
   ·have h : _ = _ := h
    subst h; rw [hr.bool_inv]; exact .imm (.bool _)
   ·have h : _ = _ := h
    subst h; rw [hr.sb_inv]; exact .imm (.bool _)
   ·exact h.elim
  ·split at h
   ·have h : _ = _ := h
    subst h; rw [hr.bool_inv]; exact .imm (.sb _)
   ·have h : _ = _ := h
    subst h; rw [hr.sb_inv]; exact .imm (.sb _)
   ·exact h.elim
  ·split at h
   ·have h : _ = _ := h
    subst h; rw [hr.str_inv]; exact .imm (.str _)
   ·exact h.elim
  ·split at h
   ·rw [hr.nilp_inv]; exact .imm .nilp
   ·exact h.elim
  ·split at h
   ·rw [hr.nils_inv]; exact .imm .nils
   ·exact h.elim
  ·split at h
   ·cases hr with | imm hr => cases hr; exact .imm .nilfn
   ·exact h.elim
  ·split at h
   ·rw [hr.nilm_inv]; exact .imm .nilm
   ·exact h.elim
  ·split at h
   ·obtain ⟨e1, e2, e3, e4⟩ := h
    subst e1; subst e2
    cases hr with
    | imm hr =>
     cases hr with
     | mv _ _ _ _ r es clock f hb hh hk hd hc hv hbn hbu =>
      exact .imm (.mv _ _ _ _ r es clock f (hi _ hb) hh (fun i h => by rw [← e3]; exact hk i h) hd (fun k h1 h2 => hc k h1 (by rw [e3]; exact h2)) (fun i h => by rw [← e4 _ (hk i h).2.2]; exact (hv i h).up hi) hbn hbu)
   ·exact h.elim
  ·split at h
   ·split at h
    ·rename_i h1 h3
     have h1 := Nat.eq_of_beq_eq_true h1
     subst h1
     rcases hr.omap_inv with ⟨p, g1, rfl⟩ | ⟨g1, x, rfl⟩
     rotate_left
     ·exact .omapS _ x (take_get g1 (Nat.le_of_ble_eq_true (by assumption)))
     exact .omap _ p (take_get g1 (Nat.le_of_ble_eq_true h3))
    ·exact h.elim
   ·exact h.elim
  ·exact h.elim
  ·exact h.elim
  ·split at h
   ·split at h
    ·rename_i h1 h2 h3
     have h1 := Nat.eq_of_beq_eq_true h1
     have h2 := Nat.eq_of_beq_eq_true h2
     subst h1; subst h2
     rcases hr.ref_inv with ⟨p, g1, rfl⟩ | ⟨g1, x, y, rfl⟩
     rotate_left
     ·exact .refS _ _ x y (take_get g1 (Nat.le_of_ble_eq_true h3))
     exact .ref _ _ p (take_get g1 (Nat.le_of_ble_eq_true h3))
    ·exact h.elim
   ·exact h.elim
  ·split at h
   ·split at h
    ·rename_i h1 h3
     have h1 := Nat.eq_of_beq_eq_true h1
     subst h1
     obtain ⟨e1, e2⟩ := h
     subst e1; subst e2
     rcases hr.oref_inv with ⟨p, g1, rfl⟩ | ⟨g1, x, y, rfl⟩
     rotate_left
     ·exact .orefS _ _ _ x y (take_get g1 (Nat.le_of_ble_eq_true h3))
     exact .oref _ _ _ p (take_get g1 (Nat.le_of_ble_eq_true h3))
    ·exact h.elim
   ·exact h.elim
  ·split at h
   ·split at h
    ·rename_i h1 h3
     have h1 := Nat.eq_of_beq_eq_true h1
     subst h1
     rcases hr.own_inv with ⟨g1, rfl⟩ | ⟨p, cap, g1, g2, g3, rfl⟩ | ⟨g1, x, n, cap, rfl⟩
     ·exact .own0 _ (take_get g1 (Nat.le_of_ble_eq_true h3))
     ·exact .own _ cap p (take_get g1 (Nat.le_of_ble_eq_true h3)) g2 g3
     ·exact .ownS _ x n cap (take_get g1 (Nat.le_of_ble_eq_true h3))
    ·exact h.elim
   ·exact h.elim
  ·split at h
   ·split at h
    ·rename_i h1
     have h1 := Nat.eq_of_beq_eq_true h1
     subst h1
     obtain ⟨e1, e2⟩ := h
     subst e1
     cases hr with
     | imm hr =>
      cases hr with
      | sl0 => exact .imm (.sl0 _ _)
      | sle => exact .imm (.sle _ _ _ _)
      | sl _ _ _ blk base cap vs hb hcap hl hc ho hr =>
       rcases e2 with e2 | e2
       ·refine .imm (.sl _ _ _ blk base cap vs (hi _ hb) hcap (fun i h => by rw [← e2 i h]; exact hl i h) hc ho ?_)
        intro i j hij hj
        have := hr i j hij (by rw [e2 i hij]; exact hj)
        simp only [e2 i hij] at this
        exact this.up hi
       ·refine .imm (.sl _ _ _ blk base cap vs (hi _ hb) hcap (fun i h => by rw [← fitL_len _ _ _ _ (e2 i h)]; exact hl i h) hc ho ?_)
        intro i j hij hj
        have hlen := fitL_len _ _ _ _ (e2 i hij)
        have := fitA_rel hi d 0 _ _ _ (fitL_get _ _ _ _ (e2 i hij) j (by omega) hj) (.imm (hr i j hij (by omega)))
        exact Rel.nil_rel (by simpa using this)
    ·exact h.elim
   ·have h : _ = _ := h
    subst h
    rw [hr.nils_inv]; exact .imm (.sl0 _ _)
   ·exact h.elim
  ·split at h
   ·obtain ⟨e1, e2⟩ := h
    subst e1; subst e2
    cases hr with | imm hr => exact .imm (hr.up hi)
   ·exact h.elim
  ·split at h
   ·obtain ⟨hl, hg⟩ := lists _ _ h
    obtain ⟨us, rfl, u2, u3, u4⟩ := hr.agg_inv
    exact .agg _ us (by omega) u3 (hg us u4)
   ·exact h.elim
  ·split at h
   ·obtain ⟨hl, hg⟩ := lists _ _ h
    obtain ⟨us, rfl, u2, u4⟩ := hr.tup_inv
    exact .tup _ us (by omega) (hg us u4)
   ·exact h.elim
  ·split at h
   ·rw [andL_cons] at h
    obtain ⟨h1, h⟩ := h
    subst h1
    obtain ⟨hl, hg⟩ := lists _ _ h
    obtain ⟨us, rfl, u2, u4⟩ := hr.fn_inv
    exact .fn _ _ us (by omega) (hg us u4)
   ·exact h.elim

theorem fitBs_len : ∀ (n : Nat) (xs ys : List Blk), andL (fitBs n xs ys) → ys.length ≤ xs.length
 | _, _, [], _ => Nat.zero_le _
 | n, x :: xs, y :: ys, h => by
  rw [fitBs, andL_append] at h
  simp; exact fitBs_len n xs ys h.2
 | _, [], _ :: _, h => h.elim
theorem fitBs_get : ∀ (n : Nat) (xs ys : List Blk), andL (fitBs n xs ys) → ∀ j (h : j < xs.length) (h' : j < ys.length), andL (fitB n xs[j] ys[j])
 | _, [], _, _, j, h, _ => by simp at h
 | _, _ :: _, [], _, j, _, h' => by simp at h'
 | n, x :: xs, y :: ys, h, j, h1, h2 => by
  rw [fitBs, andL_append] at h
  cases j with
  | zero => exact h.1
  | succ j => exact fitBs_get n xs ys h.2 j (by simpa using h1) (by simpa using h2)

theorem fitB_rel (hi : ∀ b, im b → im' b) {n : Nat} {x y : Blk} {p : IdE} (h : andL (fitB n x y)) (hr : BRel ids im w x p) : BRel (ids.take n) im' w y p := by
 unfold fitB at h
 split at h
 ·rename_i ty cs ty' cs'
  split at h
  ·rename_i ht
   have ht := Nat.eq_of_beq_eq_true ht
   subst ht
   have hl := fitL_len _ _ _ _ h
   cases p with
   | dead => exact hr
   | stale => exact hr
   | virt => exact hr
   | gho vs => exact hr
   | lv p =>
    obtain ⟨vs, h1, h2, h3, h4⟩ := hr
    exact ⟨vs, h1, h2, by omega, fun j hj hj' => ⟨fitA_rel hi 4 n _ _ _ (fitL_get _ _ _ _ h j (by omega) hj) (h4 j (by omega) hj').1, (h4 j (by omega) hj').2⟩⟩
  ·exact h.elim
 ·rename_i ty sz n1 row ty' sz' n1' row'
  split at h
  ·rename_i ht hs
   have ht := Nat.eq_of_beq_eq_true ht
   have hs := Nat.eq_of_beq_eq_true hs
   subst ht; subst hs
   obtain ⟨e1, e2⟩ := h
   subst e1
   cases p with
   | dead => exact hr
   | stale => exact hr
   | virt => exact hr
   | gho vs => exact hr
   | lv p =>
    obtain ⟨g1, g2, vs, h1, h2, h3, hl, h4⟩ := hr
    rcases e2 with e2 | e2
    ·refine ⟨g1, g2, vs, h1, h2, h3, fun i hi => by rw [← e2 i hi]; exact hl i hi, ?_⟩
     intro i j hi' hj hj'
     have := h4 i j hi' (by rw [e2 i hi']; exact hj) hj'
     simp only [e2 i hi'] at this
     exact ⟨this.1.up hi, this.2⟩
    ·refine ⟨g1, g2, vs, h1, h2, h3, fun i hi => by rw [← fitL_len _ _ _ _ (e2 i hi)]; exact hl i hi, ?_⟩
     intro i j hi' hj hj'
     have hlen := fitL_len _ _ _ _ (e2 i hi')
     have h5 := h4 i j hi' (by omega) hj'
     have := fitA_rel (ids := []) hi 4 0 _ _ _ (fitL_get _ _ _ _ (e2 i hi') j (by omega) hj) (.imm h5.1)
     exact ⟨Rel.nil_rel (by simpa using this), h5.2⟩
  ·exact h.elim
 ·rename_i ty ety sz n1 ho le row ty' ety' sz' n1' ho' le' row'
  split at h
  ·rename_i ht he hs
   have ht := Nat.eq_of_beq_eq_true ht
   have he := Nat.eq_of_beq_eq_true he
   have hs := Nat.eq_of_beq_eq_true hs
   subst ht; subst hs; subst he
   obtain ⟨e1, e2⟩ := h
   subst e1
   cases p with
   | dead => exact hr
   | stale => exact hr
   | virt => exact hr
   | gho vs => exact hr
   | lv p =>
    obtain ⟨g1, g2, g3, vs, h1, h2, h3, kb, h4⟩ := hr
    refine ⟨g1, g2, g3, vs, h1, h2, h3, kb, fun i hi' hh h => ?_⟩
    obtain ⟨k1, k2, k3⟩ := h4 i hi' hh h
    refine ⟨?_, k2, k3⟩
    obtain ⟨e3, e4⟩ := e2 i hi'
    rcases k1 with ⟨q1, q2, q3⟩ | ⟨q, cap, us, q1, q2, q3, q4, q5, q6, q7, q8⟩
    ·exact .inl ⟨q1, by omega, q3⟩
    ·refine .inr ⟨q, cap, us, by rw [← e3]; exact q1, q2, q3, q4, by omega, q6, fun i' hi'' => by rw [← e4 i' (by omega)]; exact q7 i' (by omega), ?_⟩
     intro i' j hi'' hj hj'
     have := q8 i' j (by omega) (by rw [e4 i' (by omega)]; exact hj) hj'
     simp only [e4 i' (by omega)] at this
     exact ⟨this.1.up hi, this.2⟩
  ·exact h.elim
 ·obtain ⟨e1, e2, e3, e4⟩ := h
  subst e1; subst e2
  cases p with
  | dead => exact hr
  | stale => exact hr
  | virt => exact hr
  | gho vs => exact hr
  | lv p =>
   obtain ⟨es, clock, f, h1, h2, h3, h4, h5, h6⟩ := hr
   exact ⟨es, clock, f, h1, fun i h => by rw [← e3]; exact h2 i h, h3, fun k g1 g2 => h4 k g1 (by rw [e3]; exact g2), fun i h => by rw [← e4 _ (h2 i h).2.2]; exact (h5 i h).up hi, h6⟩
 ·obtain ⟨e1, e2, e3, e4⟩ := h
  subst e1; subst e2
  cases p with
  | dead => exact hr
  | stale => exact hr
  | virt => exact hr
  | gho vs => exact hr
  | lv p =>
   obtain ⟨es, clock, f, h1, h2, h3, h4, h5, h6, h7, h8⟩ := hr
   refine ⟨es, clock, f, h1, fun i h => by rw [← e3]; exact h2 i h, h3, fun k g1 g2 => h4 k g1 (by rw [e3]; exact g2), fun i h => by rw [← e4 _ (h2 i h).2.2]; exact (h5 i h).up hi, fun i h => ?_, fun i j g1 g2 e => ?_⟩
   ·refine Classical.byContradiction fun hc => ?_
    have := h7 es[i].born (by omega)
    rw [h6 i h] at this; cases this
   ·have k1 := h6 i g1
    have k2 := h6 j g2
    rw [e, k2] at k1
    exact h3 i j g1 g2 (Option.some.inj k1).symm
 ·obtain ⟨e1, e2, e3, e4, e5⟩ := h
  subst e1; subst e2; subst e5
  cases p with
  | dead => exact hr
  | stale => exact hr
  | virt => exact hr
  | gho vs => exact hr
  | lv p =>
   obtain ⟨r, es, clock, f, sb, h1, h2, h3, h4, h5, h6, h7, h8, h9, h10⟩ := hr
   exact ⟨r, es, clock, f, sb, h1, hi _ h2, h3, fun i h => by rw [← e3]; exact h4 i h, h5, fun k g1 g2 => h6 k g1 (by rw [e3]; exact g2), fun i h => by rw [← e4 _ (h4 i h).2.2]; exact (h7 i h).up hi, h8, h9, h10⟩
 ·rename_i ty g1 n1 k1 hi1 cs ini h1 v1 ty' g' n' k' hi2 cs' ini' h' v'
  split at h
  ·rename_i ht
   have ht := Nat.eq_of_beq_eq_true ht
   subst ht
   obtain ⟨e1, e2, e3, e4⟩ := h
   subst e1; subst e2; subst e3
   cases p with
   | dead => exact hr
   | stale => exact hr
   | virt => exact hr
   | gho vs => exact hr
   | lv p =>
    obtain ⟨g1, g2, g3, vs, q1, q2, q3, _, kb, q5⟩ := hr
    refine ⟨g1, g2, g3, vs, q1, q2, q3, fun j hj => absurd hj (by simp), kb, fun i hi' hv => ?_⟩
    obtain ⟨k0, l0⟩ := q5 i hi' hv
    have l0 := l0 (.inl rfl)
    refine ⟨k0, fun _ => ⟨fun e => l0.1 (by rw [(e4 i hi' (by omega)).1]; exact e), fun e => ?_⟩⟩
    obtain ⟨f1, f2⟩ := e4 i hi' (by omega)
    obtain ⟨f3, f4⟩ := f2 e
    obtain ⟨l1, l2, ⟨es, clock, f, m1, m2, m3, m4, m5, m6⟩, l4⟩ := l0.2 (by rw [f1]; exact e)
    refine ⟨l1, l2, ⟨es, clock, f, m1, fun i h => by rw [← f3]; exact m2 i h, m3, fun k g1 g2 => m4 k g1 (by rw [f3]; exact g2), fun i h => by rw [← f4 _ (m2 i h).2.2]; exact (m5 i h).up hi, m6⟩, fun j hj _ ej ek => ?_⟩
    exact l4 j hj (.inl rfl) (by rw [(e4 j hj (by omega)).1]; exact ej) ek
  ·exact h.elim
 ·rename_i ty sz n1 row ty' sz' n1' Φ
  split at h
  ·rename_i ht hs
   have ht := Nat.eq_of_beq_eq_true ht
   have hs := Nat.eq_of_beq_eq_true hs
   subst ht; subst hs
   obtain ⟨e1, row', e0, e2⟩ := h
   subst e1
   cases p with
   | dead => exact hr
   | stale => exact hr
   | virt => exact ⟨hr, row', e0⟩
   | gho vs => exact hr
   | lv p =>
    obtain ⟨g1, g2, vs, h1, h2, h3, hl, h4⟩ := hr
    refine ⟨row', e0, g1, g2, vs, h1, h2, h3, fun i hi => by rw [← e2 i hi]; exact hl i hi, ?_⟩
    intro i j hi' hj hj'
    have := h4 i j hi' (by rw [e2 i hi']; exact hj) hj'
    simp only [e2 i hi'] at this
    exact ⟨this.1.up hi, this.2⟩
  ·exact h.elim
 ·rename_i ty sz n1 Φ ty' sz' n1' Φ'
  split at h
  ·rename_i ht hs
   have ht := Nat.eq_of_beq_eq_true ht
   have hs := Nat.eq_of_beq_eq_true hs
   subst ht; subst hs
   obtain ⟨e1, e2⟩ := h
   subst e1
   cases p with
   | dead => exact hr
   | stale => exact hr
   | virt => exact ⟨hr.1, hr.2.elim fun row h => ⟨row, e2 _ h⟩⟩
   | gho vs => exact hr
   | lv p =>
    obtain ⟨row, e0, g1, g2, vs, h1, h2, h3, hl, h4⟩ := hr
    exact ⟨row, e2 _ e0, g1, g2, vs, h1, h2, h3, hl, fun i j hi' hj hj' => ⟨(h4 i j hi' hj hj').1.up hi, (h4 i j hi' hj hj').2⟩⟩
  ·exact h.elim
 ·have hl := fitL_len _ _ _ _ h
  cases p with
  | dead => exact hr
  | stale => exact hr
  | virt => exact hr
  | lv p => exact hr
  | gho vs => exact ⟨by rw [← hl]; exact hr.1, fun j hj hj' => fitA_rel hi 4 n _ _ _ (fitL_get _ _ _ _ h j (by omega) hj) (hr.2 j (by omega) hj')⟩
 ·have hr : p = .dead := hr
  exact hr
 ·have hr : p = .stale := hr
  exact hr
 ·exact h.elim

theorem Sim.fit (hs : Sim c s m a w ids) {s' : List A} {m' : List Blk} (h : fitS s m s' m') : Sim c s' m' a w (ids.take m'.length) := by
 unfold fitS at h
 rw [andL_append] at h
 obtain ⟨h1, h2⟩ := h
 have hl := fitL_len _ _ _ _ h1
 have hlb := fitBs_len _ _ _ h2
 have hi : ∀ b, imOf c ids w b → imOf c (ids.take m'.length) w b := by
  rintro b (h | ⟨q1, q2, q3⟩)
  ·exact .inl h
  ·exact .inr ⟨q1, q2, fun p hp => q3 p (List.mem_of_mem_take hp)⟩
 have hidl : ids.length = m.length := hs.mlen
 refine ⟨hs.defers, by rw [hs.len, hl], ?_, by simp; omega, ?_, ?_, ?_, hs.frame, hs.im0lt, fun vs h => hs.gho vs (List.mem_of_mem_take h)⟩
 ·intro i g1 g2
  exact fitA_rel hi 5 _ _ _ _ (fitL_get _ _ _ _ h1 i (by omega) g1) (hs.slots i (by omega) g2)
 ·intro b g1 g2
  have := hs.blks b (by omega) (by omega)
  rw [List.getElem_take]
  exact fitB_rel hi (fitBs_get _ _ _ h2 b (by omega) g1) this
 ·intro i j p q x g1 g2 g3 g3'
  rw [List.getElem?_take] at g1 g2
  split at g1
  ·split at g2
   ·exact hs.distinctX i j p q x g1 g2 g3 g3'
   ·cases g2
  ·cases g1
 ·intro p hp; exact hs.freshX p (List.mem_of_mem_take hp)
theorem WkS_of_fit {s' : List A} {m' : List Blk} (h : fitS s m s' m') : WkS s m s' m' := fun _ _ _ _ hs => ⟨_, hs.fit h⟩
end
end Go.Proofs.YtnkbkfjgbejhfaaGreat.Am
namespace Go.Proofs.YtnkbkfjgbejhfaaGreat.Am
variable [Inhabited DRT]
open Go.RowKit (Below)

def ret1 (tt : TT) (rv : ResultVar) (s : List A) (m : List Blk) (K : A → Prop) : Prop :=
 match rv with
 | .tmp t => fd 3 (wk m 5 (s.getD t .junk)) K
 | .cell p t => sLoad tt t (s.getD p .junk) m fun v _ => fd 3 (wk m 5 v) K
def retL (tt : TT) : List ResultVar → List A → List Blk → (List A → Prop) → Prop
 | [], _, _, K => K []
 | r :: rs, s, m, K => ret1 tt r s m fun v => retL tt rs s m fun vs => K (v :: vs)
def fitR (vs : List A) (r : A) : Prop :=
 match vs with
 | [v] => andL (fitA 6 0 v r)
 | vs => andL (fitA 6 0 (.tup vs) r)
def retQ (tt : TT) (fn : Func) (r : A) : Exit → List A → List Blk → Prop
 | .ret, s, m => retL tt fn.results.toList s m fun vs => fitR vs r
 | .normal, s, m => retL tt fn.results.toList s m fun vs => fitR vs r
 | _, _, _ => False

def resOf (tmps : Array Value) : ResultVar → Sem Value
 | .tmp t => pure (tmps.getD t undef)
 | .cell p t => do loadVar t (← asAddr (tmps.getD p undef))

section
variable {c : Ctx} {s : List A} {m : List Blk} {a : Act} {w w' : World} {ids ids' : Ids} {P : Program} {im im' : Nat → Prop} {tt : TT} {G : GInv}

theorem sLoad_run (htt : TTok P tt) (hs : Sim c s m a w ids) {t : TypeId} {x : A} {v : Value} (hx : Rel ids (imOf c ids w) w x v) {K : KT} (h : sLoad tt t x m K) :
  ∃ ad r u, v = .pointer (some ad) ∧ (loadVar t ad).run P w = .ok u w ∧ K r m ∧ Rel ids (imOf c ids w) w r u := by
 unfold sLoad at h
 split at h
 ·exact h.elim
 ·rename_i ti ht
  split at h
  ·rename_i b off
   split at h
   ·rename_i ty cs hb
    obtain ⟨p, hid, hv⟩ := hs.ref_at hx (by rw [hb]; simp)
    obtain ⟨r, v, h1, h2, h3⟩ := ldA_sound (P := P) htt ht (base := 0) (hs.run_box hid hb) h
    rw [Nat.zero_add] at h1
    exact ⟨_, r, v, hv, h1, h2, h3⟩
   ·exact h.elim
  ·rename_i b i off
   split at h
   ·rename_i ty sz n row hb
    obtain ⟨p, hid, hv⟩ := hs.oref_at hx (by rw [hb]; simp)
    obtain ⟨hi, h⟩ := h
    rw [fl_eq] at h
    obtain ⟨r, v, h1, h2, h3⟩ := ldA_sound (P := P) htt ht (hs.run_row hid hb hi) h
    exact ⟨_, r, v, hv, h1, h2, h3⟩
   ·exact h.elim
  ·rename_i cs off
   cases hx with
   | imm hx =>
    cases hx with
    | bref blk base _ _ vs hb hc hov hr =>
     have hrun : Run ids (imOf c ids w) w cs blk base := by
      refine ⟨(List.range cs.length).map vs, by simp, ?_, ?_, ?_⟩
      ·intro j hj; simp at hj; simpa using hc j hj
      ·intro v hv; simp at hv; obtain ⟨j, hj, rfl⟩ := hv; exact hov j hj
      ·intro j hj hj'; simpa using Rel.imm (hr j hj)
     obtain ⟨r, v, h1, h2, h3⟩ := ldA_sound (P := P) htt ht hrun h
     exact ⟨_, r, v, rfl, h1, h2, h3⟩
  ·exact h.elim

theorem ret1_run (htt : TTok P tt) (hs : Sim c s m a w ids) (rv : ResultVar) {K : A → Prop} (h : ret1 tt rv s m K) :
  ∃ r v, (resOf a.tmps rv).run P w = .ok v w ∧ K r ∧ RelI (imAll c ids w) w r v := by
 cases rv with
 | tmp t =>
  simp only [ret1, fd_eq] at h
  exact ⟨_, a.tmps.getD t undef, rfl, h, wk_rel hs 5 _ _ (hs.ev (.tmp t))⟩
 | cell p t =>
  simp only [ret1, fd_eq] at h
  obtain ⟨ad, r, u, h1, h2, h3, h4⟩ := sLoad_run (P := P) htt hs (hs.ev (.tmp p)) h
  refine ⟨_, u, ?_, h3, wk_rel hs 5 _ _ h4⟩
  have h1 : a.tmps.getD p undef = .pointer (some ad) := h1
  show (do loadVar t (← asAddr (a.tmps.getD p undef)) : Sem Value).run P w = _
  rw [h1]
  simp [asAddr, h2]

theorem retL_run (htt : TTok P tt) (hs : Sim c s m a w ids) : ∀ (rs : List ResultVar) {K : List A → Prop}, retL tt rs s m K →
  ∃ (xs : List A) (vs : List Value), (rs.mapM (resOf a.tmps)).run P w = .ok vs w ∧ K xs ∧
   vs.length = xs.length ∧ ∀ j (h : j < xs.length) (h' : j < vs.length), RelI (imAll c ids w) w xs[j] vs[j]
 | [], K, h => ⟨[], [], by simp, h, rfl, fun j h => absurd h (Nat.not_lt_zero _)⟩
 | rv :: rs, K, h => by
  obtain ⟨r, v, h1, h2, h3⟩ := ret1_run (P := P) htt hs rv h
  obtain ⟨xs, vs, g1, g2, g3, g4⟩ := retL_run htt hs rs h2
  refine ⟨r :: xs, v :: vs, ?_, g2, by simp [g3], ?_⟩
  ·rw [List.mapM_cons]
   simp only [Sem.run_bind, h1, Result.andThen_ok, g1]
   rfl
  ·intro j hj hj'
   cases j with
   | zero => exact h3
   | succ j => exact g4 j (by simpa using hj) (by simpa using hj')

theorem results_eq (fn : Func) (tmps : Array Value) : results fn tmps = (do let vs ← fn.results.mapM (resOf tmps); pure (if h : vs.size = 1 then vs[0] else .tuple vs)) := by
 unfold results
 have : ∀ f g : ResultVar → Sem Value, f = g → (do let vs ← fn.results.mapM f; pure (if h : vs.size = 1 then vs[0] else .tuple vs)) = (do let vs ← fn.results.mapM g; pure (if h : vs.size = 1 then vs[0] else .tuple vs)) := by
  rintro f _ rfl; rfl
 apply this
 funext x; cases x <;> rfl
theorem results_run {fn : Func} {vs : List Value} (h : (fn.results.toList.mapM (resOf a.tmps)).run P w = .ok vs w) :
  (results fn a.tmps).run P w = .ok (if h : vs.toArray.size = 1 then vs.toArray[0] else .tuple vs.toArray) w := by
 rw [results_eq]
 have e : (fn.results.mapM (resOf a.tmps)).run P w = .ok vs.toArray w := by
  rw [Array.mapM_eq_mapM_toList, map_eq_pure_bind]
  simp only [Sem.run_bind, h, Result.andThen_ok]
  rfl
 simp only [Sem.run_bind, e, Result.andThen_ok]
 rfl

theorem retQ_body (htt : TTok P tt) (hs : Sim c s m a w ids) {fn : Func} {r : A} (h : retL tt fn.results.toList s m fun vs => fitR vs r) :
  ∃ v, (results fn a.tmps).run P w = .ok v w ∧ RelI (fun b => c.im0 b ∨ (c.new b ∧ b < w.heap.size)) w r v := by
 obtain ⟨xs, vs, h1, h2, h3, h4⟩ := retL_run (P := P) htt hs _ h
 refine ⟨_, results_run h1, ?_⟩
 have hi : ∀ b, imAll c ids w b → c.im0 b ∨ (c.new b ∧ b < w.heap.size) := by
  rintro b ((h | ⟨q1, q2, _⟩) | ⟨p, hp, hx⟩)
  ·exact .inl h
  ·exact .inr ⟨q1, q2⟩
  ·exact .inr (hs.freshX p hp b hx)
 have fin : ∀ x v, andL (fitA 6 0 x r) → RelI (imAll c ids w) w x v → RelI (fun b => c.im0 b ∨ (c.new b ∧ b < w.heap.size)) w r v := by
  intro x v hf hr
  have := fitA_rel (ids := []) (n := 0) hi 6 x r v hf (.imm hr)
  exact this.nil_rel
 unfold fitR at h2
 split at h2
 ·rename_i x
  have : vs.length = 1 := by simpa using h3
  match vs, this with
  | [v], _ => exact fin x v h2 (h4 0 (by simp) (by simp))
 ·rename_i hne
  have hne : ¬ vs.length = 1 := by
   intro e
   rw [e] at h3
   match xs, h3 with
   | [x], _ => exact hne x rfl
  rw [dif_neg (by simpa using hne)]
  exact fin _ _ h2 (.tup xs vs h3 h4)

theorem ACalls.of_WA (htt : TTok P tt) {f : FuncId} {fn : Func} {cd : Code} {args : List A} {r : A} (hf : P.funcs[f]? = some fn) (hb : fn.body = some cd)
  (hn : (fn.name == "runtime.NumGoroutine") = false) (k : Nat) (hk : fn.ntmps - args.length = k)
  (h : fl (args ++ List.replicate k .junk) fun s => WA P G cd (retQ tt fn r) s []) : ACalls P G f args r := by
 rw [fl_eq] at h
 refine ⟨⟨fn, cd, hf, hb, hn⟩, ?_⟩
 intro im w vs him hG hl hr
 refine calls_of_wp hf hb ?_
 unfold WA at h
 have hsim : Sim ⟨w, im, fun _ => False, []⟩ (args ++ List.replicate k .junk) [] ⟨vs.toArray ++ Array.replicate (fn.ntmps - vs.toArray.size) undef, []⟩ w [] := by
  refine ⟨rfl, by simp [hl, hk], ?_, rfl, fun b h => absurd h (Nat.not_lt_zero _), (fun b b' p q x h => by simp at h), (fun p h => by cases h), Fr.refl _ _ _ _, fun b hb => ⟨him b hb, fun h => h⟩, (fun vs h => by cases h)⟩
  intro i h1 h2
  by_cases hi : i < args.length
  ·rw [List.getElem_append_left hi, Array.getElem_append_left (by simp; omega)]
   have := hr i hi (by omega)
   exact .imm (by simpa using this.up (fun b hb => .inl hb))
  ·rw [List.getElem_append_right (by omega)]
   simp only [List.getElem_replicate]
   exact .imm (.junk _)
 have hnew : ∀ (w' : World) (b : Nat), im b ∨ (Ctx.new ⟨w, im, fun _ => False, []⟩ b ∧ b < w'.heap.size) → im b ∨ (w.heap.size ≤ b ∧ b < w'.heap.size) := by
  rintro w' b (h | ⟨h | h, h2⟩)
  ·exact .inl h
  ·exact .inr ⟨h, h2⟩
  ·exact h.elim
 refine wp_mono (h ⟨w, im, fun _ => False, []⟩ _ w [] ⟨hG, fun _ h => h.elim⟩ hsim) ?_
 rintro e a' w' ⟨s', m', ids', hq, hs'⟩
 cases e with
 | ret =>
  obtain ⟨v, h1, h2⟩ := retQ_body (P := P) htt hs' hq
  exact ⟨hs'.defers, v, h1, v, rfl, h2.up (hnew w'), hs'.frame.below fun _ h => h⟩
 | normal =>
  obtain ⟨v, h1, h2⟩ := retQ_body (P := P) htt hs' hq
  exact ⟨hs'.defers, v, h1, v, rfl, h2.up (hnew w'), hs'.frame.below fun _ h => h⟩
 | _ => exact hq.elim

/-! ### Loops, with the slots that the body writes forgotten -/
def writes : Code → List Nat
 | .region _ ops _ => ops.toList.filterMap (·.dst)
 | .seq x y => writes x ++ writes y
 | .cond _ x y => writes x ++ writes y
 | .block _ x => writes x
 | .loop x => writes x
 | _ => []
def memN (i : Nat) : List Nat → Bool
 | [] => false
 | j :: js => match Nat.beq i j with
  | true => true
  | false => memN i js
def jk (ws : List Nat) : Nat → List A → List A
 | _, [] => []
 | i, x :: xs => (match memN i ws with | true => .junk | false => x) :: jk ws (i + 1) xs
def ovr : List (Nat × A) → List A → List A
 | [], s => s
 | (i, v) :: l, s => ovr l (s.set i v)
def headS (body : Code) (s : List A) (ov : List (Nat × A)) : List A := ovr ov (jk (writes body) 0 s)
def roundF {ι : Type} (body : Code) (s0 : List A) (ov : ι → List (Nat × A)) (M : ι → List Blk) (μ : ι → Nat) (i : ι) (Q : Exit → List A → List Blk → Prop) : Exit → List A → List Blk → Prop
 | .normal, s, m => ∃ j, μ j < μ i ∧ fl (headS body s0 (ov j)) fun s' => fitS s m s' (M j)
 | e, s, m => Q e s m
theorem WA_loopO {Q : Exit → List A → List Blk → Prop} {ι : Type} {body : Code} (ov : ι → List (Nat × A)) (M : ι → List Blk) (μ : ι → Nat) (i0 : ι)
  (h0 : fl (headS body s (ov i0)) fun s' => fitS s m s' (M i0))
  (hr : ∀ i, fl (headS body s (ov i)) fun s' => WA P G body (roundF body s ov M μ i Q) s' (M i)) : WA P G (.loop body) Q s m := by
 rw [fl_eq] at h0
 refine WA_loop (fun i => headS body s (ov i)) M μ i0 (WkS_of_fit h0) ?_
 intro i
 have := hr i
 rw [fl_eq] at this
 refine WA_mono this ?_
 intro e s' m' hq
 cases e with
 | normal =>
  obtain ⟨j, h1, h2⟩ := hq
  rw [fl_eq] at h2
  exact ⟨j, h1, WkS_of_fit h2⟩
 | _ => exact hq

def roundI {ι : Type} (body : Code) (s0 : List A) (I : ι → Prop) (ov : ι → List (Nat × A)) (M : ι → List Blk) (μ : ι → Nat) (i : ι) (Q : Exit → List A → List Blk → Prop) : Exit → List A → List Blk → Prop
 | .normal, s, m => ∃ j, I j ∧ μ j < μ i ∧ fl (headS body s0 (ov j)) fun s' => fitS s m s' (M j)
 | e, s, m => Q e s m
/-- A loop whose rounds are told by an index that keeps a law. -/
theorem WA_loopI {Q : Exit → List A → List Blk → Prop} {ι : Type} {body : Code} (I : ι → Prop) (ov : ι → List (Nat × A)) (M : ι → List Blk) (μ : ι → Nat) (i0 : ι) (hI : I i0)
  (h0 : fl (headS body s (ov i0)) fun s' => fitS s m s' (M i0))
  (hr : ∀ i, I i → fl (headS body s (ov i)) fun s' => WA P G body (roundI body s I ov M μ i Q) s' (M i)) : WA P G (.loop body) Q s m := by
 refine WA_loopO (ι := {i : ι // I i}) (fun i => ov i.1) (fun i => M i.1) (fun i => μ i.1) ⟨i0, hI⟩ h0 ?_
 rintro ⟨i, hi⟩
 have := hr i hi
 rw [fl_eq] at this ⊢
 refine WA_mono this ?_
 intro e s' m' hq
 cases e with
 | normal =>
  obtain ⟨j, h1, h2, h3⟩ := hq
  exact ⟨⟨j, h1⟩, h2, h3⟩
 | _ => exact hq

/-- A slot that holds a nil slice holds a row of ours that has no place yet. -/
theorem WA_nil {Q : Exit → List A → List Blk → Prop} {code : Code} (k : Nat) (ty : TypeId) (sz : Nat) (hk : s[k]? = some .nils)
  (h : fnat m.length fun n => setF s k (.own n) fun s' => pushB m (.row ty sz 0 fun _ => []) fun _ m' => WA P G code Q s' m') : WA P G code Q s m := by
 rw [fnat_eq, setF_eq, pushB_eq] at h
 unfold WA at h ⊢
 intro c a w ids hG hs
 have hs1 := hs.grow (Bw.refl _ w) [.row ty sz 0 fun _ => []] [.virt] rfl (fun i h1 h2 => by
   have : i = 0 := by simp at h1; omega
   subst this; exact rfl) (fun p h => by simp at h) (fun vs h => by simp at h) (fun i j p q x h1 => by
   cases i with
   | zero => simp at h1
   | succ i => simp at h1)
 have hlt : k < s.length := by
  rcases Nat.lt_or_ge k s.length with h' | h'
  ·exact h'
  ·rw [List.getElem?_eq_none h'] at hk; cases hk
 have hv := hs.slots k hlt (by rw [hs.len]; exact hlt)
 have hsk : s[k] = .nils := by rw [List.getElem?_eq_getElem hlt] at hk; exact Option.some.inj hk
 rw [hsk] at hv
 have hs2 := hs1.reslot k (x := .own m.length) (by
  rw [Array.getD_eq_getD_getElem?, Array.getElem?_eq_getElem (by rw [hs.len]; exact hlt)]
  simp only [Option.getD_some]
  rw [hv.nils_inv]
  exact .own0 _ (by rw [← hs.mlen]; simp))
 exact h c a w _ hG hs2
end
end Go.Proofs.YtnkbkfjgbejhfaaGreat.Am
namespace Go.Proofs.YtnkbkfjgbejhfaaGreat.Am
variable [Inhabited DRT]
open Go.RowKit Go.ChangeShapes

section
variable {H : Type} {enc : TypeId × Value → H} {P : Program}
/-- Each argument reads behind the call as it read before. -/
theorem trodAll_below (hl : laidOutB P = true) {W W' : World} (hb : Below W.heap.size W W') : ∀ (ts : List TypeId) (vs : List Value) (ds : List (DataW H)) (ps : List MemPlace),
  ts.all (fun t => P.readableRec t && decide (t < P.types.size)) = true → DataW.TrodAll enc P W 0 (fun _ => true) true ts vs ds ps → (∀ x ∈ ps, x.block < W.heap.size) →
  DataW.TrodAll enc P W' 0 (fun b => decide (b < W.heap.size)) true ts vs ds ps
 | [], vs, ds, ps, _, h, _ => by
  obtain ⟨rfl, rfl, rfl⟩ := trodAll_nil h
  rfl
 | t :: ts, vs, ds, ps, hts, h, hlt => by
  obtain ⟨v, vs', d, ds', p, q, rfl, rfl, rfl, h1, h2⟩ := trodAll_cons h
  simp only [List.all_cons, Bool.and_eq_true, decide_eq_true_eq] at hts
  exact ⟨p, q, Below.trod hl hts.1.1 hts.1.2 h1 hb (fun x hx => hlt x (List.mem_append_left _ hx)), trodAll_below hl hb ts vs' ds' q hts.2 h2 (fun x hx => hlt x (List.mem_append_right _ hx)), rfl⟩

/-- A law that returned true, in a world that is as it was below the heap's old size. -/
theorem post_true {f : Func} {s : ChangeSpec} {apart fresh handsOn : Bool} {W W' : World} {args : Array Value} {ds gs : List (DataW H)} {before : List MemPlace} {tb : TypeId}
  (hl : laidOutB P = true) (hv : s.vars = []) (hr : f.resultTypes = #[tb]) (htb : P.underlying tb = some .bool)
  (hts : f.params.toList.all (fun t => P.readableRec t && decide (t < P.types.size)) = true)
  (hfn : s.fn H (ds ++ gs) = { results := [.lit (.bool true)], args := ds })
  (hW : DataW.Whole enc P f.params.toList s.vars apart W args.toList ds gs before) (hb : Below W.heap.size W W') :
  s.post enc P f apart fresh handsOn false W args (.bool true) W' := by
 have hW' := hW
 obtain ⟨p, q, hA, hV, rfl, hz, hn⟩ := hW
 rw [hv] at hV
 obtain ⟨rfl, rfl⟩ := trodVars_none hV
 refine ⟨ds, [], p ++ [], [], p, [], hW', ?_, ?_, ?_, hb.frame _, fun h => by cases h⟩
 ·rw [hfn, hr]
  exact trodAll_mk1 (shut_bool htb _)
 ·rw [hfn]
  exact trodAll_below hl hb _ _ _ _ hts hA (fun x hx => hW'.lt x (by simpa using hx))
 ·rw [hfn, hv]; rfl
end

/-- From a contract to a call. -/
theorem calls_true {P : Program} {G : GInv} {f : FuncId} {as : List A} (h : ACalls P G f as (.sb true)) {W : World} {vs : List Value} {im : Nat → Prop} (him : ∀ b, im b → b < W.heap.size) (hG : G.G W) (hl : vs.length = as.length)
  (hr : ∀ j (h : j < as.length) (h' : j < vs.length), RelI im W as[j] vs[j]) : Calls P f vs.toArray W fun e W' => e = .returned (.bool true) ∧ Below W.heap.size W W' := by
 refine Calls_mono (h.2 im W vs him hG hl hr) ?_
 rintro e W' ⟨v, rfl, hv, hb⟩
 cases hv
 exact ⟨rfl, hb.below⟩
end Go.Proofs.YtnkbkfjgbejhfaaGreat.Am
namespace Go.Proofs.YtnkbkfjgbejhfaaGreat.Am
variable [Inhabited DRT]
open Go.RowKit (Below)

/-- A continuation's argument is one value, whatever is asked of it. -/
def DM (F : (A → Prop) → Prop) : Prop := ∀ K, F K ↔ ∃ v, K v ∧ F (fun v' => v' = v)
theorem DM.val (e : A) : DM (fun K => K e) := fun K => by simp
theorem DM.fls : DM (fun _ => False) := fun K => by simp
theorem DM.and {c : Prop} {F : (A → Prop) → Prop} (h : DM F) : DM (fun K => c ∧ F K) := fun K => by
 constructor
 ·rintro ⟨hc, hF⟩
  obtain ⟨v, h1, h2⟩ := (h K).1 hF
  exact ⟨v, h1, hc, h2⟩
 ·rintro ⟨v, h1, hc, h2⟩
  exact ⟨hc, (h K).2 ⟨v, h1, h2⟩⟩
theorem DM.two {b : Bool} {F F' : (A → Prop) → Prop} (h : DM F) (h' : DM F') : DM (fun K => (b = true → F K) ∧ (b = false → F' K)) := fun K => by
 cases b
 ·simpa using h' K
 ·simpa using h K
theorem DM.ex {α : Type} {p : α → Prop} {F : α → (A → Prop) → Prop} (h : ∀ r, DM (F r)) : DM (fun K => ∃ r, p r ∧ F r K) := fun K => by
 constructor
 ·rintro ⟨r, hp, hF⟩
  obtain ⟨v, h1, h2⟩ := (h r K).1 hF
  exact ⟨v, h1, r, hp, h2⟩
 ·rintro ⟨v, h1, r, hp, h2⟩
  exact ⟨r, hp, (h r K).2 ⟨v, h1, h2⟩⟩
theorem DM_ldA (agg : Bool) (size : Nat) (cs : List A) (off : Nat) : DM (ldA agg size cs off) := by
 unfold ldA
 cases agg
 ·cases Nat.blt off cs.length
  ·exact DM.fls
  ·simp only [fv_eq]; exact DM.val _
 ·cases Nat.ble (off + size) cs.length
  ·exact DM.fls
  ·simp only [fl_eq]; exact DM.val _
theorem DM_sLoad (tt : TT) (t : TypeId) (p : A) (m : List Blk) : DM (fun K => sLoad tt t p m fun v _ => K v) := by
 unfold sLoad
 cases tt.lookup t with
 | none => exact DM.fls
 | some ti =>
  cases p <;> simp only <;> first | exact DM.fls | skip
  case ref b off => cases m.getD b .dead <;> simp only <;> first | exact DM.fls | exact DM_ldA _ _ _ _
  case oref b i off =>
   cases m.getD b .dead <;> simp only <;> first | exact DM.fls | skip
   simp only [fl_eq]; exact DM.and (DM_ldA _ _ _ _)
  case bref cs off => exact DM_ldA _ _ _ _
theorem DM_sPick (x y z : A) : DM (sPick x y z) := by
 unfold sPick
 split
 ·simp only [fv_eq]; exact DM.val _
 ·simp only [fv_eq]; exact DM.val _
 ·simp only [fv_eq]; exact DM.two (DM.val _) (DM.val _)
 ·exact DM.fls
theorem DM_WR (k : IntKind) (n : Int) : DM (WR k n) := by
 intro K
 constructor
 ·intro h
  exact ⟨_, WR_inv h, by unfold WR; exact .inr rfl⟩
 ·rintro ⟨v, h1, h2⟩
  unfold WR at h2 ⊢
  rcases h2 with ⟨h2, h3⟩ | h3
  ·subst h3; exact .inl ⟨h2, h1⟩
  ·subst h3; exact .inr h1
theorem DM_sBinInt (op : BinOp) (k : IntKind) (a b : Int) : DM (sBinInt op k a b) := by
 unfold sBinInt
 cases op <;> simp only <;> first | exact DM.fls | exact DM.val _ | exact DM_WR _ _ | exact DM.and (DM_WR _ _) | exact DM.and (DM.val _)
theorem DM_sBinStr (op : BinOp) (a b : List UInt8) : DM (sBinStr op a b) := by
 unfold sBinStr
 cases op <;> simp only <;> first | exact DM.fls | exact DM.val _ | exact DM.and (DM.val _)
theorem DM_sShift (op : BinOp) (k : IntKind) (a b : Int) : DM (sShift op k a b) := by
 unfold sShift
 cases op <;> simp only <;> first | exact DM.fls | exact DM.val _ | exact DM.and (DM_WR _ _) | exact DM.and (DM.val _)
theorem DM_sEq : ∀ (sh : List Nat) (cs cs' : List A) (g : Bool → A), DM (fun K => sEq sh cs cs' fun r => K (g r))
 | [], [], [], g => by unfold sEq; exact DM.val _
 | k :: ks, x :: xs, y :: ys, g => by
  have ih := fun g => DM_sEq ks xs ys g
  unfold sEq
  split
  ·cases x <;> cases y <;> simp only <;> first | exact DM.fls | skip
   rename_i p a q b
   cases kindEq p q <;> simp only
   ·exact DM.fls
   ·exact ih fun r => g (a == b && r)
  ·cases asB x <;> cases asB y <;> simp only <;> first | exact DM.fls | skip
   rename_i a b
   exact ih fun r => g (a == b && r)
  ·cases x <;> cases y <;> simp only <;> first | exact DM.fls | skip
   rename_i a b
   exact ih fun r => g (a == b && r)
  ·exact DM.fls
 | [], [], _ :: _, _ => by unfold sEq; exact DM.fls
 | [], _ :: _, _, _ => by unfold sEq; exact DM.fls
 | _ :: _, [], _, _ => by unfold sEq; exact DM.fls
 | _ :: _, _ :: _, [], _ => by unfold sEq; exact DM.fls
theorem DM_sUn (op : UnOp) (x : A) : DM (sUn op x) := by
 unfold sUn
 cases op <;> cases x <;> simp only <;> first | exact DM.fls | exact DM.val _ | exact DM_WR _ _
theorem DM_sLen (tt : TT) (t : TypeId) (x : A) (m : List Blk) : DM (sLen tt t x m) := by
 unfold sLen
 cases tt.lookup t with
 | none => exact DM.fls
 | some ti =>
  simp only
  split <;> first | exact DM.fls | exact DM.val _ | skip
  split <;> first | exact DM.fls | exact DM.val _
theorem DM_sExtract (x : A) (ix : Nat) : DM (sExtract x ix) := by
 unfold sExtract
 cases x <;> simp only <;> first | exact DM.fls | skip
 rename_i vs
 cases Nat.blt ix vs.length <;> simp only [fv_eq] <;> first | exact DM.fls | exact DM.val _
theorem DM_sNil (x : A) : DM (sNil x) := by
 unfold sNil
 cases x <;> simp only <;> first | exact DM.fls | exact DM.val _
theorem DM_sConv (tt : TT) (src dst : TypeId) (x : A) : DM (sConv tt src dst x) := by
 unfold sConv
 split <;> first | exact DM.fls | skip
 split <;> first | exact DM.fls | exact DM.val _ | (simp only [fik_eq]; exact DM_WR _ _)
theorem DM_sIndex (tt : TT) (t : TypeId) (x ix : A) : DM (sIndex tt t x ix) := by
 unfold sIndex
 split <;> first | exact DM.fls | skip
 split <;> first | exact DM.fls | exact DM.and (DM.val _) | skip
 split <;> first | exact DM.fls | exact DM.and (DM_ldA _ _ _ _)
theorem DM_sField (tt : TT) (t : TypeId) (x : A) (f : Nat) : DM (sField tt t x f) := by
 unfold sField
 split <;> first | exact DM.fls | skip
 split <;> first | exact DM.fls | skip
 split <;> first | exact DM.fls | exact DM_ldA _ _ _ _
theorem DM_bnd {x : Option A} {d y : Nat} {F : Nat → (A → Prop) → Prop} (h : ∀ n, DM (F n)) : DM (fun K => bnd x d y fun n => F n K) := by
 unfold bnd
 split
 ·exact h _
 ·split <;> first | exact DM.fls | exact DM.and (h _)
theorem DM_sSlice (tt : TT) (t : TypeId) (x : A) (lo hi : Option A) : DM (sSlice tt t x lo hi) := by
 unfold sSlice
 split <;> first | exact DM.fls | skip
 split <;> first | exact DM.fls | exact DM_bnd fun _ => DM_bnd fun _ => DM.val _ | skip
 split <;> first | exact DM.fls | exact DM_bnd fun _ => DM_bnd fun _ => DM.val _
theorem DM_sBin (tt : TT) (t : TypeId) (op : BinOp) (x y : A) : DM (sBin tt t op x y) := by
 unfold sBin
 split
 ·split
  ·exact DM_sShift _ _ _ _
  ·split
   ·exact DM_sBinInt _ _ _ _
   ·exact DM.fls
 ·exact DM_sBinStr _ _ _
 ·split
  ·split
   ·exact DM_sEq _ _ _ _
   ·exact DM_sEq _ _ _ (fun r => .sb !r)
   ·exact DM.fls
  ·exact DM.fls
 ·split
  ·split
   ·split <;> first | exact DM.fls | exact DM.val _
   ·exact DM.fls
  ·split
   ·split <;> first | exact DM.fls | exact DM.val _
   ·exact DM.fls
theorem DM_mnL : ∀ (ys : List A) (x : A), DM (mnL x ys)
 | [], x => by
  have : mnL x [] = fun K => K x := by funext K; simp only [mnL, fv_eq]
  rw [this]; exact DM.val _
 | y :: ys, x => by
  have : mnL x (y :: ys) = fun K => mn2 x y fun v => mnL v ys K := by funext K; simp only [mnL]
  rw [this]; unfold mn2
  cases x <;> cases y <;> simp only <;> first | exact DM.fls | exact DM_mnL ys _
theorem DM_mxL : ∀ (ys : List A) (x : A), DM (mxL x ys)
 | [], x => by
  have : mxL x [] = fun K => K x := by funext K; simp only [mxL, fv_eq]
  rw [this]; exact DM.val _
 | y :: ys, x => by
  have : mxL x (y :: ys) = fun K => mx2 x y fun v => mxL v ys K := by funext K; simp only [mxL]
  rw [this]; unfold mx2
  cases x <;> cases y <;> simp only <;> first | exact DM.fls | exact DM_mxL ys _
theorem DM_bldF (ti : TI) : ∀ (ps : List (Nat × A)) (cs : List A), DM (fun K => bldF ti ps cs fun cs => K (.agg cs))
 | [], cs => by unfold bldF; exact DM.val _
 | (i, v) :: ps, cs => by
  unfold bldF
  split <;> first | exact DM.fls | skip
  split <;> first | exact DM.fls | skip
  simp only [fl_eq]; exact DM_bldF ti ps _
theorem DM_sBuild (tt : TT) (t : TypeId) (ps : List (Nat × A)) (m : List Blk) : DM (fun K => sBuild tt t ps m fun v _ => K v) := by
 unfold sBuild
 cases tt.lookup t with
 | none => exact DM.fls
 | some ti =>
  simp only
  split <;> first | exact DM.fls | exact DM_bldF ti _ _
theorem DM_sFieldAddr (tt : TT) (t : TypeId) (p : A) (f : Nat) (m : List Blk) : DM (fun K => sFieldAddr tt t p f m fun v _ => K v) := by
 unfold sFieldAddr
 cases tt.lookup t with
 | none => exact DM.fls
 | some ti =>
  simp only
  split <;> first | exact DM.fls | skip
  split <;> first | exact DM.fls | skip
  split <;> first | exact DM.fls | (simp only [fnat_eq]; exact DM.val _)
theorem DM_sIndexAddr (tt : TT) (t : TypeId) (p ix : A) (m : List Blk) : DM (fun K => sIndexAddr tt t p ix m fun v _ => K v) := by
 unfold sIndexAddr
 cases tt.lookup t with
 | none => exact DM.fls
 | some ti =>
  simp only
  split
  ·split
   ·split
    ·simp only [fl_eq]; exact DM.and (DM.val _)
    ·exact DM.fls
   ·split
    ·split
     ·exact DM.and (DM.val _)
     ·exact DM.fls
    ·exact DM.fls
   ·exact DM.fls
  ·split
   ·simp only [fnat_eq]; exact DM.and (DM.val _)
   ·simp only [fnat_eq]; exact DM.and (DM.val _)
   ·exact DM.fls
  ·exact DM.fls
end Go.Proofs.YtnkbkfjgbejhfaaGreat.Am
namespace Go.Proofs.YtnkbkfjgbejhfaaGreat.Am
variable [Inhabited DRT]
open Go.RowKit (Below)

structure Oc where
 v : A
 u : List (Nat × Blk)
 rd : List Nat
abbrev KV := A → List (Nat × Blk) → List Nat → Prop
def updB (m : List Blk) : List (Nat × Blk) → List Blk
 | [] => m
 | (b, x) :: l => (updB m l).set b x
def updF (m : List Blk) : List (Nat × Blk) → (List Blk → Prop) → Prop
 | [], K => K m
 | (b, x) :: l, K => updF m l fun m' => setB m' b x K
theorem updF_eq (m : List Blk) : ∀ (u : List (Nat × Blk)) (K : List Blk → Prop), updF m u K = K (updB m u)
 | [], K => rfl
 | (b, x) :: l, K => by rw [updF, updF_eq m l, setB_eq]; rfl

/-- The blocks that are read through a value; none: it may not be said. -/
def rdLs (g : A → Option (List Nat)) : List A → Option (List Nat)
 | [] => some []
 | x :: xs => match g x, rdLs g xs with
  | some l, some r => some (l ++ r)
  | _, _ => none
def rdA (m : List Blk) : Nat → A → Option (List Nat)
 | 0, _ => none
 | d + 1, x => match x with
  | .ref b _ => match m.getD b .dead with
   | .box _ cs => match rdLs (rdA m d) cs with
    | some l => some (b :: l)
    | none => none
   | _ => none
  | .oref _ _ _ => none
  | .own b => match m.getD b .dead with
   | .row _ _ _ _ => some [b]
   | _ => none
  | .omap b => match m.getD b .dead with
   | .mapb _ _ _ _ => some [b]
   | _ => none
  | .agg cs => rdLs (rdA m d) cs
  | .tup cs => rdLs (rdA m d) cs
  | .fn _ cs => rdLs (rdA m d) cs
  | _ => some []
def rd1 : A → List Nat
 | .ref b _ => [b]
 | .oref b _ _ => [b]
 | .own b => [b]
 | .osl b _ => [b]
 | _ => []
def quiet : Op → Bool
 | .move _ => true
 | .assign _ => true
 | .pick _ _ _ => true
 | .build _ _ => true
 | .load _ _ => true
 | .nilCheck _ => true
 | .binOp _ _ _ _ _ => true
 | .unOp _ _ _ => true
 | .convert _ _ _ => true
 | .makeFunc _ _ _ => true
 | .fieldAddr _ _ _ => true
 | .indexAddr _ _ _ => true
 | .index _ _ _ => true
 | .field _ _ _ => true
 | .extract _ _ => true
 | .slice _ _ _ _ none => true
 | .call { callee := .builtin .len, .. } => true
 | .call { callee := .builtin .min, .. } => true
 | .call { callee := .builtin .max, .. } => true
 | .call { callee := .value _, .. } => true
 | _ => false
def callRd (m : List Blk) (f : A) (as : List A) : Option (List Nat) :=
 match f with
 | .fn _ cap => rdLs (rdA m 5) (as ++ cap)
 | _ => none
def rdOp (o : Op) (s : List A) (m : List Blk) : Option (List Nat) :=
 match o with
 | .load _ x => some (rd1 (ev s x))
 | .indexAddr _ x _ => some (rd1 (ev s x))
 | .call { callee := .builtin .len, args, .. } => match args.toList with
  | [x] => some (rd1 (ev s x))
  | _ => none
 | .call { callee := .value f, args, .. } => callRd m (ev s f) (args.toList.map (ev s))
 | _ => some []
/-- A place that is kept for a new block. -/
def freeAt (m : List Blk) (aid : Nat) (X : Prop) : Prop :=
 match m.getD aid .dead, Nat.blt aid m.length with
 | .dead, true => X
 | _, _ => False
def stepQ (P : Program) (G : GInv) (tt : TT) (o : Oper) (s : List A) (m : List Blk) (K : KV) : Prop :=
 match quiet o.op, rdOp o.op s m with
 | true, some rd => step P G tt o s m fun v _ => K v [] rd
 | _, _ => False
def dAlloc (tt : TT) (t : TypeId) (aid : Nat) (m : List Blk) (K : KV) : Prop :=
 match tt.lookup t with
 | some ti => freeAt m aid (K (.ref aid 0) [(aid, .box t ti.zero)] [aid])
 | none => False
def dBox (t : TypeId) (x : A) (aid : Nat) (m : List Blk) (K : KV) : Prop :=
 match cellsA x with
 | some cs => freeAt m aid (K (.ref aid 0) [(aid, .box t cs)] [aid])
 | none => False
/-- Of slices: a row of them is a value from the start. -/
def anySl : List A → Bool
 | [] => false
 | .sl _ _ _ :: _ => true
 | _ :: cs => anySl cs
def dBuildSl (tt : TT) (t : TypeId) (len : Nat) (ps : List (Nat × A)) (aid : Nat) (m : List Blk) (K : KV) : Prop :=
 match tt.lookup t with
 | some ti => match ti.kind, tt.lookup ti.ety, Nat.ble (len * ti.esz) 1000000 with
  | 3, some te, true => bldF ti ps (zer te.zero len) fun cs => match cs.any (hasOwn 4), Nat.beq cs.length (len * ti.esz) with
   | false, true => match anySl cs with
    | false => freeAt m aid (fnat ti.ety fun ety => fnat ti.esz fun esz => K (.own aid) [(aid, .row ety esz len fun i => takeL esz (cs.drop (i * esz)))] [aid])
    | true => fnat ti.esz fun esz => K (.sl len esz fun i => takeL esz (cs.drop (i * esz))) [] []
   | _, _ => False
  | _, _, _ => False
 | none => False
def dMake (tt : TT) (t : TypeId) (l k : A) (aid : Nat) (m : List Blk) (K : KV) : Prop :=
 match tt.lookup t, l, k with
 | some ti, .int _ l, .int _ k => match ti.kind, tt.lookup ti.ety with
  | 3, some te => fnat ti.ebytes fun eb => fnat ti.ety fun ety => fnat ti.esz fun esz => fl te.zero fun z => (0 ≤ l ∧ l ≤ k ∧ k ≤ 140737488355328 ∧ k * (eb : Int) ≤ 140737488355328) ∧ freeAt m aid (K (.own aid) [(aid, .row ety esz l.toNat fun _ => z)] [aid])
  | _, _ => False
 | _, _, _ => False
def dApp (tt : TT) (t : TypeId) (x y : A) (aid : Nat) (m : List Blk) (K : KV) : Prop :=
 match tt.lookup t with
 | none => False
 | some ti => match ti.kind, vrow m ti.esz y with
  | 3, some (n2, row2) => match x with
   | .own b => match m.getD b .dead with
    | .row ty sz n row => match Nat.beq sz ti.esz, Nat.beq ty ti.ety with
     | true, true => fnat ti.ebytes fun eb => (n + n2 ≤ 140737488355328 ∧ (n + n2) * eb ≤ 140737488355328) ∧ freeAt m aid (K (.own aid) [(aid, .row ty sz (n + n2) (rowCat n row row2)), (b, .gone)] (aid :: b :: rd1 y))
     | _, _ => False
    | _ => False
   | _ => False
  | _, _ => False
def dTake (tt : TT) (t : TypeId) (b i off : Nat) (ty ety : TypeId) (sz n : Nat) (hole : Option Nat) (len : Nat → Nat) (row : Nat → Nat → List A) (aid : Nat) (m : List Blk) (K : KV) : Prop :=
 match tt.lookup t with
 | none => False
 | some ti => match ti.kind, Nat.beq ti.ety ety, Nat.beq ti.esz sz, hole, off with
  | 3, true, true, none, 0 => i < n ∧ freeAt m aid (K (.own aid) [(aid, .row ety sz (len i) (row i)), (b, .nest ty ety sz n (some i) len row)] [aid, b])
  | _, _, _, _, _ => False
def dLoad (P : Program) (G : GInv) (tt : TT) (o : Oper) (t : TypeId) (x : A) (aid : Nat) (s : List A) (m : List Blk) (K : KV) : Prop :=
 match x with
 | .oref b i off => match m.getD b .dead with
  | .nest ty ety sz n hole len row => dTake tt t b i off ty ety sz n hole len row aid m K
  | .mgrid _ _ _ n hi cs _ _ _ => sLoadG tt t i off n hi cs fun v => K v [] [b]
  | _ => stepQ P G tt o s m K
 | _ => stepQ P G tt o s m K
def dIdx (P : Program) (G : GInv) (tt : TT) (o : Oper) (t : TypeId) (x i : A) (s : List A) (m : List Blk) (K : KV) : Prop :=
 match x with
 | .own b => match m.getD b .dead with
  | .nest _ _ _ n _ _ _ => match tt.lookup t, i with
   | some ti, .int _ ix => match ti.kind, Nat.beq ti.esz 1 with
    | 3, true => (0 ≤ ix ∧ ix < (n : Int)) ∧ K (.oref b ix.toNat 0) [] [b]
    | _, _ => False
   | _, _ => False
  | .mgrid _ _ _ n _ _ _ _ _ => sIdxG tt t b n i fun v => K v [] [b]
  | _ => stepQ P G tt o s m K
 | _ => stepQ P G tt o s m K
def dPut (tt : TT) (t : TypeId) (b i off : Nat) (y : A) (ty ety : TypeId) (sz n : Nat) (hole : Option Nat) (len : Nat → Nat) (row : Nat → Nat → List A) (m : List Blk) (K : KV) : Prop :=
 match off, y, tt.lookup t, hole with
 | 0, .own b', some ti, some j => match Nat.beq ti.size 1, m.getD b' .dead, Nat.beq b b' with
  | true, .row ety' sz' n' row', false => match Nat.beq ety' ety, Nat.beq sz' sz with
   | true, true => (i = j ∧ i < n) ∧ K .junk [(b', .gone), (b, .nest ty ety sz n none (updN len j n') (updN row j row'))] [b', b]
   | _, _ => False
  | _, _, _ => False
 | _, _, _, _ => False
def dStore (tt : TT) (t : TypeId) (x y : A) (m : List Blk) (K : KV) : Prop :=
 match tt.lookup t, x with
 | some ti, .ref b off => match m.getD b .dead with
  | .box ty cs => stA ti.size cs off y fun cs' => K .junk [(b, .box ty cs')] [b]
  | _ => False
 | some ti, .oref b i off => match m.getD b .dead with
  | .row ty sz n row => match hasOwn 4 y with
   | false => i < n ∧ fl (row i) fun cs => stA ti.size cs off y fun cs' => K .junk [(b, .row ty sz n (updRow row i cs'))] [b]
   | true => False
  | .nest ty ety sz n hole len row => dPut tt t b i off y ty ety sz n hole len row m K
  | .mgrid ty agg sh n _ cs ini has val => sStoreG tt t i off y ty agg sh n cs ini has val fun x' => K .junk [(b, x')] [b]
  | _ => False
 | _, _ => False
def rangeN : Nat → Nat → List Nat
 | 0, _ => []
 | n + 1, k => k :: rangeN n (k + 1)
def zipU : Nat → List Blk → List (Nat × Blk)
 | _, [] => []
 | k, x :: xs => (k, x) :: zipU (k + 1) xs
def freeL (m : List Blk) : Nat → List Blk → Prop → Prop
 | _, [], X => X
 | k, _ :: xs, X => freeAt m k (freeL m (k + 1) xs X)
def dCallN (P : Program) (G : GInv) (f : A) (args : List A) (aid : Nat) (m : List Blk) (K : KV) : Prop :=
 callN P G f args aid fun r' mo' => freeL m aid mo' (K r' (zipU aid mo') (rangeN mo'.length aid))
/-! Maps -/
def rdM : A → List Nat
 | .omap b => [b]
 | _ => []
def dLook (tt : TT) (t : TypeId) (x key : A) (ok : Bool) (m : List Blk) (K : KV) : Prop := sLook tt t x key ok m fun v => K v [] (rdM x)
def dUpd (tt : TT) (t : TypeId) (x key v : A) (m : List Blk) (K : KV) : Prop :=
 mapTy tt t fun agg sh _ => match keyA agg sh key, x, hasOwn 4 v with
  | some k, .omap b, false => match m.getD b .dead with
   | .mapb agg' sh' has val => match boolEq agg agg', ksEq sh sh' with
    | true, true => fd 4 v fun v' => K .junk [(b, .mapb agg' sh' (putH has k true) (putV val k v'))] [b]
    | _, _ => False
   | _ => False
  | _, _, _ => False
def dDel (tt : TT) (t : TypeId) (x key : A) (m : List Blk) (K : KV) : Prop :=
 mapTy tt t fun agg sh _ => match keyA agg sh key, x with
  | some k, .omap b => match m.getD b .dead with
   | .mapb agg' sh' has val => match boolEq agg agg', ksEq sh sh' with
    | true, true => K (.tup []) [(b, .mapb agg' sh' (putH has k false) val)] [b]
    | _, _ => False
   | _ => False
  | _, _ => False
def dMkMap (tt : TT) (t : TypeId) (aid : Nat) (m : List Blk) (K : KV) : Prop :=
 mapTy tt t fun agg sh _ => freeAt m aid (K (.omap aid) [(aid, .mapb agg sh (fun _ => false) (fun _ => .junk))] [aid])
def dEnt (tt : TT) (t : TypeId) (x key : A) (m : List Blk) (K : KV) : Prop :=
 mapTy tt t fun agg sh _ => match keyA agg sh key, x with
  | some k, .omap b => match m.getD b .dead with
   | .mapx agg' sh' has val => match boolEq agg agg', ksEq sh sh' with
    | true, true => K (.tup [.junk, .ent b k]) [(b, .mapx agg' sh' (putH has k true) (putV val k .junk))] [b]
    | _, _ => False
   | _ => False
  | _, _ => False
def dESt (x st v : A) (m : List Blk) (K : KV) : Prop :=
 match x, st, hasOwn 4 v with
 | .omap b, .ent b' k, false => match Nat.beq b b', m.getD b .dead with
  | true, .mapx agg sh has val => fd 4 v fun v' => K .junk [(b, .mapx agg sh has (putV val k v'))] [b]
  | _, _ => False
 | _, _, _ => False
def dOwnSl (tt : TT) (t : TypeId) (b : Nat) (hi : Option A) (aid : Nat) (m : List Blk) (K : KV) : Prop :=
 match tt.lookup t with
 | some ti => match ti.kind, m.getD b .dead with
  | 3, .row ty sz n row => bnd hi n n fun h => freeAt m aid (K (.own aid) [(aid, .row ty sz h row), (b, .gone)] [aid, b])
  | _, _ => False
 | none => False
def dSl (P : Program) (G : GInv) (tt : TT) (o : Oper) (t : TypeId) (x : A) (lo hi : Option A) (aid : Nat) (s : List A) (m : List Blk) (K : KV) : Prop :=
 match x, lo with
 | .own b, none => dOwnSl tt t b hi aid m K
 | _, _ => stepQ P G tt o s m K
/-- How many entries a map has that is a value: it must be known. -/
def dLenM (tt : TT) (t : TypeId) (x : A) (K : KV) : Prop :=
 match x with
 | .mv _ sh has _ => mapTy tt t fun _ _ _ => ∃ n : Nat, (∀ keys : List (List KC), keys.Nodup → (∀ k ∈ keys, kOk sh k ∧ has k = true) → (∀ k, kOk sh k → has k = true → k ∈ keys) → keys.length = n) ∧ K (.int .i64 (n : Int)) [] []
 | _ => False
def dLen (P : Program) (G : GInv) (tt : TT) (o : Oper) (t : TypeId) (x : A) (s : List A) (m : List Blk) (K : KV) : Prop :=
 match x with
 | .mv g sh has val => dLenM tt t (.mv g sh has val) K
 | _ => stepQ P G tt o s m K
def stepV (P : Program) (G : GInv) (tt : TT) (o : Oper) (aid : Nat) (s : List A) (m : List Blk) (K : KV) : Prop :=
 match o.op with
 | .mapEntry t x k => dEnt tt t (ev s x) (ev s k) m K
 | .entryStore _ x st v => dESt (ev s x) (ev s st) (ev s v) m K
 | .slice t x lo hi none => dSl P G tt o t (ev s x) (evO s lo) (evO s hi) aid s m K
 | .lookup t x k ok => dLook tt t (ev s x) (ev s k) ok m K
 | .mapUpdate t x k v => dUpd tt t (ev s x) (ev s k) (ev s v) m K
 | .insert t x k v => dUpd tt t (ev s x) (ev s k) (ev s v) m K
 | .makeMap t none => dMkMap tt t aid m K
 | .call { callee := .builtin .delete, args, argTypes } => match args.toList, argTypes.toList with
  | [x, k], [t, _] => dDel tt t (ev s x) (ev s k) m K
  | _, _ => False
 | .alloc t => dAlloc tt t aid m K
 | .box t x => dBox t (ev s x) aid m K
 | .buildSlice t len ps => dBuildSl tt t len (ps.toList.map fun p => (p.1, ev s p.2)) aid m K
 | .makeSlice t l k => dMake tt t (ev s l) (ev s k) aid m K
 | .call { callee := .builtin .append, args, argTypes } => match args.toList, argTypes.toList with
  | [x, y], [t, t'] => match Nat.beq t' t with
   | true => dApp tt t (ev s x) (ev s y) aid m K
   | false => False
  | _, _ => False
 | .call { callee := .value f, args, .. } => stepQ P G tt o s m K ∨ dCallN P G (ev s f) (args.toList.map (ev s)) aid m K
 | .call { callee := .builtin .len, args, argTypes } => match args.toList, argTypes.toList with
  | [x], [t] => dLen P G tt o t (ev s x) s m K
  | _, _ => stepQ P G tt o s m K
 | .load t x => dLoad P G tt o t (ev s x) aid s m K
 | .indexAddr t x i => dIdx P G tt o t (ev s x) (ev s i) s m K
 | .store t x y => dStore tt t (ev s x) (ev s y) m K
 | _ => stepQ P G tt o s m K

section
variable {c : Ctx} {s s2 : List A} {m m2 : List Blk} {a : Act} {w w' : World} {ids ids' : Ids} {P : Program} {im im' : Nat → Prop} {tt : TT} {G : GInv}
variable {next : Act → World → Prop} {Q : Exit → Act → World → Prop} {o : Oper}

theorem step_m (hq : quiet o.op = true) {K : KT} : step P G tt o s m K = step P G tt o s m fun v _ => K v m := by
 unfold step
 split <;> first | rfl | exact sLoad_m | exact sBuild_m | exact sFieldAddr_m | exact sIndexAddr_m | exact sCall_m | skip
 all_goals (rename_i ho; rw [ho] at hq; cases hq)

theorem DM_sCall (f : A) (as : List A) : DM (fun K => sCall P G f as m fun v _ => K v) := by
 unfold sCall
 split <;> first | exact DM.fls | skip
 simp only [fdl_eq, fd_eq]
 split
 ·exact DM.ex fun r => DM.val _
 ·exact DM.ex fun r => DM.and (DM.val _)
theorem DM_step (hq : quiet o.op = true) : DM (fun K => step P G tt o s m fun v _ => K v) := by
 unfold step
 split <;> first | (split <;> first | exact DM_sSlice _ _ _ _ _ | exact DM.fls; done) | exact DM_sLoad _ _ _ _ | exact DM_sBuild _ _ _ _ | exact DM_sFieldAddr _ _ _ _ _ | exact DM_sIndexAddr _ _ _ _ _ | exact DM_sCall _ _ | exact DM_sPick _ _ _ | exact DM_sBin _ _ _ _ _ | exact DM_sUn _ _ | exact DM_sConv _ _ _ _ | exact DM_sIndex _ _ _ _ | exact DM_sField _ _ _ _ | exact DM_sExtract _ _ | exact DM_sNil _ | exact DM_sSlice _ _ _ _ _ | exact DM.fls | skip
 ·simp only [fv_eq]; exact DM.val _
 ·simp only [fv_eq]; exact DM.val _
 ·rename_i ho; rw [ho] at hq; cases hq
 ·rename_i ho; rw [ho] at hq; cases hq
 ·rename_i ho; rw [ho] at hq; cases hq
 ·split <;> first | exact DM.fls | exact DM.val _
 ·split <;> first | exact DM.fls | exact DM_sLen _ _ _ _
 ·split <;> first | exact DM.fls | exact DM_mnL _ _
 ·split <;> first | exact DM.fls | exact DM_mxL _ _

/-- What is asked of a continuation is asked of one outcome. -/
def DK (F : KV → Prop) : Prop := ∀ K, F K → ∃ r : Oc, K r.v r.u r.rd ∧ F (fun v u rd => v = r.v ∧ u = r.u ∧ rd = r.rd)
theorem DK.val (v : A) (u : List (Nat × Blk)) (rd : List Nat) : DK (fun K => K v u rd) := fun _ h => ⟨⟨v, u, rd⟩, h, rfl, rfl, rfl⟩
theorem DK.fls : DK (fun _ => False) := fun _ h => h.elim
theorem DK.and {p : Prop} {F : KV → Prop} (h : DK F) : DK (fun K => p ∧ F K) := fun K hk => by
 obtain ⟨r, h1, h2⟩ := h K hk.2
 exact ⟨r, h1, hk.1, h2⟩
theorem DK.or {F F' : KV → Prop} (h : DK F) (h' : DK F') : DK (fun K => F K ∨ F' K) := fun K hk => by
 rcases hk with hk | hk
 ·obtain ⟨r, h1, h2⟩ := h K hk; exact ⟨r, h1, .inl h2⟩
 ·obtain ⟨r, h1, h2⟩ := h' K hk; exact ⟨r, h1, .inr h2⟩
theorem DK.free {F : KV → Prop} {aid : Nat} (h : DK F) : DK (fun K => freeAt m aid (F K)) := fun K hk => by
 unfold freeAt at hk ⊢
 split at hk
 ·exact h K hk
 ·exact hk.elim
theorem DK.freeL {F : KV → Prop} (h : DK F) : ∀ (xs : List Blk) (aid : Nat), DK (fun K => freeL m aid xs (F K))
 | [], _ => h
 | _ :: xs, aid => DK.free (DK.freeL h xs (aid + 1))
theorem DK.ofDM {F : (A → Prop) → Prop} {rd : List Nat} (h : DM F) : DK (fun K => F fun v => K v [] rd) := fun K hk => by
 obtain ⟨v, h1, h2⟩ := (h _).1 hk
 exact ⟨⟨v, [], rd⟩, h1, (h _).2 ⟨v, by simp, h2⟩⟩
theorem bldF_ex {ti : TI} : ∀ (ps : List (Nat × A)) (cs : List A) {K : List A → Prop}, bldF ti ps cs K → ∃ cs', K cs' ∧ ∀ K' : List A → Prop, K' cs' → bldF ti ps cs K'
 | [], cs, K, h => ⟨cs, h, fun _ h' => h'⟩
 | (i, v) :: ps, cs, K, h => by
  simp only [bldF] at h ⊢
  split at h
  ·rename_i off size vs hp hc
   split at h
   ·rename_i e1 e2
    rw [fl_eq] at h
    obtain ⟨cs', h1, h2⟩ := bldF_ex ps _ h
    refine ⟨cs', h1, fun K' h' => ?_⟩
    simp only [e1, e2, fl_eq]
    exact h2 K' h'
   ·exact h.elim
  ·exact h.elim


theorem DK_idxG {t : TypeId} {b n : Nat} {i : A} {rd : List Nat} : DK (fun K => sIdxG tt t b n i fun v => K v [] rd) := by
 unfold sIdxG
 split
 ·split
  ·exact DK.and (DK.val _ _ _)
  ·exact DK.fls
 ·exact DK.fls
theorem DK_loadG {t : TypeId} {i off n hi : Nat} {cs : List A} {rd : List Nat} : DK (fun K => sLoadG tt t i off n hi cs fun v => K v [] rd) := by
 unfold sLoadG
 split
 ·split
  ·simp only [fd_eq]; exact DK.and (DK.val _ _ _)
  ·exact DK.fls
 ·exact DK.fls
theorem DK_storeG {t : TypeId} {i off : Nat} {y : A} {ty : TypeId} {agg : Bool} {sh : List KS} {n : Nat} {cs : List A} {ini : Nat → Nat} {has : Nat → List KC → Bool} {val : Nat → List KC → A} {b : Nat} {rd : List Nat} :
  DK (fun K => sStoreG tt t i off y ty agg sh n cs ini has val fun x' => K .junk [(b, x')] rd) := by
 unfold sStoreG
 split
 ·split
  ·exact DK.and (DK.val _ _ _)
  ·exact DK.fls
 ·exact DK.fls
theorem DK_stepQ : DK (stepQ P G tt o s m) := by
 unfold stepQ
 split
 ·rename_i rd hq hr
  exact DK.ofDM (DM_step (P := P) (G := G) (tt := tt) (s := s) (m := m) hq)
 ·exact DK.fls
theorem DK_stA {size : Nat} {cs : List A} {off : Nat} {y : A} {F : List A → KV → Prop} (h : ∀ cs', DK (F cs')) : DK (fun K => stA size cs off y fun cs' => F cs' K) := fun K hk => by
 obtain ⟨vs, g1, g2, g3, g4⟩ := stA_inv hk
 obtain ⟨r, h1, h2⟩ := h _ K g4
 refine ⟨r, h1, ?_⟩
 simp only
 unfold stA
 simp only [g1, g2, fl_eq]
 have e2 : Nat.ble (off + size) cs.length = true := Nat.ble_eq_true_of_le g3
 simp only [e2, Nat.beq_refl]
 exact h2
theorem DK_callN {f : A} {as : List A} {aid : Nat} {F : A → List Blk → KV → Prop} (h : ∀ r mo, DK (F r mo)) : DK (fun K => callN P G f as aid fun r mo => F r mo K) := fun K hk => by
 unfold callN at hk ⊢
 split at hk
 ·rw [fdl_eq] at hk
  simp only [fdl_eq]
  split at hk
  ·rename_i hown
   obtain ⟨r, mo, hc, hk⟩ := hk
   split at hk
   ·rename_i hng
    rw [fd_eq, fbs_eq] at hk
    obtain ⟨x, h1, h2⟩ := h _ _ K hk
    refine ⟨x, h1, ?_⟩
    refine ⟨r, mo, hc, ?_⟩
    simp only [hng, fd_eq, fbs_eq]
    exact h2
   ·exact hk.elim
  ·exact hk.elim
 ·exact hk.elim
theorem mapTy_ex {t : TypeId} {F : Bool → List KS → A → Prop} (h : mapTy tt t F) : ∃ agg sh z, F agg sh z ∧ ∀ F' : Bool → List KS → A → Prop, F' agg sh z → mapTy tt t F' := by
 unfold mapTy at h ⊢
 split at h
 ·exact h.elim
 ·rename_i ti hti
  split at h
  ·rename_i tk te hk htk hte
   split at h
   ·rename_i ns sh hns hsh
    split at h
    ·rename_i hok hlen
     simp only [fB_eq] at h ⊢
     split at h
     ·rename_i ha
      rw [fl_eq] at h
      refine ⟨_, _, _, h, fun F' h' => ?_⟩
      simp only [hk, htk, hte, hns, hsh, hok, hlen, ha, fl_eq]; exact h'
     ·rename_i ha
      split at h
      ·rename_i z hz
       rw [fv_eq] at h
       refine ⟨_, _, _, h, fun F' h' => ?_⟩
       simp only [hk, htk, hte, hns, hsh, hok, hlen, ha, hz, fv_eq]; exact h'
      ·exact h.elim
    ·exact h.elim
   ·exact h.elim
  ·exact h.elim
theorem DM_sLook (t : TypeId) (x key : A) (ok : Bool) : DM (sLook tt t x key ok m) := by
 have hl : ∀ z k has val, DM (lookR z k ok has val) := by
  intro z k has val
  unfold lookR
  cases ok <;> simp only [fd_eq] <;> exact DM.two (DM.val _) (DM.val _)
 have hg : ∀ agg sh z k agg' sh' has val, DM (lookG agg sh z k ok agg' sh' has val) := by
  intro agg sh z k agg' sh' has val
  unfold lookG
  split <;> first | exact hl _ _ _ _ | exact DM.fls
 intro K
 constructor
 ·intro h
  unfold sLook at h
  obtain ⟨agg, sh, z, h1, h2⟩ := mapTy_ex h
  split at h1
  ·exact h1.elim
  ·rename_i k hk
   split at h1
   ·obtain ⟨v, g1, g2⟩ := (hg _ _ _ _ _ _ _ _ K).1 h1
    exact ⟨v, g1, by unfold sLook; refine h2 _ ?_; rw [hk]; exact g2⟩
   ·rename_i b
    split at h1
    ·rename_i hb
     obtain ⟨v, g1, g2⟩ := (hg _ _ _ _ _ _ _ _ K).1 h1
     exact ⟨v, g1, by unfold sLook; refine h2 _ ?_; simp only [hk, hb]; exact g2⟩
    ·exact h1.elim
   ·cases ok
    ·exact ⟨_, h1, by unfold sLook; refine h2 _ ?_; rw [hk]⟩
    ·exact ⟨_, h1, by unfold sLook; refine h2 _ ?_; rw [hk]⟩
   ·exact h1.elim
 ·rintro ⟨v, g1, h⟩
  unfold sLook at h ⊢
  obtain ⟨agg, sh, z, h1, h2⟩ := mapTy_ex h
  refine h2 _ ?_
  split at h1
  ·exact h1.elim
  ·rename_i k hk
   split at h1
   ·exact (hg _ _ _ _ _ _ _ _ K).2 ⟨v, g1, h1⟩
   ·rename_i b
    split at h1
    ·rename_i hb
     exact (hg _ _ _ _ _ _ _ _ K).2 ⟨v, g1, h1⟩
    ·exact h1.elim
   ·cases ok
    ·simp only at h1 ⊢; rw [h1]; exact g1
    ·simp only at h1 ⊢; rw [h1]; exact g1
   ·exact h1.elim
theorem DK_dUpd {t : TypeId} {x key v : A} : DK (dUpd tt t x key v m) := fun K h => by
 unfold dUpd at h
 obtain ⟨agg, sh, z, h1, h2⟩ := mapTy_ex h
 split at h1
 ·rename_i k b hk hown
  split at h1
  ·rename_i hb
   split at h1
   ·rename_i g1 g2
    rw [fd_eq] at h1
    refine ⟨⟨_, _, _⟩, h1, ?_⟩
    unfold dUpd
    refine h2 _ ?_
    simp only [hk, hown, hb, g1, g2, fd_eq]; exact ⟨trivial, trivial, trivial⟩
   ·exact h1.elim
  ·exact h1.elim
 ·exact h1.elim
theorem DK_dDel {t : TypeId} {x key : A} : DK (dDel tt t x key m) := fun K h => by
 unfold dDel at h
 obtain ⟨agg, sh, z, h1, h2⟩ := mapTy_ex h
 split at h1
 ·rename_i k b hk
  split at h1
  ·rename_i hb
   split at h1
   ·rename_i g1 g2
    refine ⟨⟨_, _, _⟩, h1, ?_⟩
    unfold dDel
    refine h2 _ ?_
    simp only [hk, hb, g1, g2]; exact ⟨trivial, trivial, trivial⟩
   ·exact h1.elim
  ·exact h1.elim
 ·exact h1.elim
theorem DK_dMkMap {t : TypeId} {aid : Nat} : DK (dMkMap tt t aid m) := fun K h => by
 unfold dMkMap at h
 obtain ⟨agg, sh, z, h1, h2⟩ := mapTy_ex h
 obtain ⟨r, h3, h4⟩ := DK.free (DK.val _ _ _) _ h1
 exact ⟨r, h3, by unfold dMkMap; exact h2 _ h4⟩
theorem DK_dEnt {t : TypeId} {x key : A} : DK (dEnt tt t x key m) := fun K h => by
 unfold dEnt at h
 obtain ⟨agg, sh, z, h1, h2⟩ := mapTy_ex h
 split at h1
 ·rename_i k b hk
  split at h1
  ·rename_i hb
   split at h1
   ·rename_i g1 g2
    refine ⟨⟨_, _, _⟩, h1, ?_⟩
    unfold dEnt
    refine h2 _ ?_
    simp only [hk, hb, g1, g2]; exact ⟨trivial, trivial, trivial⟩
   ·exact h1.elim
  ·exact h1.elim
 ·exact h1.elim
theorem DK_dESt {x st v : A} : DK (dESt x st v m) := fun K h => by
 unfold dESt at h ⊢
 split at h
 ·rename_i b b' k hown
  split at h
  ·rename_i g1 hb
   rw [fd_eq] at h
   refine ⟨⟨_, _, _⟩, h, ?_⟩
   simp only [hown, g1, hb, fd_eq]; exact ⟨trivial, trivial, trivial⟩
  ·exact h.elim
 ·exact h.elim
theorem bnd_ex {x : Option A} {d y : Nat} {F : Nat → Prop} (h : bnd x d y F) : ∃ n, F n ∧ ∀ F' : Nat → Prop, F' n → bnd x d y F' := by
 unfold bnd at h ⊢
 split at h
 ·exact ⟨_, h, fun _ h' => h'⟩
 ·split at h
  ·exact ⟨_, h.2, fun _ h' => ⟨h.1, h'⟩⟩
  ·exact h.elim
theorem DK_dOwnSl {t : TypeId} {b : Nat} {hi : Option A} {aid : Nat} : DK (dOwnSl tt t b hi aid m) := fun K h => by
 unfold dOwnSl at h ⊢
 split at h
 ·split at h
  ·rename_i hk hb
   obtain ⟨n, h1, h2⟩ := bnd_ex h
   obtain ⟨r, h3, h4⟩ := DK.free (DK.val _ _ _) _ h1
   refine ⟨r, h3, ?_⟩
   simp only [hk, hb]
   exact h2 _ h4
  ·exact h.elim
 ·exact h.elim
theorem DK_dSl {t : TypeId} {x : A} {lo hi : Option A} {aid : Nat} : DK (dSl P G tt o t x lo hi aid s m) := by
 unfold dSl
 split
 ·exact DK_dOwnSl
 ·exact DK_stepQ
theorem DK_dLen {t : TypeId} {x : A} : DK (dLen P G tt o t x s m) := by
 unfold dLen
 split
 ·intro K h
  unfold dLenM at h
  obtain ⟨agg, sh, z, ⟨n, h1, h2⟩, h3⟩ := mapTy_ex h
  refine ⟨⟨.int .i64 (n : Int), [], []⟩, h2, ?_⟩
  unfold dLenM
  exact h3 _ ⟨n, h1, rfl, rfl, rfl⟩
 ·exact DK_stepQ
theorem DK_stepV {aid : Nat} : DK (stepV P G tt o aid s m) := by
 unfold stepV
 split
 ·exact DK_dEnt
 ·exact DK_dESt
 ·exact DK_dSl
 ·exact DK.ofDM (DM_sLook _ _ _ _)
 ·exact DK_dUpd
 ·exact DK_dUpd
 ·exact DK_dMkMap
 ·split
  ·exact DK_dDel
  ·exact DK.fls
 ·unfold dAlloc; split
  ·exact DK.free (DK.val _ _ _)
  ·exact DK.fls
 ·unfold dBox; split
  ·exact DK.free (DK.val _ _ _)
  ·exact DK.fls
 ·unfold dBuildSl; split
  ·split
   ·intro K hk
    obtain ⟨cs, h1, h2⟩ := bldF_ex _ _ hk
    split at h1
    ·rename_i hown hlen
     split at h1
     ·rename_i hsl
      simp only [fnat_eq] at h1
      obtain ⟨r, h3, h4⟩ := DK.free (DK.val _ _ _) _ h1
      refine ⟨r, h3, h2 _ ?_⟩
      simp only [hown, hlen, hsl, fnat_eq]
      exact h4
     ·rename_i hsl
      simp only [fnat_eq] at h1
      obtain ⟨r, h3, h4⟩ := DK.val _ _ _ _ h1
      refine ⟨r, h3, h2 _ ?_⟩
      simp only [hown, hlen, hsl, fnat_eq]
      exact h4
    ·exact h1.elim
   ·exact DK.fls
  ·exact DK.fls
 ·unfold dMake; split
  ·split
   ·simp only [fnat_eq, fl_eq]; exact DK.and (DK.free (DK.val _ _ _))
   ·exact DK.fls
  ·exact DK.fls
 ·split
  ·split
   ·unfold dApp; split
    ·exact DK.fls
    ·split
     ·split
      ·split
       ·split
        ·simp only [fnat_eq]; exact DK.and (DK.free (DK.val _ _ _))
        ·exact DK.fls
       ·exact DK.fls
      ·exact DK.fls
     ·exact DK.fls
   ·exact DK.fls
  ·exact DK.fls
 ·exact DK.or DK_stepQ (DK_callN fun r mo => DK.freeL (DK.val _ _ _) _ _)
 ·split
  ·exact DK_dLen
  ·exact DK_stepQ
 ·unfold dLoad; split
  ·split
   ·unfold dTake; split
    ·exact DK.fls
    ·split
     ·exact DK.and (DK.free (DK.val _ _ _))
     ·exact DK.fls
   ·exact DK_loadG
   ·exact DK_stepQ
  ·exact DK_stepQ
 ·unfold dIdx; split
  ·split
   ·split
    ·split
     ·exact DK.and (DK.val _ _ _)
     ·exact DK.fls
    ·exact DK.fls
   ·exact DK_idxG
   ·exact DK_stepQ
  ·exact DK_stepQ
 ·unfold dStore; split
  ·split
   ·exact DK_stA fun _ => DK.val _ _ _
   ·exact DK.fls
  ·split
   ·split
    ·simp only [fl_eq]; exact DK.and (DK_stA fun _ => DK.val _ _ _)
    ·exact DK.fls
   ·unfold dPut; split
    ·split
     ·split
      ·exact DK.and (DK.val _ _ _)
      ·exact DK.fls
     ·exact DK.fls
    ·exact DK.fls
   ·exact DK_storeG
   ·exact DK.fls
  ·exact DK.fls
 ·exact DK_stepQ

/-- What an operation comes to. -/
def Out (P : Program) (G : GInv) (tt : TT) (o : Oper) (aid : Nat) (s : List A) (m : List Blk) (r : Oc) : Prop :=
 stepV P G tt o aid s m fun v u rd => v = r.v ∧ u = r.u ∧ rd = r.rd

theorem stepV_out {aid : Nat} {K : KV} (h : stepV P G tt o aid s m K) : ∃ r : Oc, Out P G tt o aid s m r ∧ K r.v r.u r.rd := by
 obtain ⟨r, h1, h2⟩ := DK_stepV K h
 exact ⟨r, h2, h1⟩
end
end Go.Proofs.YtnkbkfjgbejhfaaGreat.Am
namespace Go.Proofs.YtnkbkfjgbejhfaaGreat.Am
variable [Inhabited DRT]
open Go.RowKit (Below)
section
variable {c : Ctx} {s s2 : List A} {m m2 : List Blk} {a : Act} {w w' : World} {ids ids' : Ids} {P : Program} {im im' : Nat → Prop} {tt : TT} {G : GInv}
variable {next : Act → World → Prop} {Q : Exit → Act → World → Prop} {o : Oper} {K : A → Prop}

def Agree (m m2 : List Blk) (rs : List Nat) : Prop := ∀ b ∈ rs, m.getD b .dead = m2.getD b .dead

theorem rdLs_agree {g g2 : A → Option (List Nat)} {h h2 : A → A} : ∀ (xs : List A) (rs : List Nat), (∀ x ∈ xs, ∀ l, g x = some l → (∀ b ∈ l, b ∈ rs) → g2 x = some l ∧ h x = h2 x) →
  ∀ l, rdLs g xs = some l → (∀ b ∈ l, b ∈ rs) → rdLs g2 xs = some l ∧ xs.map h = xs.map h2
 | [], _, _, l, hl, _ => ⟨hl, rfl⟩
 | x :: xs, rs, hx, l, hl, hb => by
  unfold rdLs at hl ⊢
  split at hl
  ·rename_i l1 l2 e1 e2
   cases hl
   obtain ⟨a1, a2⟩ := hx x (by simp) l1 e1 (fun b h => hb b (by simp [h]))
   obtain ⟨b1, b2⟩ := rdLs_agree xs rs (fun y hy => hx y (by simp [hy])) l2 e2 (fun b h => hb b (by simp [h]))
   simp [a1, b1, a2, b2]
  ·cases hl
theorem rdA_agree {rs : List Nat} (hm : Agree m m2 rs) : ∀ (d : Nat) (x : A) (l : List Nat), rdA m d x = some l → (∀ b ∈ l, b ∈ rs) → rdA m2 d x = some l ∧ wk m d x = wk m2 d x
 | 0, _, _, h, _ => by cases h
 | d + 1, x, l, h, hb => by
  have ih := fun x l h hb => rdA_agree hm d x l h hb
  have lists : ∀ cs : List A, rdLs (rdA m d) cs = some l → rdLs (rdA m2 d) cs = some l ∧ cs.map (wk m d) = cs.map (wk m2 d) :=
   fun cs h => rdLs_agree cs rs (fun x _ l h hb => ih x l h hb) l h hb
  cases x
  case ref b off =>
   simp only [rdA, wk] at h ⊢
   split at h
   ·rename_i ty cs hbx
    split at h
    ·rename_i l' hl'
     cases h
     have e : m2.getD b .dead = .box ty cs := by rw [← hm b (hb b (by simp))]; exact hbx
     obtain ⟨g1, g2⟩ := rdLs_agree cs rs (fun x _ l h hb => ih x l h hb) l' hl' (fun b h => hb b (by simp [h]))
     rw [hbx, e]
     simp [g1, g2]
    ·cases h
   ·cases h
  case agg cs => obtain ⟨g1, g2⟩ := lists cs h; exact ⟨g1, by simp only [wk, g2]⟩
  case tup cs => obtain ⟨g1, g2⟩ := lists cs h; exact ⟨g1, by simp only [wk, g2]⟩
  case fn f cs => obtain ⟨g1, g2⟩ := lists cs h; exact ⟨g1, by simp only [wk, g2]⟩
  case oref => cases h
  case own b =>
   simp only [rdA, wk] at h ⊢
   split at h
   ·rename_i ty sz n row hbx
    cases h
    have e : m2.getD b .dead = .row ty sz n row := by rw [← hm b (hb b (by simp))]; exact hbx
    rw [hbx, e]
    exact ⟨rfl, rfl⟩
   ·cases h
  case omap b =>
   simp only [rdA, wk] at h ⊢
   split at h
   ·rename_i g n key val hbx
    cases h
    have e : m2.getD b .dead = .mapb g n key val := by rw [← hm b (hb b (by simp))]; exact hbx
    rw [hbx, e]
    exact ⟨rfl, rfl⟩
   ·cases h
  all_goals exact ⟨h, rfl⟩

theorem sLoad_agree {t : TypeId} {p : A} (hm : Agree m m2 (rd1 p)) : (sLoad tt t p m fun v _ => K v) = (sLoad tt t p m2 fun v _ => K v) := by
 unfold sLoad
 cases tt.lookup t with
 | none => rfl
 | some ti => cases p <;> simp only <;> first | rfl | (rw [hm _ (by simp [rd1])])
theorem sIndexAddr_agree {t : TypeId} {p i : A} (hm : Agree m m2 (rd1 p)) : (sIndexAddr tt t p i m fun v _ => K v) = (sIndexAddr tt t p i m2 fun v _ => K v) := by
 unfold sIndexAddr
 cases tt.lookup t with
 | none => rfl
 | some ti =>
  simp only
  split
  ·cases p <;> simp only <;> first | rfl | (rw [hm _ (by simp [rd1])])
  ·rfl
  ·rfl
theorem sLen_agree {t : TypeId} {p : A} (hm : Agree m m2 (rd1 p)) : sLen tt t p m K = sLen tt t p m2 K := by
 unfold sLen
 cases tt.lookup t with
 | none => rfl
 | some ti =>
  simp only
  split
  ·rfl
  ·rw [hm _ (by simp [rd1])]
  ·rfl
  ·rfl
  ·rfl
theorem sCall_agree {f : A} {as : List A} {rs : List Nat} (hr : callRd m f as = some rs) (hm : Agree m m2 rs) :
  (sCall P G f as m fun v _ => K v) = (sCall P G f as m2 fun v _ => K v) ∧ callRd m2 f as = some rs := by
 unfold callRd at hr ⊢
 cases f <;> simp only at hr <;> first | cases hr | skip
 rename_i g cap
 obtain ⟨g1, g2⟩ := rdLs_agree (h := wk m 5) (h2 := wk m2 5) (as ++ cap) rs (fun x _ l h hb => rdA_agree hm 5 x l h hb) rs hr (fun b h => h)
 refine ⟨?_, g1⟩
 unfold sCall
 simp only [fdl_eq]
 rw [g2]

theorem step_local (hq : quiet o.op = true) (he : ∀ x ∈ o.op.operands, ev s x = ev s2 x) {rd : List Nat} (hr : rdOp o.op s m = some rd) (hm : Agree m m2 rd) :
  (step P G tt o s m fun v _ => K v) = (step P G tt o s2 m2 fun v _ => K v) ∧ rdOp o.op s2 m2 = some rd := by
 unfold step
 have mapE : ∀ xs : Array Operand, (∀ x ∈ xs, ev s x = ev s2 x) → xs.toList.map (ev s) = xs.toList.map (ev s2) := by
  intro xs h; exact List.map_congr_left fun x hx => h x (by simpa using hx)
 cases hop : o.op <;> rw [hop] at hq he hr <;> first | (exfalso; simp [quiet] at hq; done) | (dsimp only) | skip
 case move x => simp only [Op.operands] at he; rw [he x (by simp)]; exact ⟨rfl, hr⟩
 case assign x => simp only [Op.operands] at he; rw [he x (by simp)]; exact ⟨rfl, hr⟩
 case pick x y z => simp only [Op.operands] at he; rw [he x (by simp), he y (by simp), he z (by simp)]; exact ⟨rfl, hr⟩
 case build t ps =>
  simp only [Op.operands] at he
  have : (ps.toList.map fun p => (p.1, ev s p.2)) = ps.toList.map fun p => (p.1, ev s2 p.2) := List.map_congr_left fun p hp => by rw [he p.2 (by simp; exact ⟨p.1, by simpa using hp⟩)]
  simp only [this]
  refine ⟨?_, hr⟩
  unfold sBuild; split <;> rfl
 case load t x =>
  simp only [Op.operands] at he
  have e := he x (by simp)
  simp only [rdOp, Option.some.injEq] at hr ⊢
  subst hr
  rw [← e]
  exact ⟨sLoad_agree hm, rfl⟩
 case nilCheck x => simp only [Op.operands] at he; rw [he x (by simp)]; exact ⟨rfl, hr⟩
 case binOp op t x y t' => simp only [Op.operands] at he; rw [he x (by simp), he y (by simp)]; exact ⟨rfl, hr⟩
 case unOp op t x => simp only [Op.operands] at he; rw [he x (by simp)]; exact ⟨rfl, hr⟩
 case convert t t' x => simp only [Op.operands] at he; rw [he x (by simp)]; exact ⟨rfl, hr⟩
 case makeFunc fn first cap =>
  simp only [Op.operands] at he
  have := mapE cap (fun x hx => he x (by simp [hx]))
  cases fn <;> simp only <;> first | exact ⟨trivial, hr⟩ | (rw [this]; exact ⟨rfl, hr⟩)
 case fieldAddr t x f =>
  simp only [Op.operands] at he; rw [he x (by simp)]
  refine ⟨?_, hr⟩
  unfold sFieldAddr; split <;> rfl
 case indexAddr t x i =>
  simp only [Op.operands] at he
  have e := he x (by simp)
  simp only [rdOp, Option.some.injEq] at hr ⊢
  subst hr
  rw [← e, ← he i (by simp)]
  exact ⟨sIndexAddr_agree hm, rfl⟩
 case index t x i => simp only [Op.operands] at he; rw [he x (by simp), he i (by simp)]; exact ⟨rfl, hr⟩
 case field t x f => simp only [Op.operands] at he; rw [he x (by simp)]; exact ⟨rfl, hr⟩
 case extract x i => simp only [Op.operands] at he; rw [he x (by simp)]; exact ⟨rfl, hr⟩
 case slice t x lo hi mx =>
  cases mx with
  | some _ => simp [quiet] at hq
  | none =>
   simp only [Op.operands] at he
   have e0 := he x (by simp)
   have e1 : evO s lo = evO s2 lo := by
    cases lo with
    | none => rfl
    | some y => simp only [evO]; rw [he y (by simp)]
   have e2 : evO s hi = evO s2 hi := by
    cases hi with
    | none => rfl
    | some y => simp only [evO]; rw [he y (by simp)]
   rw [e0, e1, e2]; exact ⟨rfl, hr⟩
 case call cl =>
  obtain ⟨callee, args, ts⟩ := cl
  simp only [Op.operands, Call.operands] at he
  cases callee with
  | invoke r n => simp [quiet] at hq
  | value f =>
   have e1 := he f (by simp)
   have e2 := mapE args (fun x hx => he x (by simp [hx]))
   simp only [rdOp] at hr ⊢
   rw [← e1, ← e2]
   exact sCall_agree hr hm
  | builtin b =>
   have e2 : ∀ x ∈ args, ev s x = ev s2 x := fun x hx => he x (by simp [hx])
   cases b <;> first | (exfalso; simp [quiet] at hq; done) | (dsimp only) | skip
   case len =>
    simp only [rdOp] at hr ⊢
    split at hr
    ·rename_i x hx
     have e := e2 x (by have : x ∈ args.toList := by rw [hx]; simp
                        simpa using this)
     cases hr
     rw [hx]
     cases hts : ts.toList with
     | nil => exact ⟨rfl, by rw [← e]⟩
     | cons t1 tl =>
      cases tl with
      | nil => dsimp only; rw [← e]; exact ⟨sLen_agree hm, rfl⟩
      | cons => exact ⟨rfl, by rw [← e]⟩
    ·cases hr
   case min =>
    cases hx : args.toList with
    | nil => exact ⟨rfl, hr⟩
    | cons x xs =>
     have h1 := mapE args e2
     rw [hx] at h1
     simp only [List.map_cons, List.cons.injEq] at h1
     dsimp only; rw [h1.1, h1.2]; exact ⟨rfl, hr⟩
   case max =>
    cases hx : args.toList with
    | nil => exact ⟨rfl, hr⟩
    | cons x xs =>
     have h1 := mapE args e2
     rw [hx] at h1
     simp only [List.map_cons, List.cons.injEq] at h1
     dsimp only; rw [h1.1, h1.2]; exact ⟨rfl, hr⟩
end
end Go.Proofs.YtnkbkfjgbejhfaaGreat.Am
namespace Go.Proofs.YtnkbkfjgbejhfaaGreat.Am
variable [Inhabited DRT]
open Go.RowKit (Below)
section
variable {c : Ctx} {s s2 : List A} {m m2 : List Blk} {a : Act} {w w' : World} {ids ids' : Ids} {P : Program} {im im' : Nat → Prop} {tt : TT} {G : GInv}
variable {next : Act → World → Prop} {Q : Exit → Act → World → Prop} {o : Oper}

theorem free_inv {aid : Nat} {X : Prop} (h : freeAt m aid X) : X ∧ m.getD aid .dead = .dead ∧ Nat.blt aid m.length = true := by
 unfold freeAt at h
 split at h
 ·rename_i h1 h2; exact ⟨h, h1, h2⟩
 ·exact h.elim
theorem free_intro {aid : Nat} {X : Prop} (h1 : m.getD aid .dead = .dead) (h2 : Nat.blt aid m.length = true) (h : X) : freeAt m aid X := by
 unfold freeAt; rw [h1, h2]; exact h
theorem free_at {aid : Nat} (h1 : m.getD aid .dead = .dead) (h2 : Nat.blt aid m.length = true) : m[aid]? = some .dead := by
 have hl : aid < m.length := Nat.le_of_ble_eq_true h2
 rw [List.getElem?_eq_getElem hl]
 simpa [List.getD_eq_getElem?_getD, hl] using h1
def LK (m m2 : List Blk) (F F2 : KV → Prop) : Prop := ∀ r : Oc, (F fun v u rd => v = r.v ∧ u = r.u ∧ rd = r.rd) → Agree m m2 r.rd → F2 fun v u rd => v = r.v ∧ u = r.u ∧ rd = r.rd
theorem LK.free1 {aid : Nat} (hlen : m.length = m2.length) (v : A) (u : List (Nat × Blk)) (rd : List Nat) (hin : aid ∈ rd) : LK m m2 (fun K => freeAt m aid (K v u rd)) (fun K => freeAt m2 aid (K v u rd)) := by
 intro r h hm
 obtain ⟨h1, h2, h3⟩ := free_inv h
 exact free_intro (by rw [← hm aid (by rw [← h1.2.2]; exact hin)]; exact h2) (by rw [← hlen]; exact h3) h1
theorem vrow_agree {esz : Nat} {y : A} (hm : Agree m m2 (rd1 y)) : vrow m esz y = vrow m2 esz y := by
 unfold vrow
 cases y <;> simp only <;> rw [hm _ (by simp [rd1])]
theorem stepQ_local (he : ∀ x ∈ o.op.operands, ev s x = ev s2 x) : LK m m2 (stepQ P G tt o s m) (stepQ P G tt o s2 m2) := by
 intro r h hm
 unfold stepQ at h ⊢
 split at h
 ·rename_i rd0 hq hr
  obtain ⟨v, h1, h2⟩ := (DM_step (P := P) (G := G) (tt := tt) (s := s) (m := m) hq _).1 h
  have hrd : _ = r.rd := h1.2.2
  rw [← hrd] at hm
  obtain ⟨g1, g2⟩ := step_local (P := P) (G := G) (tt := tt) (K := fun v => v = r.v ∧ [] = r.u ∧ rd0 = r.rd) hq he hr hm
  simp only [hq, g2]
  rw [← g1]; exact h
 ·exact h.elim
theorem dApp_local {t : TypeId} {x y : A} {aid : Nat} (hlen : m.length = m2.length) : LK m m2 (dApp tt t x y aid m) (dApp tt t x y aid m2) := by
 intro r h hm
 unfold dApp at h ⊢
 split at h
 ·exact h.elim
 ·rename_i ti hti
  split at h
  ·rename_i n2 row2 hk hv
   split at h
   ·rename_i b
    split at h
    ·rename_i ty sz n row hb
     split at h
     ·rename_i hb1 hb2
      simp only [fnat_eq] at h
      obtain ⟨hc, h⟩ := h
      obtain ⟨hX, h2, h3⟩ := free_inv h
      have hrd := hX.2.2
      have e1 : m2.getD b .dead = .row ty sz n row := by rw [← hm b (by rw [← hrd]; simp)]; exact hb
      have e2 : m2.getD aid .dead = .dead := by rw [← hm aid (by rw [← hrd]; simp)]; exact h2
      have e3 : vrow m2 ti.esz y = some (n2, row2) := by rw [← vrow_agree (fun b hb => hm b (by rw [← hrd]; simp [hb]))]; exact hv
      simp only [hk, e3, e1, hb1, hb2, fnat_eq]
      exact ⟨hc, free_intro e2 (by rw [← hlen]; exact h3) hX⟩
     ·exact h.elim
    ·exact h.elim
   ·exact h.elim
  ·exact h.elim
theorem dLoad_local {t : TypeId} {x : A} {aid : Nat} (he : ∀ x ∈ o.op.operands, ev s x = ev s2 x) (hx : ∀ b i off, x = .oref b i off → ∀ rd, rdOp o.op s m = some rd → b ∈ rd) (hlen : m.length = m2.length) :
  LK m m2 (dLoad P G tt o t x aid s m) (dLoad P G tt o t x aid s2 m2) := by
 intro r h hm
 unfold dLoad at h ⊢
 split at h
 ·rename_i b i off
  split at h
  ·rename_i ty ety sz n hole len row hb
   unfold dTake at h
   split at h
   ·exact h.elim
   ·rename_i ti hti
    split at h
    ·rename_i hk h1 h2
     obtain ⟨hi, h⟩ := h
     obtain ⟨hX, h3, h4⟩ := free_inv h
     have hrd := hX.2.2
     have e1 : m2.getD b .dead = .nest ty ety sz n none len row := by rw [← hm b (by rw [← hrd]; simp)]; exact hb
     have e2 : m2.getD aid .dead = .dead := by rw [← hm aid (by rw [← hrd]; simp)]; exact h3
     simp only [e1]
     unfold dTake
     simp only [hti, hk, h1, h2]
     exact ⟨hi, free_intro e2 (by rw [← hlen]; exact h4) hX⟩
    ·exact h.elim
  ·rename_i ty agg sh n hi cs ini has val hb
   have hbr : b ∈ r.rd := by
    unfold sLoadG at h
    split at h
    ·split at h
     ·rw [fd_eq] at h; rw [← h.2.2.2]; simp
     ·exact h.elim
    ·exact h.elim
   have e1 : m2.getD b .dead = .mgrid ty agg sh n hi cs ini has val := by rw [← hm b hbr]; exact hb
   simp only [e1]; exact h
  ·rename_i hne hne2
   have hq := h
   unfold stepQ at hq
   split at hq
   ·rename_i rd0 hqq hrr
    obtain ⟨v, h1, _⟩ := (DM_step (P := P) (G := G) (tt := tt) (s := s) (m := m) hqq _).1 hq
    have hb : b ∈ r.rd := by rw [← h1.2.2]; exact hx b i off rfl rd0 hrr
    have e1 := hm b hb
    have := stepQ_local (P := P) (G := G) (tt := tt) he r h hm
    rw [← e1]
    split
    ·rename_i hh; exact absurd hh (hne _ _ _ _ _ _ _)
    ·rename_i hh; exact absurd hh (hne2 _ _ _ _ _ _ _ _ _)
    ·exact this
   ·exact hq.elim
 ·exact stepQ_local he r h hm
theorem dIdx_local {t : TypeId} {x i : A} (he : ∀ x ∈ o.op.operands, ev s x = ev s2 x) (hx : ∀ b, x = .own b → ∀ rd, rdOp o.op s m = some rd → b ∈ rd) :
  LK m m2 (dIdx P G tt o t x i s m) (dIdx P G tt o t x i s2 m2) := by
 intro r h hm
 unfold dIdx at h ⊢
 split at h
 ·rename_i b
  split at h
  ·rename_i ty ety sz n hole len row hb
   split at h
   ·rename_i ti kk ix hti
    split at h
    ·rename_i hk h1
     have e1 : m2.getD b .dead = .nest ty ety sz n hole len row := by rw [← hm b (by rw [← h.2.2.2]; simp)]; exact hb
     simp only [e1]
     exact h
    ·exact h.elim
   ·exact h.elim
  ·rename_i ty agg sh n hi cs ini has val hb
   have hbr : b ∈ r.rd := by
    unfold sIdxG at h
    split at h
    ·split at h
     ·rw [← h.2.2.2]; simp
     ·exact h.elim
    ·exact h.elim
   have e1 : m2.getD b .dead = .mgrid ty agg sh n hi cs ini has val := by rw [← hm b hbr]; exact hb
   simp only [e1]; exact h
  ·rename_i hne hne2
   have hq := h
   unfold stepQ at hq
   split at hq
   ·rename_i rd0 hqq hrr
    obtain ⟨v, h1, _⟩ := (DM_step (P := P) (G := G) (tt := tt) (s := s) (m := m) hqq _).1 hq
    have hb : b ∈ r.rd := by rw [← h1.2.2]; exact hx b rfl rd0 hrr
    have e1 := hm b hb
    have := stepQ_local (P := P) (G := G) (tt := tt) he r h hm
    rw [← e1]
    split
    ·rename_i hh; exact absurd hh (hne _ _ _ _ _ _ _)
    ·rename_i hh; exact absurd hh (hne2 _ _ _ _ _ _ _ _ _)
    ·exact this
   ·exact hq.elim
 ·exact stepQ_local he r h hm
theorem dStore_local {t : TypeId} {x y : A} : LK m m2 (dStore tt t x y m) (dStore tt t x y m2) := by
 intro r h hm
 unfold dStore at h ⊢
 split at h
 ·rename_i ti b off ht
  split at h
  ·rename_i ty cs hb
   obtain ⟨vs, g1, g2, g3, g4⟩ := stA_inv h
   have : m2.getD b .dead = .box ty cs := by rw [← hm b (by rw [← g4.2.2]; simp)]; exact hb
   simp only [this]; exact h
  ·exact h.elim
 ·rename_i ti b i off ht
  split at h
  ·rename_i ty sz n row hb
   split at h
   ·rename_i hown
    obtain ⟨hlt, h⟩ := h
    have h' := h
    rw [fl_eq] at h'
    obtain ⟨vs, g1, g2, g3, g4⟩ := stA_inv h'
    have : m2.getD b .dead = .row ty sz n row := by rw [← hm b (by rw [← g4.2.2]; simp)]; exact hb
    simp only [this]; exact ⟨hlt, h⟩
   ·exact h.elim
  ·rename_i ty ety sz n hole len row hb
   unfold dPut at h
   split at h
   ·rename_i b' ti2 j hti
    split at h
    ·rename_i ety' sz' n' row' h1 hb' h2
     split at h
     ·rename_i h3 h4
      have e1 : m2.getD b .dead = .nest ty ety sz n (some j) len row := by rw [← hm b (by rw [← h.2.2.2]; simp)]; exact hb
      have e2 : m2.getD b' .dead = .row ety' sz' n' row' := by rw [← hm b' (by rw [← h.2.2.2]; simp)]; exact hb'
      simp only [e1]
      unfold dPut
      simp only [hti, h1, e2, h2, h3, h4]
      exact h
     ·exact h.elim
    ·exact h.elim
   ·exact h.elim
  ·rename_i ty agg sh n hi cs ini has val hb
   have hbr : b ∈ r.rd := by
    unfold sStoreG at h
    split at h
    ·split at h
     ·rw [← h.2.2.2]; simp
     ·exact h.elim
    ·exact h.elim
   have e1 : m2.getD b .dead = .mgrid ty agg sh n hi cs ini has val := by rw [← hm b hbr]; exact hb
   simp only [e1]; exact h
  ·exact h.elim
 ·exact h.elim
theorem mem_rangeN : ∀ (n k i : Nat), i ∈ rangeN n k ↔ k ≤ i ∧ i < k + n
 | 0, k, i => by simp [rangeN]
 | n + 1, k, i => by rw [rangeN, List.mem_cons, mem_rangeN n (k + 1) i]; omega
theorem freeL_inv : ∀ (xs : List Blk) (aid : Nat) {X : Prop}, freeL m aid xs X → X ∧ ∀ j, j < xs.length → m.getD (aid + j) .dead = .dead ∧ Nat.blt (aid + j) m.length = true
 | [], _, X, h => ⟨h, fun j hj => by simp at hj⟩
 | x :: xs, aid, X, h => by
  obtain ⟨h1, h2, h3⟩ := free_inv h
  obtain ⟨g1, g2⟩ := freeL_inv xs (aid + 1) h1
  refine ⟨g1, fun j hj => ?_⟩
  cases j with
  | zero => exact ⟨h2, h3⟩
  | succ j => have := g2 j (by simpa using hj); rwa [show aid + 1 + j = aid + (j + 1) by omega] at this
theorem freeL_intro : ∀ (xs : List Blk) (aid : Nat) {X : Prop}, X → (∀ j, j < xs.length → m.getD (aid + j) .dead = .dead ∧ Nat.blt (aid + j) m.length = true) → freeL m aid xs X
 | [], _, X, h, _ => h
 | x :: xs, aid, X, h, hj => by
  refine free_intro (hj 0 (by simp)).1 (hj 0 (by simp)).2 (freeL_intro xs (aid + 1) h fun j hh => ?_)
  have := hj (j + 1) (by simpa using hh)
  rwa [show aid + 1 + j = aid + (j + 1) by omega]
theorem dCallN_local {f : A} {as : List A} {aid : Nat} (hlen : m.length = m2.length) : LK m m2 (dCallN P G f as aid m) (dCallN P G f as aid m2) := by
 intro r h hm
 unfold dCallN at h ⊢
 unfold callN at h ⊢
 split at h
 ·rw [fdl_eq] at h
  simp only [fdl_eq]
  split at h
  ·rename_i hown
   obtain ⟨r0, mo, hc, hk⟩ := h
   refine ⟨r0, mo, hc, ?_⟩
   split at hk
   ·rename_i hng
    simp only [fd_eq, fbs_eq] at hk ⊢
    obtain ⟨hX, hd⟩ := freeL_inv _ _ hk
    refine freeL_intro _ _ hX fun j hj => ?_
    obtain ⟨d1, d2⟩ := hd j hj
    refine ⟨?_, by rw [← hlen]; exact d2⟩
    rw [← hm (aid + j) (by rw [← hX.2.2, mem_rangeN]; omega)]; exact d1
   ·exact hk.elim
  ·exact h.elim
 ·exact h.elim
theorem sLook_agree {t : TypeId} {x key : A} {ok : Bool} {K : A → Prop} (hm : Agree m m2 (rdM x)) : sLook tt t x key ok m K = sLook tt t x key ok m2 K := by
 unfold sLook
 cases x
 case omap b =>
  have e := hm b (by simp [rdM])
  dsimp only
  rw [e]
 all_goals rfl
theorem dLook_local {t : TypeId} {x key : A} {ok : Bool} : LK m m2 (dLook tt t x key ok m) (dLook tt t x key ok m2) := by
 intro r h hm
 unfold dLook at h ⊢
 obtain ⟨v, h1, _⟩ := (DM_sLook (tt := tt) (m := m) t x key ok _).1 h
 rw [← sLook_agree (by rw [h1.2.2]; exact hm)]; exact h
theorem dUpd_local {t : TypeId} {x key v : A} : LK m m2 (dUpd tt t x key v m) (dUpd tt t x key v m2) := by
 intro r h hm
 unfold dUpd at h ⊢
 obtain ⟨agg, sh, z, h1, h2⟩ := mapTy_ex h
 refine h2 _ ?_
 split at h1
 ·rename_i k b hk hown
  split at h1
  ·rename_i hb
   split at h1
   ·rename_i g1 g2
    rw [fd_eq] at h1
    have e : m2.getD b .dead = _ := (hm b (by rw [← h1.2.2]; simp)).symm.trans hb
    simp only [e, g1, g2, fd_eq]; exact h1
   ·exact h1.elim
  ·exact h1.elim
 ·exact h1.elim
theorem dDel_local {t : TypeId} {x key : A} : LK m m2 (dDel tt t x key m) (dDel tt t x key m2) := by
 intro r h hm
 unfold dDel at h ⊢
 obtain ⟨agg, sh, z, h1, h2⟩ := mapTy_ex h
 refine h2 _ ?_
 split at h1
 ·rename_i k b hk
  split at h1
  ·rename_i hb
   split at h1
   ·rename_i g1 g2
    have e : m2.getD b .dead = _ := (hm b (by rw [← h1.2.2]; simp)).symm.trans hb
    simp only [e, g1, g2]; exact h1
   ·exact h1.elim
  ·exact h1.elim
 ·exact h1.elim
theorem dMkMap_local {t : TypeId} {aid : Nat} (hlen : m.length = m2.length) : LK m m2 (dMkMap tt t aid m) (dMkMap tt t aid m2) := by
 intro r h hm
 unfold dMkMap at h ⊢
 obtain ⟨agg, sh, z, h1, h2⟩ := mapTy_ex h
 exact h2 _ (LK.free1 hlen _ _ _ (by simp) r h1 hm)
theorem dEnt_local {t : TypeId} {x key : A} : LK m m2 (dEnt tt t x key m) (dEnt tt t x key m2) := by
 intro r h hm
 unfold dEnt at h ⊢
 obtain ⟨agg, sh, z, h1, h2⟩ := mapTy_ex h
 refine h2 _ ?_
 split at h1
 ·rename_i k b hk
  split at h1
  ·rename_i hb
   split at h1
   ·rename_i g1 g2
    have e : m2.getD b .dead = _ := (hm b (by rw [← h1.2.2]; simp)).symm.trans hb
    simp only [e, g1, g2]; exact h1
   ·exact h1.elim
  ·exact h1.elim
 ·exact h1.elim
theorem dESt_local {x st v : A} : LK m m2 (dESt x st v m) (dESt x st v m2) := by
 intro r h hm
 unfold dESt at h ⊢
 split at h
 ·rename_i b b' k hown
  split at h
  ·rename_i g1 hb
   rw [fd_eq] at h
   have e : m2.getD b .dead = _ := (hm b (by rw [← h.2.2]; simp)).symm.trans hb
   simp only [g1, e, fd_eq]; exact h
  ·exact h.elim
 ·exact h.elim
theorem dOwnSl_local {t : TypeId} {b : Nat} {hi : Option A} {aid : Nat} (hlen : m.length = m2.length) : LK m m2 (dOwnSl tt t b hi aid m) (dOwnSl tt t b hi aid m2) := by
 intro r h hm
 unfold dOwnSl at h ⊢
 split at h
 ·split at h
  ·rename_i hk hb
   obtain ⟨n, h1, h2⟩ := bnd_ex h
   obtain ⟨hX, h3, h4⟩ := free_inv h1
   have e : m2.getD b .dead = _ := (hm b (by rw [← hX.2.2]; simp)).symm.trans hb
   have e2 : m2.getD aid .dead = .dead := by rw [← hm aid (by rw [← hX.2.2]; simp)]; exact h3
   simp only [hk, e]
   exact h2 _ (free_intro e2 (by rw [← hlen]; exact h4) hX)
  ·exact h.elim
 ·exact h.elim
/-- What an operation comes to, in another state that agrees on what it looks at. -/
theorem Out.local {aid : Nat} {r : Oc} (h : Out P G tt o aid s m r) (he : ∀ x ∈ o.op.operands, ev s x = ev s2 x) (hm : Agree m m2 r.rd) (hlen : m.length = m2.length) : Out P G tt o aid s2 m2 r := by
 unfold Out stepV at h ⊢
 split at h
 ·rename_i t x k ho
  have he := he; rw [ho] at he; simp only [Op.operands] at he
  rw [← he x (by simp), ← he k (by simp)]
  exact dEnt_local r h hm
 ·rename_i t x st v ho
  have he := he; rw [ho] at he; simp only [Op.operands] at he
  rw [← he x (by simp), ← he st (by simp), ← he v (by simp)]
  exact dESt_local r h hm
 ·rename_i t x lo hi ho
  have he2 := he; rw [ho] at he2; simp only [Op.operands] at he2
  have e0 := he2 x (by simp)
  have e1 : evO s lo = evO s2 lo := by
   cases lo with
   | none => rfl
   | some y => simp only [evO]; rw [he2 y (by simp)]
  have e2 : evO s hi = evO s2 hi := by
   cases hi with
   | none => rfl
   | some y => simp only [evO]; rw [he2 y (by simp)]
  rw [← e0, ← e1, ← e2]
  unfold dSl at h ⊢
  split at h
  ·exact dOwnSl_local hlen r h hm
  ·exact stepQ_local he r h hm
 ·rename_i t x k ok ho
  have he := he; rw [ho] at he; simp only [Op.operands] at he
  rw [← he x (by simp), ← he k (by simp)]
  exact dLook_local r h hm
 ·rename_i t x k v ho
  have he := he; rw [ho] at he; simp only [Op.operands] at he
  rw [← he x (by simp), ← he k (by simp), ← he v (by simp)]
  exact dUpd_local r h hm
 ·rename_i t x k v ho
  have he := he; rw [ho] at he; simp only [Op.operands] at he
  rw [← he x (by simp), ← he k (by simp), ← he v (by simp)]
  exact dUpd_local r h hm
 ·exact dMkMap_local hlen r h hm
 ·rename_i args ts ho
  have he := he; rw [ho] at he; simp only [Op.operands, Call.operands] at he
  split at h
  ·rename_i x k t t' hx ht
   have hX : ∀ z ∈ args.toList, ev s z = ev s2 z := fun z hz => he z (by simp at hz; simp [hz])
   rw [← hX x (by rw [hx]; simp), ← hX k (by rw [hx]; simp)]
   exact dDel_local r h hm
  ·exact h.elim
 ·unfold dAlloc at h ⊢; split at h
  ·exact LK.free1 hlen _ _ _ (by simp) r h hm
  ·exact h.elim
 ·rename_i t x ho
  have he := he; rw [ho] at he; simp only [Op.operands] at he
  rw [← he x (by simp)]
  unfold dBox at h ⊢; split at h
  ·exact LK.free1 hlen _ _ _ (by simp) r h hm
  ·exact h.elim
 ·rename_i t len ps ho
  have he := he; rw [ho] at he; simp only [Op.operands] at he
  have hps : (ps.toList.map fun p => (p.1, ev s p.2)) = ps.toList.map fun p => (p.1, ev s2 p.2) := List.map_congr_left fun p hp => by rw [he p.2 (by simp; exact ⟨p.1, by simpa using hp⟩)]
  rw [← hps]
  unfold dBuildSl at h ⊢; split at h
  ·split at h
   ·obtain ⟨cs, h1, h2⟩ := bldF_ex _ _ h
    refine h2 _ ?_
    split at h1
    ·split at h1
     ·simp only [fnat_eq] at h1 ⊢
      exact LK.free1 hlen _ _ _ (by simp) r h1 hm
     ·simp only [fnat_eq] at h1 ⊢
      exact h1
    ·exact h1.elim
   ·exact h.elim
  ·exact h.elim
 ·rename_i t l k ho
  have he := he; rw [ho] at he; simp only [Op.operands] at he
  rw [← he l (by simp), ← he k (by simp)]
  unfold dMake at h ⊢; split at h
  ·split at h
   ·simp only [fnat_eq, fl_eq] at h ⊢
    exact ⟨h.1, LK.free1 hlen _ _ _ (by simp) r h.2 hm⟩
   ·exact h.elim
  ·exact h.elim
 ·rename_i args ts ho
  have he := he; rw [ho] at he; simp only [Op.operands, Call.operands] at he
  split at h
  ·rename_i x y t t' hx ht
   have hX : ∀ z ∈ args.toList, ev s z = ev s2 z := fun z hz => he z (by simp at hz; simp [hz])
   rw [← hX x (by rw [hx]; simp), ← hX y (by rw [hx]; simp)]
   split at h
   ·exact dApp_local hlen r h hm
   ·exact h.elim
  ·exact h.elim
 ·rename_i f args ts ho
  have he2 := he; rw [ho] at he2; simp only [Op.operands, Call.operands] at he2
  rcases h with h | h
  ·exact .inl (stepQ_local he r h hm)
  ·right
   rw [← he2 f (by simp), ← show args.toList.map (ev s) = args.toList.map (ev s2) from List.map_congr_left fun x hx => he2 x (by simp at hx; simp [hx])]
   exact dCallN_local hlen r h hm
 ·rename_i args ts ho
  have he2 := he; rw [ho] at he2; simp only [Op.operands, Call.operands] at he2
  split at h
  ·rename_i x t hx ht
   have hX : ev s x = ev s2 x := he2 x (by simp; have : x ∈ args.toList := by rw [hx]; simp
                                           simpa using this)
   rw [← hX]
   unfold dLen at h ⊢
   split at h
   ·exact h
   ·exact stepQ_local he r h hm
  ·exact stepQ_local he r h hm
 ·rename_i t x ho
  have he2 := he; rw [ho] at he2; simp only [Op.operands] at he2
  rw [← he2 x (by simp)]
  refine dLoad_local he ?_ hlen r h hm
  intro b i off e rd hr
  rw [ho] at hr; simp only [rdOp, Option.some.injEq] at hr
  subst hr; rw [e]; simp [rd1]
 ·rename_i t x i ho
  have he2 := he; rw [ho] at he2; simp only [Op.operands] at he2
  rw [← he2 x (by simp), ← he2 i (by simp)]
  refine dIdx_local he ?_ r h hm
  intro b e rd hr
  rw [ho] at hr; simp only [rdOp, Option.some.injEq] at hr
  subst hr; rw [e]; simp [rd1]
 ·rename_i t x y ho
  have he2 := he; rw [ho] at he2; simp only [Op.operands] at he2
  rw [← he2 x (by simp), ← he2 y (by simp)]
  exact dStore_local r h hm
 ·exact stepQ_local he r h hm

/-- A new block, at a place that was kept for it. -/
theorem Sim.allocAtO (hs : Sim c s m a w ids) (b : Nat) (hb : m[b]? = some .dead) (x : Blk) (ob : Obj) (kk n sz : Nat)
  (hx : ∀ ids' im' w', (∀ b, imOf c ids w b → im' b) → (∀ b, imOf c ids w b → w'.heap[b]? = w.heap[b]?) → (∀ (b : Nat) p, ids[b]? = some p → p ≠ .dead → ids'[b]? = some p) →
   w'.heap[w.heap.size]? = (w.alloc ob).heap[w.heap.size]? → BRel ids' im' w' x (.lv (mkId w.heap.size kk n sz))) :
  Sim c s (m.set b x) a (w.alloc ob) (ids.set b (.lv (mkId w.heap.size kk n sz))) := by
 have hbl : b < m.length := by
  rcases Nat.lt_or_ge b m.length with h' | h'
  ·exact h'
  ·rw [List.getElem?_eq_none h'] at hb; cases hb
 have hbi : b < ids.length := by rw [hs.mlen]; exact hbl
 have hmb : m[b] = .dead := by rw [List.getElem?_eq_getElem hbl] at hb; exact Option.some.inj hb
 have hdead : ids[b] = .dead := by have := hs.blks b hbl hbi; rw [hmb] at this; exact this
 have hbw := below_alloc w ob
 have hsz : (w.alloc ob).heap.size = w.heap.size + 1 := by
  show (w.heap.push _).size = _
  simp
 have hmem : ∀ p, IdE.lv p ∈ ids.set b (.lv (mkId w.heap.size kk n sz)) → IdE.lv p ∈ ids ∨ p = (mkId w.heap.size kk n sz) := by
  intro p hp
  rcases List.mem_or_eq_of_mem_set hp with h | h
  ·exact .inl h
  ·cases h; exact .inr rfl
 have hi : ∀ b', imOf c ids w b' → imOf c (ids.set b (.lv (mkId w.heap.size kk n sz))) (w.alloc ob) b' := by
  intro b' h
  have hlt := imOf_lt hs h
  rcases h with h | ⟨h1, h2, h3⟩
  ·exact .inl h
  ·refine .inr ⟨h1, by omega, fun p hp => ?_⟩
   rcases hmem p hp with h | rfl
   ·exact h3 p h
   ·intro hx; have := mkId_has hx; omega
 have hh : ∀ b', imOf c ids w b' → (w.alloc ob).heap[b']? = w.heap[b']? := fun b' h => hbw.block b' (imOf_lt hs h)
 have hd : ∀ (b' : Nat) p, ids[b']? = some p → p ≠ .dead → (ids.set b (.lv (mkId w.heap.size kk n sz)))[b']? = some p := by
  intro b' p h hp
  rw [List.getElem?_set]
  split
  ·rename_i e; subst e
   rw [List.getElem?_eq_getElem hbi, hdead] at h
   exact absurd (Option.some.inj h).symm hp
  ·exact h
 refine ⟨hs.defers, hs.len, fun i h h' => (hs.slots i h h').mono hi hh hd, by simp [hs.mlen], ?_, ?_, ?_, hs.frame.trans (hbw.mono hs.frame.size), hs.im0lt, fun vs' h => ?_⟩
 ·intro i h h'
  simp only [List.length_set] at h h'
  rw [List.getElem_set, List.getElem_set]
  split
  ·exact hx _ _ _ hi hh hd rfl
  ·refine (hs.blks i h h').mono hi hh hd ?_
   intro q hq k hk
   exact hbw.block _ (hs.freshX q (by rw [← hq]; exact List.getElem_mem _) k hk).2
 ·intro i j p q x h1 h2 h3 h3'
  rw [List.getElem?_set] at h1 h2
  split at h1
  ·rename_i e1
   split at h2
   ·rename_i e2; omega
   ·cases h1
    have := (hs.freshX q (List.mem_of_getElem? h2) x h3').2
    have := mkId_has h3; omega
  ·split at h2
   ·cases h2
    have := (hs.freshX p (List.mem_of_getElem? h1) x h3).2
    have := mkId_has h3'; omega
   ·exact hs.distinctX i j p q x h1 h2 h3 h3'
 ·intro p hp x hx
  rcases hmem p hp with h | rfl
  ·have := hs.freshX p h x hx; exact ⟨this.1, by omega⟩
  ·rw [mkId_has hx]; exact ⟨.inl hs.frame.size, by simp [hsz]⟩
 ·rcases List.mem_or_eq_of_mem_set h with h | h
  ·exact hs.gho vs' h
  ·cases h
theorem Sim.allocAt (hs : Sim c s m a w ids) (b : Nat) (hb : m[b]? = some .dead) (x : Blk) (vs : Array Value) (ty : TypeId) (n sz : Nat)
  (hx : ∀ ids' im' w', (∀ b, imOf c ids w b → im' b) → (∀ b, imOf c ids w b → w'.heap[b]? = w.heap[b]?) → (∀ (b : Nat) p, ids[b]? = some p → p ≠ .dead → ids'[b]? = some p) →
   w'.heap[w.heap.size]? = some (.cells vs ty (0, 0)) → BRel ids' im' w' x (.lv (mkId w.heap.size vs.size n sz))) :
  Sim c s (m.set b x) a (w.alloc (.cells vs ty)) (ids.set b (.lv (mkId w.heap.size vs.size n sz))) :=
 hs.allocAtO b hb x (.cells vs ty) vs.size n sz fun ids' im' w' h1 h2 h3 h4 => hx ids' im' w' h1 h2 h3 (h4.trans (by
  show (w.heap.push _)[w.heap.size]? = _
  simp))

def isAlloc : Op → Bool
 | .alloc _ => true
 | .box _ _ => true
 | .buildSlice _ _ _ => true
 | .makeSlice _ _ _ => true
 | .call { callee := .builtin .append, .. } => true
 | .makeMap _ none => true
 | _ => false
theorem updB_zip (m : List Blk) : ∀ (xs : List Blk) (k : Nat), updB m (zipU k xs) = setAt m k xs
 | [], _ => rfl
 | x :: xs, k => by rw [zipU, updB, updB_zip m xs (k + 1)]; rfl

/-- A new block at a kept place. -/
theorem wp_newAt (hs : Sim c s m a w ids) {aid : Nat} (hdead : m[aid]? = some .dead) (x : Blk) (vs : Array Value) (ty : TypeId) (n sz : Nat) {r : A} {v : Value}
  (hrun : (execOp a.eval o).run P w = .ok (.value v) (w.alloc (.cells vs ty)))
  (hx : ∀ ids' im' w', (∀ b, imOf c ids w b → im' b) → (∀ b, imOf c ids w b → w'.heap[b]? = w.heap[b]?) → (∀ (b : Nat) p, ids[b]? = some p → p ≠ .dead → ids'[b]? = some p) →
   w'.heap[w.heap.size]? = some (.cells vs ty (0, 0)) → BRel ids' im' w' x (.lv (mkId w.heap.size vs.size n sz)))
  (hr : ∀ ids' im' w', ids'[aid]? = some (.lv (mkId w.heap.size vs.size n sz)) → Rel ids' im' w' r v)
  (hn : ∀ a' w' ids', Sim c (putD s o.dst r) (m.set aid x) a' w' ids' → next a' w') : o.wp P a w next Q := by
 have hs' := hs.allocAt aid hdead x vs ty n sz hx
 refine wp_of_run hrun (hn _ _ _ (hs'.putD o.dst (hr _ _ _ ?_)))
 have hl := (List.getElem?_eq_some_iff.1 hdead).1
 have : aid < ids.length := by rw [hs.mlen]; exact hl
 rw [List.getElem?_set_self this]

theorem dApp_sound (htt : TTok P tt) (hs : Sim c s m a w ids) {t : TypeId} {X Y : Operand} (ho : o.op = .call { callee := .builtin .append, args := #[X, Y], argTypes := #[t, t] }) {aid : Nat} {r : Oc}
  (h : dApp tt t (ev s X) (ev s Y) aid m fun v u rd => v = r.v ∧ u = r.u ∧ rd = r.rd)
  (hn : ∀ a' w' ids', Sim c (putD s o.dst r.v) (updB m r.u) a' w' ids' → next a' w') : o.wp P a w next Q := by
 have hx := hs.ev X
 have hy := hs.ev Y
 have e : (execOp a.eval o) = (do pure (.value (← Builtin.append_ #[t, t] o.type #[a.eval X, a.eval Y]))) := by
  obtain ⟨dst, op, ty, pos, after, guard⟩ := o
  simp only at ho; subst ho
  simp [execOp, resolve, invoke, builtin]
 unfold dApp at h
 split at h
 ·exact h.elim
 ·rename_i ti hti
  obtain ⟨i0, d, z0, _, hd, _, _, _, _, _, _, _, _, _, hk3, _⟩ := htt.facts hti
  split at h
  ·rename_i n2 row2 hk hv
   obtain ⟨ie, ze, hd', hie, hsz, hby, hz, hzs, hne⟩ := hk3 hk
   subst hd'
   obtain ⟨news, hR2, hyv⟩ := vrow_sound hs hv hy
   have hyv' : (a.eval Y = .slice none 0 0 ∧ n2 = 0 ∧ news = []) ∨ ∃ ad cp, a.eval Y = .slice (some ad) n2 cp ∧ news.length = n2 * ie.size ∧ (∀ j u, news[j]? = some u → w.cell? (ad.add j) = some u) := by
    rcases hyv with h | ⟨ad, cp, h1, h2⟩
    ·exact .inl h
    ·exact .inr ⟨ad, cp, h1, by rw [hsz]; exact hR2.1, h2⟩
   have hzs' : ze.cells.size = ie.size := by rw [hzs, hsz]
   split at h
   ·rename_i b hxv
    rw [hxv] at hx
    split at h
    ·rename_i ty sz n row hb
     split at h
     ·rename_i hb1 hb2
      have hb1 := Nat.eq_of_beq_eq_true hb1
      have hb2 := Nat.eq_of_beq_eq_true hb2
      subst hb1; subst hb2
      simp only [fnat_eq] at h
      obtain ⟨⟨hc1, hc2⟩, h⟩ := h
      obtain ⟨⟨r1, r2, _⟩, hdd, hdl⟩ := free_inv h
      have hdead := free_at hdd hdl
      obtain ⟨hlt, hm⟩ := getD_row hb
      have hbi : b < ids.length := by rw [hs.mlen]; exact hlt
      have hal : aid < m.length := (List.getElem?_eq_some_iff.1 hdead).1
      have hbm : m[b]? ≠ some .dead := by rw [List.getElem?_eq_getElem hlt, hm]; simp
      have hab : aid ≠ b := fun e => by subst e; exact hbm hdead
      have hB := hs.blks b hlt hbi
      rw [hm] at hB
      have hset : updB m [(aid, Blk.row ti.ety ti.esz (n + n2) (rowCat n row row2)), (b, .gone)] = (m.set b .gone).set aid (.row ti.ety ti.esz (n + n2) (rowCat n row row2)) := rfl
      have hxs : ∃ xs, RowsV (imOf c ids w) w n ti.esz row xs ∧ ((a.eval X = .slice none 0 0 ∧ n = 0 ∧ xs = []) ∨ ∃ g cap cur, a.eval X = .slice (some ⟨g, 0, none⟩) n cap ∧ w.heap[g]? = some (.cells cur ti.ety (0, 0)) ∧ n ≤ cap ∧ cap ≤ maxLen ∧ cur.size = cap * ie.size ∧ cur.toList.take (n * ie.size) = xs) ∧
        ((a.eval X).ownBlock = none ∨ ∃ p, ids[b]? = some (.lv p) ∧ (a.eval X).ownBlock = some p.blk) := by
       rcases hs.own_at hx (by rw [hb]; simp) with ⟨h1, h2⟩ | ⟨p, cap, h1, h2, h3, h4⟩
       ·have : ids[b] = .virt := by rw [List.getElem?_eq_getElem hbi] at h1; exact Option.some.inj h1
        rw [this] at hB
        have hB : n = 0 := hB
        subst hB
        exact ⟨[], RowsV.nil _ _ _ _, .inl ⟨h2, rfl, rfl⟩, .inl (by rw [h2]; rfl)⟩
       ·have : ids[b] = .lv p := by rw [List.getElem?_eq_getElem hbi] at h1; exact Option.some.inj h1
        rw [this] at hB
        obtain ⟨cur, e1, e2, g1, g2, g3, hR⟩ := hB.rowsV
        subst e2
        exact ⟨_, hR, .inr ⟨p.blk, cap, cur, h4, g1, h2.1, h2.2, by rw [g2, ← h3, e1, hsz], by rw [hsz]⟩, .inr ⟨p, h1, by rw [h4]; rfl⟩⟩
      obtain ⟨xs, hR1, hxv', hown⟩ := hxs
      obtain ⟨v', w', hrun, o1, o2, o3, o4, o5, odr, o6⟩ := append_out (P := P) (w := w) t o.type ti.ety ie ze hd hie hz hzs' (a.eval X) n xs hxv' (a.eval Y) n2 news hyv' hR2.2.1 hc1 (by rw [hby]; exact hc2)
      have hRR := hR1.cat hR2
      have hblk : ∀ k, k < w.heap.size → (∀ p, ids[b]? = some (.lv p) → ¬ p.has k) → w'.heap[k]? = w.heap[k]? := by
       intro k hk hp
       refine o5 k hk (fun e => ?_)
       rcases hown with h | ⟨p, h1, h2⟩
       ·rw [h] at e; cases e
       ·rw [h2] at e; exact hp p h1 (.inl (Option.some.inj e).symm)
      rcases o6 with ⟨rfl, hnil⟩ | ⟨g, cap, cur, rfl, q1, q2, q3, q4, q5, q6, q7⟩
      ·have hs' := hs.regrow (w' := w') b aid hlt hbm hdead .virt (.row ti.ety ti.esz (n + n2) (rowCat n row row2)) o1 o2 o3 o4 hblk (fun _ h => by cases h) (fun p' h => by cases h) (fun _ => hnil) odr
       refine wp_of_run (v := .slice none 0 0) (w' := w') (by rw [e]; simp [hrun]) (hn _ _ _ (by
        rw [← r1, ← r2, hset]
        refine hs'.putD o.dst (.own0 aid ?_)
        rw [List.getElem?_set_self (by simp; rw [hs.mlen]; exact hal)]))
      ·rw [hsz] at q4 q5
       have hs' := hs.regrow (w' := w') b aid hlt hbm hdead (.lv (mkId g cur.size (n + n2) ti.esz)) (.row ti.ety ti.esz (n + n2) (rowCat n row row2)) o1 o2 o3 o4 hblk (fun _ h => by cases h)
        (fun p' h x hx => by
         cases h
         have := mkId_has hx
         subst this
         refine ⟨q6, ?_⟩
         rcases q7 with h | h
         ·exact .inl h
         ·rcases hown with h' | ⟨p, h1, h2⟩
          ·rw [h'] at h; cases h
          ·rw [h2] at h; exact .inr ⟨p, h1, .inl (Option.some.inj h).symm⟩)
        (fun hm => BRel.ofRowsV q1 q4 q2 q5 (hRR.mono hm)) odr
       refine wp_of_run (v := .slice (some ⟨g, 0, none⟩) (n + n2) cap) (w' := w') (by rw [e]; simp [hrun]) (hn _ _ _ (by
        rw [← r1, ← r2, hset]
        refine hs'.putD o.dst (.own aid cap (mkId g cur.size (n + n2) ti.esz) ?_ ⟨q2, q3⟩ q4.symm)
        rw [List.getElem?_set_self (by simp; rw [hs.mlen]; exact hal)]))
     ·exact h.elim
    ·exact h.elim
   ·exact h.elim
  ·exact h.elim

theorem dTake_sound (htt : TTok P tt) (hs : Sim c s m a w ids) {t : TypeId} {X : Operand} (ho : o.op = .load t X) {b i off : Nat} (hX : ev s X = .oref b i off) {ty ety : TypeId} {sz n : Nat} {hole : Option Nat} {len : Nat → Nat} {row : Nat → Nat → List A}
  (hb : m.getD b .dead = .nest ty ety sz n hole len row) {aid : Nat} {r : Oc} (h : dTake tt t b i off ty ety sz n hole len row aid m fun v u rd => v = r.v ∧ u = r.u ∧ rd = r.rd)
  (hn : ∀ a' w' ids', Sim c (putD s o.dst r.v) (updB m r.u) a' w' ids' → next a' w') : o.wp P a w next Q := by
 unfold dTake at h
 split at h
 ·exact h.elim
 ·rename_i ti hti
  split at h
  ·rename_i hk he1 he2
   obtain ⟨hin, h⟩ := h
   obtain ⟨⟨r1, r2, _⟩, hdd, hdl⟩ := free_inv h
   have hdead := free_at hdd hdl
   obtain ⟨i0, d, z, hi, hd, _, _, _, _, _, hag, _, _, hk2, hk3, _⟩ := htt.facts hti
   obtain ⟨ie, ze, hde, hie, hesz, _⟩ := hk3 hk
   subst hde
   obtain ⟨p, vs, ids', v, q1, q2, q3, q4, q5, q6⟩ := hs.takeAt hdead hb hin
   have hx := hs.ev X
   rw [hX] at hx
   obtain ⟨p', g1, g2⟩ := hs.oref_at hx (by rw [hb]; simp)
   rw [q1] at g1; cases g1
   have hc : w.cell? ⟨p.blk, i * p.sz + 0, none⟩ = some v := by
    rw [q4, cell_of_row w p.blk _ vs ty (0, 0) q2]; simpa using q3
   have hrun := run_loadVar_one (P := P) (w := w) hd (by rfl) p.blk (i * p.sz + 0) v hc
   refine wp_of_run (v := v) (w' := w) ?_ (hn _ _ ids' (by rw [← r1, ← r2]; exact q5.putD o.dst q6))
   have e1 : execOp a.eval o = (do let z ← loadVar t ⟨p.blk, i * p.sz + 0, none⟩; pure (.value z)) := by
    unfold execOp; rw [ho]; simp only [g2]; rfl
   rw [e1]; simp at hrun; simp [hrun]
  ·exact h.elim

theorem dPut_sound (htt : TTok P tt) (hs : Sim c s m a w ids) {t : TypeId} {X Y : Operand} (ho : o.op = .store t X Y) {b i off : Nat} (hX : ev s X = .oref b i off) {ty ety : TypeId} {sz n : Nat} {hole : Option Nat} {len : Nat → Nat} {row : Nat → Nat → List A}
  (hb : m.getD b .dead = .nest ty ety sz n hole len row) {r : Oc} (h : dPut tt t b i off (ev s Y) ty ety sz n hole len row m fun v u rd => v = r.v ∧ u = r.u ∧ rd = r.rd)
  (hn : ∀ a' w' ids', Sim c (putD s o.dst r.v) (updB m r.u) a' w' ids' → next a' w') : o.wp P a w next Q := by
 unfold dPut at h
 split at h
 ·rename_i b' ti j hY hti
  split at h
  ·rename_i ety' sz' n' row' hsz1 hb' hbb
   split at h
   ·rename_i he1 he2
    have hsz1 : ti.size = 1 := Nat.eq_of_beq_eq_true hsz1
    have he1 := Nat.eq_of_beq_eq_true he1
    have he2 := Nat.eq_of_beq_eq_true he2
    subst he1; subst he2
    obtain ⟨⟨hij, hin⟩, r1, r2, _⟩ := h
    subst hij
    have hne : b ≠ b' := fun e => by subst e; rw [Nat.beq_refl] at hbb; cases hbb
    have hx := hs.ev X
    have hy := hs.ev Y
    rw [hX] at hx; rw [hY] at hy
    obtain ⟨i0, d, z, hi, hd, _, hsz0, _⟩ := htt.facts hti
    obtain ⟨p, vs, ids', q1, q2, q3, q4, q5⟩ := hs.putStale hb hb' hne hin hy
    obtain ⟨p', g1, g2⟩ := hs.oref_at hx (by rw [hb]; simp)
    rw [q1] at g1; cases g1
    obtain ⟨o1, o2⟩ := one_rel (by rfl) hy
    have hst := run_storeVar (P := P) (w := w) hi p.blk (i * p.sz + 0) ty vs (a.eval Y) [a.eval Y] o2 (by rw [hsz0, hsz1]; rfl) (by intro u hu; rw [List.mem_singleton.1 hu]; exact o1) q2 (by rw [q4]; simp; omega)
    rw [q4] at hst
    simp only [Nat.mul_one, Nat.add_zero] at hst
    rw [set_take vs i _ q3] at hst
    refine wp_of_skip (w' := w.setRow p.blk (vs.setIfInBounds i (a.eval Y))) ?_ (hn _ _ ids' (by rw [← r1, ← r2]; exact q5.junk_put o.dst _))
    have e1 : execOp a.eval o = (do storeVar t ⟨p.blk, i * p.sz + 0, none⟩ (a.eval Y); pure .skip) := by
     unfold execOp; rw [ho]; simp only [g2]; rfl
    rw [e1, q4]; simp [hst]
   ·exact h.elim
  ·exact h.elim
 ·exact h.elim

theorem stepQ_sound (htt : TTok P tt) (hG : G.ok c) (hs : Sim c s m a w ids) {r : Oc} (h : stepQ P G tt o s m fun v u rd => v = r.v ∧ u = r.u ∧ rd = r.rd)
  (hn : ∀ a' w' ids', Sim c (putD s o.dst r.v) (updB m r.u) a' w' ids' → next a' w') : o.wp P a w next Q := by
 unfold stepQ at h
 split at h
 ·rename_i rd0 hq hr
  refine step_sound (K := fun v m' => (v = r.v ∧ [] = r.u ∧ rd0 = r.rd) ∧ m' = m) htt hG hs ?_ ?_
  ·rw [step_m hq]; simpa using h
  ·rintro v m' a' w' ids' ⟨⟨rfl, e2, _⟩, rfl⟩ hs'
   refine hn a' w' ids' ?_
   rw [← e2]; exact hs'
 ·exact h.elim

theorem dEnt_sound (htt : TTok P tt) (hs : Sim c s m a w ids) {t : TypeId} {X Y : Operand} (ho : o.op = .mapEntry t X Y) {r : Oc} (h : dEnt tt t (ev s X) (ev s Y) m fun v u rd => v = r.v ∧ u = r.u ∧ rd = r.rd)
  (hn : ∀ a' w' ids', Sim c (putD s o.dst r.v) (updB m r.u) a' w' ids' → next a' w') : o.wp P a w next Q := by
 unfold dEnt at h
 obtain ⟨agg, sh, z, h1, h2⟩ := mapTy_ex h
 refine sEnt_sound (K := fun v' m' => v' = r.v ∧ m' = updB m r.u) htt hs ho ?_ ?_
 ·unfold sEnt
  refine h2 _ ?_
  split at h1
  ·rename_i k b hk hx
   split at h1
   ·rename_i hb
    split at h1
    ·rename_i g1 g2
     simp only [hk, hx, hb, g1, g2, setB_eq]
     exact ⟨h1.1, by rw [← h1.2.1]; rfl⟩
    ·exact h1.elim
   ·exact h1.elim
  ·exact h1.elim
 ·rintro v' m' a' w' ids' ⟨rfl, rfl⟩ hs'
  exact hn a' w' ids' hs'
theorem dESt_sound (hs : Sim c s m a w ids) {t : TypeId} {X Y Z : Operand} (ho : o.op = .entryStore t X Y Z) {r : Oc} (h : dESt (ev s X) (ev s Y) (ev s Z) m fun v u rd => v = r.v ∧ u = r.u ∧ rd = r.rd)
  (hn : ∀ a' w' ids', Sim c (putD s o.dst r.v) (updB m r.u) a' w' ids' → next a' w') : o.wp P a w next Q := by
 unfold dESt at h
 refine sESt_sound (K := fun v' m' => v' = r.v ∧ m' = updB m r.u) hs ho ?_ ?_
 ·unfold sESt
  split at h
  ·rename_i b b' k hx hy hown
   split at h
   ·rename_i g1 hb
    rw [fd_eq] at h
    simp only [hx, hy, hown, g1, hb, fd_eq, setB_eq]
    exact ⟨h.1, by rw [← h.2.1]; rfl⟩
   ·exact h.elim
  ·exact h.elim
 ·rintro v' m' a' w' ids' ⟨rfl, rfl⟩ hs'
  exact hn a' w' ids' hs'
theorem dOwnSl_sound (htt : TTok P tt) (hs : Sim c s m a w ids) {t : TypeId} {X : Operand} {hi : Option Operand} {b : Nat} (ho : o.op = .slice t X none hi none) (hX : ev s X = .own b) {aid : Nat} {r : Oc}
  (h : dOwnSl tt t b (evO s hi) aid m fun v u rd => v = r.v ∧ u = r.u ∧ rd = r.rd)
  (hn : ∀ a' w' ids', Sim c (putD s o.dst r.v) (updB m r.u) a' w' ids' → next a' w') : o.wp P a w next Q := by
 have hx := hs.ev X
 rw [hX] at hx
 have e : execOp a.eval o = (do let z ← Instr.sliceAt t (a.eval X) ((none : Option Operand).map a.eval) (hi.map a.eval) none; pure (.value z)) := by unfold execOp; rw [ho]; rfl
 unfold dOwnSl at h
 split at h
 ·rename_i ti hti
  obtain ⟨i0, d, z0, _, hd, _, _, _, _, _, _, _, _, _, hk3, _⟩ := htt.facts hti
  split at h
  ·rename_i ty sz n row hk hb
   obtain ⟨ie, ze, hd', hie, hsz, hby, hz, hzs, hne⟩ := hk3 hk
   subst hd'
   have hun : P.underlying t = some (.slice (P.elem t)) := by
    have : P.elem t = ti.ety := by simp [Program.elem, hd]
    rw [this]; exact hd
   have hel : P.elem t = ti.ety := by simp [Program.elem, hd]
   obtain ⟨hlt, hm⟩ := getD_row hb
   have hbi : b < ids.length := by rw [hs.mlen]; exact hlt
   have hbm : m[b]? ≠ some .dead := by rw [List.getElem?_eq_getElem hlt, hm]; simp
   have hB := hs.blks b hlt hbi
   rw [hm] at hB
   rcases hs.own_at hx (by rw [hb]; simp) with ⟨h1, h2⟩ | ⟨p, cap, h1, h2, h3, h4⟩
   ·have : ids[b] = .virt := by rw [List.getElem?_eq_getElem hbi] at h1; exact Option.some.inj h1
    rw [this] at hB
    have hB : n = 0 := hB
    subst hB
    obtain ⟨hb', h, b1, b2, b3⟩ := bnd_run hs h (Nat.le_refl _)
    have h0 : hb' = 0 := by
     cases hi with
     | none => exact b1 rfl
     | some L => have := b2 rfl; omega
    subst h0
    obtain ⟨⟨r1, r2, _⟩, hdd, hdl⟩ := free_inv h
    have hdead := free_at hdd hdl
    have hal : aid < m.length := (List.getElem?_eq_some_iff.1 hdead).1
    have hs' := hs.regrow (w' := w) b aid hlt hbm hdead .virt (.row ty sz 0 row) rfl rfl rfl (Nat.le_refl _) (fun _ _ _ => rfl) (fun _ h => by cases h) (fun p' h => by cases h) (fun _ => rfl)
    refine wp_of_run (v := .slice none 0 0) (w' := w) ?_ (hn _ _ _ (by
     rw [← r1, ← r2]
     refine hs'.putD o.dst (.own0 aid ?_)
     rw [List.getElem?_set_self (by simp; rw [hs.mlen]; exact hal)]))
    rw [e, h2, Sem.run_bind, run_sliceAt_slice _ _ _ _ _ _ hun, run_slice_any _ _ _ _ _ hun]
    have := bounds_run (P := P) (w := w) (a := a) (isS := true) (len := 0) (cap := 0) (lo := none) b1 (fun _ => rfl) b3 (fun X h => by cases h)
    simp only [Option.map_none] at this
    simp [this, hel, sizeOf, typeInfo, hie, hsz, sliced]
   ·have : ids[b] = .lv p := by rw [List.getElem?_eq_getElem hbi] at h1; exact Option.some.inj h1
    rw [this] at hB
    obtain ⟨hb', h, b1, b2, b3⟩ := bnd_run hs h (show n ≤ cap by have := hB.2.1; omega)
    obtain ⟨e1, e2, vs, g1, g2, g3, g4, g5⟩ := hB
    have hle : hb' ≤ n := by
     cases hi with
     | none => have := b1 rfl; omega
     | some L => exact b2 rfl
    obtain ⟨⟨r1, r2, _⟩, hdd, hdl⟩ := free_inv h
    have hdead := free_at hdd hdl
    have hal : aid < m.length := (List.getElem?_eq_some_iff.1 hdead).1
    have hs' := hs.regrow (w' := w) b aid hlt hbm hdead (.lv (mkId p.blk p.k hb' p.sz)) (.row ty sz hb' row) rfl rfl rfl (Nat.le_refl _) (fun _ _ _ => rfl) (fun _ h => by cases h)
     (fun p' h x hx => by cases h; rw [mkId_has hx]; exact ⟨(hs.fresh p (List.mem_of_getElem? h1)).2, .inr ⟨p, h1, .inl rfl⟩⟩)
     (fun hmm => ⟨e1, rfl, vs, g1, g2, Nat.le_trans (Nat.mul_le_mul_right _ hle) g3, fun i hi => g4 i (by omega), fun i j hi h h' => ⟨hmm _ _ (g5 i j (by omega) h h').1, (g5 i j (by omega) h h').2⟩⟩)
    refine wp_of_run (v := .slice (some ⟨p.blk, 0, none⟩) hb' cap) (w' := w) ?_ (hn _ _ _ (by
     rw [← r1, ← r2]
     refine hs'.putD o.dst (.own aid cap (mkId p.blk p.k hb' p.sz) ?_ ⟨by show hb' ≤ cap; omega, h2.2⟩ h3)
     rw [List.getElem?_set_self (by simp; rw [hs.mlen]; exact hal)]))
    rw [e, h4, Sem.run_bind, run_sliceAt_slice _ _ _ _ _ _ hun, run_slice_any _ _ _ _ _ hun, e2]
    have := bounds_run (P := P) (w := w) (a := a) (isS := true) (len := n) (cap := cap) (lo := none) b1 (fun _ => rfl) b3 (fun X h => by cases h)
    simp only [Option.map_none] at this
    have e3 : (⟨p.blk, 0, none⟩ : Addr).add 0 = ⟨p.blk, 0, none⟩ := rfl
    simp [this, hel, sizeOf, typeInfo, hie, hsz, sliced, e3]
  ·exact h.elim
 ·exact h.elim
theorem dLook_sound (htt : TTok P tt) (hs : Sim c s m a w ids) {t : TypeId} {X Y : Operand} {ok : Bool} (ho : o.op = .lookup t X Y ok) {r : Oc} (h : dLook tt t (ev s X) (ev s Y) ok m fun v u rd => v = r.v ∧ u = r.u ∧ rd = r.rd)
  (hn : ∀ a' w' ids', Sim c (putD s o.dst r.v) (updB m r.u) a' w' ids' → next a' w') : o.wp P a w next Q := by
 unfold dLook at h
 obtain ⟨v, ⟨rfl, e2, _⟩, h1⟩ := (DM_sLook (tt := tt) (m := m) t _ _ ok _).1 h
 refine sLook_sound (K := fun v' m' => v' = r.v ∧ m' = m) htt hs ho ?_ ?_
 ·simpa using h1
 ·rintro v' m' a' w' ids' ⟨rfl, rfl⟩ hs'
  refine hn a' w' ids' ?_
  rw [← e2]; exact hs'
theorem dUpd_sound (htt : TTok P tt) (hs : Sim c s m a w ids) {t : TypeId} {X Y Z : Operand} (ho : o.op = .mapUpdate t X Y Z ∨ o.op = .insert t X Y Z) {r : Oc} (h : dUpd tt t (ev s X) (ev s Y) (ev s Z) m fun v u rd => v = r.v ∧ u = r.u ∧ rd = r.rd)
  (hn : ∀ a' w' ids', Sim c (putD s o.dst r.v) (updB m r.u) a' w' ids' → next a' w') : o.wp P a w next Q := by
 unfold dUpd at h
 obtain ⟨agg, sh, z, h1, h2⟩ := mapTy_ex h
 refine sUpd_sound (K := fun v' m' => v' = r.v ∧ m' = updB m r.u) htt hs ho ?_ ?_
 ·unfold sUpd
  refine h2 _ ?_
  split at h1
  ·rename_i k b hk hx hown
   split at h1
   ·rename_i hb
    split at h1
    ·rename_i g1 g2
     rw [fd_eq] at h1
     simp only [hk, hx, hown, hb, g1, g2, fd_eq, setB_eq]
     exact ⟨h1.1, by rw [← h1.2.1]; rfl⟩
    ·exact h1.elim
   ·exact h1.elim
  ·exact h1.elim
 ·rintro v' m' a' w' ids' ⟨rfl, rfl⟩ hs'
  exact hn a' w' ids' hs'
theorem dDel_sound (htt : TTok P tt) (hs : Sim c s m a w ids) {t t' : TypeId} {X Y : Operand} (ho : o.op = .call { callee := .builtin .delete, args := #[X, Y], argTypes := #[t, t'] }) {r : Oc} (h : dDel tt t (ev s X) (ev s Y) m fun v u rd => v = r.v ∧ u = r.u ∧ rd = r.rd)
  (hn : ∀ a' w' ids', Sim c (putD s o.dst r.v) (updB m r.u) a' w' ids' → next a' w') : o.wp P a w next Q := by
 unfold dDel at h
 obtain ⟨agg, sh, z, h1, h2⟩ := mapTy_ex h
 refine sDel_sound (K := fun v' m' => v' = r.v ∧ m' = updB m r.u) htt hs ho ?_ ?_
 ·unfold sDel
  refine h2 _ ?_
  split at h1
  ·rename_i k b hk hx
   split at h1
   ·rename_i hb
    split at h1
    ·rename_i g1 g2
     simp only [hk, hx, hb, g1, g2, setB_eq]
     exact ⟨h1.1, by rw [← h1.2.1]; rfl⟩
    ·exact h1.elim
   ·exact h1.elim
  ·exact h1.elim
 ·rintro v' m' a' w' ids' ⟨rfl, rfl⟩ hs'
  exact hn a' w' ids' hs'
theorem dMkMap_sound (htt : TTok P tt) (hs : Sim c s m a w ids) {t : TypeId} (ho : o.op = .makeMap t none) {aid : Nat} {r : Oc} (h : dMkMap tt t aid m fun v u rd => v = r.v ∧ u = r.u ∧ rd = r.rd)
  (hn : ∀ a' w' ids', Sim c (putD s o.dst r.v) (updB m r.u) a' w' ids' → next a' w') : o.wp P a w next Q := by
 have e : execOp a.eval o = (do pure (.value (← Instr.makeMap t none))) := by
  obtain ⟨dst, op, ty, pos, after, guard⟩ := o
  simp only at ho; subst ho; rfl
 unfold dMkMap at h
 obtain ⟨kt, et, agg, sh, z, zv, h1, h2, _, _, h⟩ := mapTy_inv htt h (imOf c ids w) w
 obtain ⟨⟨r1, r2, _⟩, hdd, hdl⟩ := free_inv h
 have hdead := free_at hdd hdl
 have hs' := hs.allocAtO aid hdead (.mapb agg sh (fun _ => false) (fun _ => .junk)) (.map #[] 0) 0 0 0 (fun ids' im' w' _ _ _ h4 => by
  have h4 : w'.heap[w.heap.size]? = some (.map #[] 0) := h4.trans (by
   show (w.heap.push _)[w.heap.size]? = _
   simp)
  exact ⟨#[], 0, fun _ => [], h4, (fun i h => by simp at h), (fun i j h => by simp at h), (fun k _ h => by simp at h), (fun i h => by simp at h), (fun i h => by simp at h), (fun i j h => by simp at h)⟩)
 have hl := (List.getElem?_eq_some_iff.1 hdead).1
 have hli : aid < ids.length := by rw [hs.mlen]; exact hl
 refine wp_of_run (v := .map (some w.heap.size)) (w' := w.alloc (.map #[] 0)) (by rw [e]; simp only [Sem.run_bind, RowKit.run_makeMap, Result.andThen_ok]; rfl) (hn _ _ (ids.set aid (.lv (mkId w.heap.size 0 0 0))) ?_)
 rw [← r1, ← r2]
 exact hs'.putD o.dst (.omap aid (mkId w.heap.size 0 0 0) (by rw [List.getElem?_set_self hli]))
theorem Out_sound (htt : TTok P tt) (hG : G.ok c) (hs : Sim c s m a w ids) {aid : Nat} {r : Oc} (h : Out P G tt o aid s m r)
  (hn : ∀ a' w' ids', Sim c (putD s o.dst r.v) (updB m r.u) a' w' ids' → next a' w') : o.wp P a w next Q := by
 unfold Out stepV at h
 split at h
 ·rename_i ho; exact dEnt_sound htt hs ho h hn
 ·rename_i ho; exact dESt_sound hs ho h hn
 ·rename_i t x lo hi ho
  unfold dSl at h
  split at h
  ·rename_i b hX hlo
   have hlo : lo = none := by cases lo with | none => rfl | some => simp [evO] at hlo
   subst hlo
   exact dOwnSl_sound htt hs ho hX h hn
  ·exact stepQ_sound htt hG hs h hn
 ·rename_i ho; exact dLook_sound htt hs ho h hn
 ·rename_i ho; exact dUpd_sound htt hs (.inl ho) h hn
 ·rename_i ho; exact dUpd_sound htt hs (.inr ho) h hn
 ·rename_i ho; exact dMkMap_sound htt hs ho h hn
 ·rename_i args ts ho
  split at h
  ·rename_i x k t t' hx ht
   have e1 : args = #[x, k] := by apply Array.ext'; simpa using hx
   have e2 : ts = #[t, t'] := by apply Array.ext'; simpa using ht
   subst e1; subst e2
   exact dDel_sound htt hs ho h hn
  ·exact h.elim
 ·rename_i t ho
  unfold dAlloc at h
  split at h
  ·rename_i ti ht
   obtain ⟨⟨e1, e2, _⟩, hdd, hdl⟩ := free_inv h
   obtain ⟨i, d, z, hi, hd, hz, hsz, hone, hzs, hzero, _⟩ := htt.facts ht
   refine wp_newAt hs (free_at hdd hdl) (.box t ti.zero) z.cells t 0 0 (r := r.v) (v := .pointer (some ⟨w.heap.size, 0, none⟩)) ?_ ?_ ?_ (fun a' w' ids' hs' => hn a' w' ids' (by rw [← e2]; exact hs'))
   ·unfold execOp; rw [ho]; simp [Instr.alloc, zeroValue, typeInfo, hi, hz, newVar, newRow]
   ·intro ids' im' w' g1 g2 g3 g4
    refine ⟨z.cells, g4, rfl, by simp [hzero], ?_⟩
    intro j hj hj'
    refine ⟨?_, hone _ (by simp)⟩
    simp only [hzero, List.getElem_map, Array.getElem_toList]
    exact .imm (ofConst_rel _ _ _)
   ·intro ids' im' w' g; rw [← e1]; exact .ref aid 0 _ g
  ·exact h.elim
 ·rename_i t x ho
  unfold dBox at h
  split at h
  ·rename_i cs hc
   obtain ⟨⟨e1, e2, _⟩, hdd, hdl⟩ := free_inv h
   obtain ⟨vs, h1, h2, h3, h4⟩ := cells_rel hc (hs.ev x)
   refine wp_newAt hs (free_at hdd hdl) (.box t cs) vs.toArray t 0 0 (r := r.v) (v := .pointer (some ⟨w.heap.size, 0, none⟩)) ?_ ?_ ?_ (fun a' w' ids' hs' => hn a' w' ids' (by rw [← e2]; exact hs'))
   ·unfold execOp; rw [ho]; simp [Instr.box, newVar, newRow, h1]
   ·intro ids' im' w' g1 g2 g3 g4
    refine ⟨vs.toArray, g4, rfl, by simp [h2], ?_⟩
    intro j hj hj'
    simp at hj'
    refine ⟨(by simpa using (h4 j hj hj').mono g1 g2 g3), ?_⟩
    simpa using h3 _ (List.getElem_mem hj')
   ·intro ids' im' w' g; rw [← e1]; exact .ref aid 0 _ g
  ·exact h.elim
 ·rename_i t len ps ho
  unfold dBuildSl at h
  split at h
  ·rename_i ti ht
   split at h
   ·rename_i te hk hte hble
    obtain ⟨cs', vs', f2, hrest⟩ := bsl_run (P := P) htt hs ht hk hte (Nat.le_of_ble_eq_true hble) h
    split at f2
    ·rename_i hown hlen
     split at f2
     ·simp only [fnat_eq] at f2
      obtain ⟨⟨e1, e2, _⟩, hdd, hdl⟩ := free_inv f2
      obtain ⟨hrun, hvl, hmx, hB⟩ := hrest hown (Nat.eq_of_beq_eq_true hlen)
      refine wp_newAt hs (free_at hdd hdl) _ vs' ti.ety len ti.esz (r := r.v) (v := .slice (some ⟨w.heap.size, 0, none⟩) len len) ?_ hB ?_ (fun a' w' ids' hs' => hn a' w' ids' (by rw [← e2]; exact hs'))
      ·unfold execOp; rw [ho]; simp only [Sem.run_bind, hrun]; rfl
      ·intro ids' im' w' g; rw [← e1]; exact .own aid len _ g ⟨Nat.le_refl _, hmx⟩ hvl.symm
     ·simp only [fnat_eq] at f2
      obtain ⟨e1, e2, _⟩ := f2
      obtain ⟨hrun, hvl, hmx, hB⟩ := hrest hown (Nat.eq_of_beq_eq_true hlen)
      have hbw := below_alloc w (.cells vs' ti.ety)
      have hs' := hs.same hbw
      have hnew : (w.alloc (.cells vs' ti.ety)).heap[w.heap.size]? = some (.cells vs' ti.ety (0, 0)) := heap_alloc_new w _
      have him : ∀ b, imOf c ids w b → imOf c ids (w.alloc (.cells vs' ti.ety)) b := by
       intro b hb
       rcases hb with hb | ⟨h1, h2, h3⟩
       ·exact .inl hb
       ·exact .inr ⟨h1, Nat.lt_of_lt_of_le h2 hbw.size, h3⟩
      have hB' := hB ids (imOf c ids (w.alloc (.cells vs' ti.ety))) (w.alloc (.cells vs' ti.ety)) him (fun b hb => hbw.block b (imOf_lt hs hb)) (fun _ _ h _ => h) hnew
      refine wp_of_run (w' := w.alloc (.cells vs' ti.ety)) (v := .slice (some ⟨w.heap.size, 0, none⟩) len len) (by unfold execOp; rw [ho]; simp only [Sem.run_bind, hrun]; rfl) (hn _ _ ids ?_)
      rw [← e1, ← e2]
      refine hs'.putD o.dst (.imm ?_)
      obtain ⟨_, _, vs2, q1, q2, q3, q4, q5⟩ := hB'
      have q1 : (w.alloc (.cells vs' ti.ety)).heap[w.heap.size]? = some (.cells vs2 ti.ety (0, 0)) := q1
      rw [hnew] at q1
      have q1 : vs' = vs2 := by simpa using q1
      subst q1
      have hlt : ∀ i j, i < len → j < (takeL ti.esz (cs'.drop (i * ti.esz))).length → i * ti.esz + j < vs'.size := by
       intro i j hi hj
       rw [q4 i hi] at hj
       have := Nat.mul_le_mul_right ti.esz (show i + 1 ≤ len from hi)
       rw [Nat.add_mul] at this
       omega
      refine .sl len ti.esz _ w.heap.size 0 len (fun i j => vs'.getD (i * ti.esz + j) undef) (.inr ⟨.inl hs.frame.size, by simp, fun p hp hx => ?_⟩) (Nat.le_refl _) q4 ?_ ?_ ?_
      ·have := (hs.freshX p hp _ hx).2; omega
      ·intro i j hi hj
       have hj' : j < (takeL ti.esz (cs'.drop (i * ti.esz))).length := by rw [q4 i hi]; exact hj
       rw [Nat.zero_add, cell_of_row _ _ _ _ _ (0, 0) hnew, Array.getElem?_eq_getElem (hlt i j hi hj'), Array.getD_eq_getD_getElem?, Array.getElem?_eq_getElem (hlt i j hi hj')]; rfl
      ·intro i j hi hj
       have hj' : j < (takeL ti.esz (cs'.drop (i * ti.esz))).length := by rw [q4 i hi]; exact hj
       have := (q5 i j hi hj' (hlt i j hi hj')).2
       rw [Array.getD_eq_getD_getElem?, Array.getElem?_eq_getElem (hlt i j hi hj')]; exact this
      ·intro i j hi hj
       have := (q5 i j hi hj (hlt i j hi hj)).1
       rw [Array.getD_eq_getD_getElem?, Array.getElem?_eq_getElem (hlt i j hi hj)]; exact this
    ·exact f2.elim
   ·exact h.elim
  ·exact h.elim
 ·rename_i t L C ho
  have hl := hs.ev L
  have hc := hs.ev C
  unfold dMake at h
  split at h
  ·rename_i ti k1 l k2 k hti hL hC
   rw [hL] at hl; rw [hC] at hc
   obtain ⟨i0, d, z0, _, hd, _, _, _, _, _, _, _, _, _, hk3, _⟩ := htt.facts hti
   split at h
   ·rename_i te hk hte
    obtain ⟨ie, ze, hd', hie, hsz, hby, hz, hzs, hne⟩ := hk3 hk
    subst hd'
    obtain ⟨i1, d1, z1, hi1, _, hz1, _, hone, _, hzero, _⟩ := htt.facts hte
    have e1 : i1 = ie := by rw [hie] at hi1; exact (Option.some.inj hi1).symm
    subst e1
    have e2 : z1 = ze := by rw [hz] at hz1; exact (Option.some.inj hz1).symm
    subst e2
    simp only [fnat_eq, fl_eq] at h
    obtain ⟨⟨c1, c2, c3, c4⟩, h⟩ := h
    obtain ⟨⟨f1, f2, _⟩, hdd, hdl⟩ := free_inv h
    have hrun := run_make (P := P) w t ti.ety i1 z1 hd hie hz k1 k2 l k c1 c2 (by rw [hby, Int.mul_comm]; omega) (by omega)
    refine wp_newAt hs (free_at hdd hdl) (.row ti.ety ti.esz l.toNat fun _ => te.zero) (madeCells z1.cells (k.toNat * i1.size)) ti.ety l.toNat ti.esz (r := r.v) (v := .slice (some ⟨w.heap.size, 0, none⟩) l.toNat k.toNat) ?_ ?_ ?_ (fun a' w' ids' hs' => hn a' w' ids' (by rw [← f2]; exact hs'))
    ·unfold execOp; rw [ho]; simp only [hl.int_inv, hc.int_inv, Sem.run_bind, hrun]; rfl
    ·intro ids' im' w' g1 g2 g3 g4
     rw [hsz] at g4 ⊢
     refine BRel.ofRowsV (cap := k.toNat) g4 (by simp [size_madeCells]) (by omega) rfl ?_
     rw [hzero]
     exact RowsV_made hzs (by omega) hone
    ·intro ids' im' w' g
     rw [← f1]
     refine .own _ k.toNat _ g ⟨by show l.toNat ≤ k.toNat; omega, by simp only [maxLen]; omega⟩ ?_
     simp [size_madeCells, hsz]
   ·exact h.elim
  ·exact h.elim
 ·rename_i args ts ho
  split at h
  ·rename_i x y t t' hx ht
   split at h
   ·rename_i he
    have he := Nat.eq_of_beq_eq_true he
    subst he
    have e1 : args = #[x, y] := by apply Array.ext'; simpa using hx
    have e2 : ts = #[t', t'] := by apply Array.ext'; simpa using ht
    subst e1; subst e2
    exact dApp_sound htt hs ho h hn
   ·exact h.elim
  ·exact h.elim
 ·rename_i f args ts ho
  rcases h with h | h
  ·exact stepQ_sound htt hG hs h hn
  ·unfold dCallN at h
   refine callN_sound hs hG ho h ?_
   intro r' mo' hk
   obtain ⟨⟨e1, e2, _⟩, hd⟩ := freeL_inv _ _ hk
   refine ⟨m, ids, hs, ?_, ?_⟩
   ·intro j hj; exact free_at (hd j hj).1 (hd j hj).2
   ·intro a' w' ids' hs'
    refine hn a' w' ids' ?_
    rw [← e1, ← e2, updB_zip]; exact hs'
 ·rename_i args ts ho
  split at h
  ·rename_i x t hx ht
   have e1 : args = #[x] := by apply Array.ext'; simpa using hx
   have e2 : ts = #[t] := by apply Array.ext'; simpa using ht
   subst e1; subst e2
   unfold dLen at h
   split at h
   ·rename_i g sh has val hX
    unfold dLenM at h
    obtain ⟨agg, sh', z, ⟨n, h1, h2, h3, _⟩, h4⟩ := mapTy_ex h
    refine sLenMap_sound (K := fun v' m' => v' = r.v ∧ m' = m) htt hs ho ?_ ?_
    ·unfold sLenMap
     refine h4 _ ?_
     rw [hX]
     exact fun keys k1 k2 k3 => ⟨by rw [h1 keys k1 k2 k3]; exact h2, rfl⟩
    ·rintro v' m' a' w' ids' ⟨rfl, rfl⟩ hs'
     refine hn a' w' ids' ?_
     rw [← h3]; exact hs'
   ·exact stepQ_sound htt hG hs h hn
  ·exact stepQ_sound htt hG hs h hn
 ·rename_i t x ho
  unfold dLoad at h
  split at h
  ·rename_i b i off hx
   split at h
   ·rename_i hb; exact dTake_sound htt hs ho hx hb h hn
   ·rename_i hb
    refine sLoadG_sound htt hs ho hx hb h (fun v a' w' ids' h1 h2 => hn a' w' ids' ?_)
    rw [← h1.1, ← h1.2.1]; exact h2
   ·exact stepQ_sound htt hG hs h hn
  ·exact stepQ_sound htt hG hs h hn
 ·rename_i t x i ho
  unfold dIdx at h
  split at h
  ·rename_i b hx
   split at h
   ·rename_i ty ety sz n hole len row hb
    split at h
    ·rename_i ti kk ix hti hY
     split at h
     ·rename_i hk he
      obtain ⟨h01, e1, e2, _⟩ := h
      refine stepN_sound (K := fun s1 v m' => s1 = s ∧ v = r.v ∧ m' = m) htt hG hs ?_ ?_
      ·unfold stepN
       rw [ho]
       simp only [hx, hb, hti, hY]
       rw [hk, he]
       exact ⟨h01, trivial, e1, trivial⟩
      ·rintro s1 v m' a' w' ids' ⟨rfl, rfl, rfl⟩ hs'
       refine hn a' w' ids' ?_
       rw [← e2]; exact hs'
     ·exact h.elim
    ·exact h.elim
   ·rename_i hb
    refine sIdxG_sound htt hs ho hx hb h (fun v a' w' ids' h1 h2 => hn a' w' ids' ?_)
    rw [← h1.1, ← h1.2.1]; exact h2
   ·exact stepQ_sound htt hG hs h hn
  ·exact stepQ_sound htt hG hs h hn
 ·rename_i t x y ho
  unfold dStore at h
  split at h
  ·rename_i ti b off ht hx
   split at h
   ·rename_i ty cs hb
    refine sStore_sound (K := fun v m' => v = r.v ∧ m' = updB m r.u) htt hs ho ?_ ?_
    ·obtain ⟨vs, g1, g2, g3, g4⟩ := stA_inv h
     unfold sStore
     simp only [ht, hx, hb]
     unfold stA
     have e2 : Nat.ble (off + ti.size) cs.length = true := Nat.ble_eq_true_of_le g3
     simp only [g1, g2, fl_eq, setB_eq, Nat.beq_refl, e2]
     exact ⟨g4.1, by rw [← g4.2.1]; rfl⟩
    ·rintro v m' a' w' ids' ⟨rfl, rfl⟩ hs'
     exact hn a' w' ids' hs'
   ·exact h.elim
  ·rename_i ti b i off ht hx
   split at h
   ·rename_i ty sz n row hb
    split at h
    ·rename_i hown
     obtain ⟨hlt, h⟩ := h
     rw [fl_eq] at h
     refine sStore_sound (K := fun v m' => v = r.v ∧ m' = updB m r.u) htt hs ho ?_ ?_
     ·obtain ⟨vs, g1, g2, g3, g4⟩ := stA_inv h
      unfold sStore
      simp only [ht, hx, hb, hown]
      unfold stA
      have e2 : Nat.ble (off + ti.size) (row i).length = true := Nat.ble_eq_true_of_le g3
      simp only [g1, g2, fl_eq, setB_eq, Nat.beq_refl, e2]
      exact ⟨hlt, g4.1, by rw [← g4.2.1]; rfl⟩
     ·rintro v m' a' w' ids' ⟨rfl, rfl⟩ hs'
      exact hn a' w' ids' hs'
    ·exact h.elim
   ·rename_i hb; exact dPut_sound htt hs ho hx hb h hn
   ·rename_i hb
    refine sStoreG_sound htt hs ho hx hb h (fun x a' w' ids' h1 h2 => hn a' w' ids' ?_)
    rw [← h1.1, ← h1.2.1]; exact h2
   ·exact h.elim
  ·exact h.elim
 ·exact stepQ_sound htt hG hs h hn
end
end Go.Proofs.YtnkbkfjgbejhfaaGreat.Am
namespace Go.Proofs.YtnkbkfjgbejhfaaGreat.Am
variable [Inhabited DRT]
open Go.RowKit (Below)

structure Rc where
 ex : Bool
 oc : Oc
 v : A
abbrev Recs := List (Oper × Rc)

def slS (S : Nat → Bool) : Nat → Recs → List A → List A
 | _, [], s => s
 | i, (o, r) :: l, s => slS S (i + 1) l (if S i then putD s o.dst r.v else s)
def blS (S : Nat → Bool) : Nat → Recs → List Blk → List Blk
 | _, [], m => m
 | i, (_, r) :: l, m => blS S (i + 1) l (if S i then updB m r.oc.u else m)

theorem putD_getD (s : List A) (d : Option Nat) (v : A) (t : Nat) : (putD s d v).getD t .junk = if d = some t ∧ t < s.length then v else s.getD t .junk := by
 cases d with
 | none => simp [putD]
 | some d =>
  simp only [putD, List.getD_eq_getElem?_getD, List.getElem?_set, Option.some.injEq]
  by_cases h : d = t
  ·subst h
   by_cases h2 : d < s.length
   ·simp [h2]
   ·simp [h2]
  ·simp [h]
theorem putD_len (s : List A) (d : Option Nat) (v : A) : (putD s d v).length = s.length := by cases d <;> simp [putD]
theorem updB_len (m : List Blk) : ∀ u : List (Nat × Blk), (updB m u).length = m.length
 | [] => rfl
 | (b, x) :: u => by rw [updB, List.length_set, updB_len m u]
theorem updB_getD (m : List Blk) (t : Nat) : ∀ u : List (Nat × Blk), (updB m u).getD t .dead = match u.lookup t with | some x => if t < m.length then x else m.getD t .dead | none => m.getD t .dead
 | [] => rfl
 | (b, x) :: u => by
  rw [updB, List.getD_eq_getElem?_getD, List.getElem?_set, updB_len, List.lookup_cons]
  by_cases h : b = t
  ·subst h
   simp only [beq_self_eq_true, if_true]
   by_cases h2 : b < m.length
   ·simp [h2]
   ·simp [h2]
  ·have h' : (t == b) = false := by simpa using fun e => h e.symm
   rw [if_neg h, h']
   have := updB_getD m t u
   rw [List.getD_eq_getElem?_getD] at this
   exact this
theorem slS_len (S : Nat → Bool) : ∀ (l : Recs) (i : Nat) (s : List A), (slS S i l s).length = s.length
 | [], _, _ => rfl
 | (o, r) :: l, i, s => by rw [slS, slS_len]; split <;> simp [putD_len]
theorem blS_len (S : Nat → Bool) : ∀ (l : Recs) (i : Nat) (m : List Blk), (blS S i l m).length = m.length
 | [], _, _ => rfl
 | (o, r) :: l, i, m => by rw [blS, blS_len]; split <;> simp [updB_len]

theorem slS_congr (S S' : Nat → Bool) (t : Nat) : ∀ (l : Recs) (i : Nat) (s s' : List A), s.length = s'.length → s.getD t .junk = s'.getD t .junk →
  (∀ j o r, l[j]? = some (o, r) → o.dst = some t → S (i + j) = S' (i + j)) → (slS S i l s).getD t .junk = (slS S' i l s').getD t .junk
 | [], _, _, _, _, h, _ => h
 | (o, r) :: l, i, s, s', hl, h, hw => by
  rw [slS, slS]
  refine slS_congr S S' t l (i + 1) _ _ ?_ ?_ ?_
  ·split <;> split <;> simp [putD_len, hl]
  ·by_cases hd : o.dst = some t
   ·have := hw 0 o r rfl hd
    simp only [Nat.add_zero] at this
    rw [this]
    split
    ·rw [putD_getD, putD_getD, hl, h]
    ·exact h
   ·have e1 : ∀ s : List A, (putD s o.dst r.v).getD t .junk = s.getD t .junk := by
     intro s; rw [putD_getD, if_neg (fun hh => hd hh.1)]
    split <;> split <;> simp only [e1, h]
  ·intro j o' r' hj hd
   have := hw (j + 1) o' r' (by simpa using hj) hd
   rwa [show i + (j + 1) = i + 1 + j by omega] at this
theorem blS_congr (S S' : Nat → Bool) (t : Nat) : ∀ (l : Recs) (i : Nat) (m m' : List Blk), m.length = m'.length → m.getD t .dead = m'.getD t .dead →
  (∀ j o r x, l[j]? = some (o, r) → r.oc.u.lookup t = some x → S (i + j) = S' (i + j)) → (blS S i l m).getD t .dead = (blS S' i l m').getD t .dead
 | [], _, _, _, _, h, _ => h
 | (o, r) :: l, i, m, m', hl, h, hw => by
  rw [blS, blS]
  refine blS_congr S S' t l (i + 1) _ _ ?_ ?_ ?_
  ·split <;> split <;> simp [updB_len, hl]
  ·cases hu : r.oc.u.lookup t with
   | some x =>
    have := hw 0 o r x rfl hu
    simp only [Nat.add_zero] at this
    rw [this]
    split
    ·rw [updB_getD, updB_getD, hu]; simp only [hl, h]
    ·exact h
   | none =>
    have e0 : ∀ m : List Blk, (updB m r.oc.u).getD t .dead = m.getD t .dead := fun m => by rw [updB_getD, hu]
    split <;> split <;> simp only [e0, h]
  ·intro j o' r' x hj hd
   have := hw (j + 1) o' r' x (by simpa using hj) hd
   rwa [show i + (j + 1) = i + 1 + j by omega] at this

theorem slS_last (S : Nat → Bool) (t : Nat) : ∀ (l : Recs) (i k : Nat) (s : List A) (o : Oper) (r : Rc), t < s.length → l[k]? = some (o, r) → o.dst = some t → S (i + k) = true →
  (∀ j o' r', k < j → l[j]? = some (o', r') → o'.dst = some t → S (i + j) = false) → (slS S i l s).getD t .junk = r.v
 | [], _, _, _, _, _, _, h, _, _, _ => by simp at h
 | (o1, r1) :: l, i, k, s, o, r, ht, hk, hd, hS, hl => by
  rw [slS]
  cases k with
  | zero =>
   simp only [List.getElem?_cons_zero, Option.some.injEq, Prod.mk.injEq] at hk
   obtain ⟨rfl, rfl⟩ := hk
   simp only [Nat.add_zero] at hS
   have := slS_congr S (fun _ => false) t l (i + 1) (if S i then putD s o1.dst r1.v else s) (if S i then putD s o1.dst r1.v else s) rfl rfl (fun j o' r' hj hdd => by
    have := hl (j + 1) o' r' (by omega) (by simpa using hj) hdd
    rwa [show i + (j + 1) = i + 1 + j by omega] at this)
   rw [this]
   have hid : ∀ (l : Recs) (i : Nat) (s : List A), slS (fun _ => false) i l s = s := by
    intro l; induction l with
    | nil => intro i s; rfl
    | cons p l ih => intro i s; rw [slS]; simp [ih]
   rw [hid, hS]
   simp only [if_true]
   rw [putD_getD, if_pos ⟨hd, ht⟩]
  | succ k =>
   refine slS_last S t l (i + 1) k _ o r ?_ (by simpa using hk) hd ?_ ?_
   ·split <;> simp [putD_len, ht]
   ·rwa [show i + 1 + k = i + (k + 1) by omega]
   ·intro j o' r' hj hjj hdd
    have := hl (j + 1) o' r' (by omega) (by simpa using hjj) hdd
    rwa [show i + (j + 1) = i + 1 + j by omega] at this
theorem blS_last (S : Nat → Bool) (t : Nat) : ∀ (l : Recs) (i k : Nat) (m : List Blk) (o : Oper) (r : Rc) (x : Blk), t < m.length → l[k]? = some (o, r) → r.oc.u.lookup t = some x → S (i + k) = true →
  (∀ j o' r' x', k < j → l[j]? = some (o', r') → r'.oc.u.lookup t = some x' → S (i + j) = false) → (blS S i l m).getD t .dead = x
 | [], _, _, _, _, _, _, _, h, _, _, _ => by simp at h
 | (o1, r1) :: l, i, k, m, o, r, x, ht, hk, hd, hS, hl => by
  rw [blS]
  cases k with
  | zero =>
   simp only [List.getElem?_cons_zero, Option.some.injEq, Prod.mk.injEq] at hk
   obtain ⟨rfl, rfl⟩ := hk
   simp only [Nat.add_zero] at hS
   have := blS_congr S (fun _ => false) t l (i + 1) (if S i then updB m r1.oc.u else m) (if S i then updB m r1.oc.u else m) rfl rfl (fun j o' r' x' hj hdd => by
    have := hl (j + 1) o' r' x' (by omega) (by simpa using hj) hdd
    rwa [show i + (j + 1) = i + 1 + j by omega] at this)
   rw [this]
   have hid : ∀ (l : Recs) (i : Nat) (m : List Blk), blS (fun _ => false) i l m = m := by
    intro l; induction l with
    | nil => intro i m; rfl
    | cons p l ih => intro i m; rw [blS]; simp [ih]
   rw [hid, hS]
   simp only [if_true]
   rw [updB_getD, hd]; simp [ht]
  | succ k =>
   refine blS_last S t l (i + 1) k _ o r x ?_ (by simpa using hk) hd ?_ ?_
   ·split <;> simp [updB_len, ht]
   ·rwa [show i + 1 + k = i + (k + 1) by omega]
   ·intro j o' r' x' hj hjj hdd
    have := hl (j + 1) o' r' x' (by omega) (by simpa using hjj) hdd
    rwa [show i + (j + 1) = i + 1 + j by omega] at this

theorem ext_getD {s s' : List A} (hl : s.length = s'.length) (h : ∀ t, s.getD t .junk = s'.getD t .junk) : s = s' := by
 apply List.ext_getElem hl
 intro i h1 h2
 have := h i
 simpa [List.getD_eq_getElem?_getD, h1, h2] using this
theorem ext_getB {s s' : List Blk} (hl : s.length = s'.length) (h : ∀ t, s.getD t .dead = s'.getD t .dead) : s = s' := by
 apply List.ext_getElem hl
 intro i h1 h2
 have := h i
 simpa [List.getD_eq_getElem?_getD, h1, h2] using this

/-- One more of the operations. -/
theorem slS_add (S S' : Nat → Bool) (l : Recs) (k : Nat) (s : List A) (o : Oper) (r : Rc) (hk : l[k]? = some (o, r)) (hS : ∀ j, S' j = (S j || j == k)) (hn : S k = false)
  (hc : ∀ j o' r', k < j → l[j]? = some (o', r') → o'.dst = o.dst → o.dst ≠ none → S j = false) : slS S' 0 l s = putD (slS S 0 l s) o.dst r.v := by
 apply ext_getD (by simp [slS_len, putD_len])
 intro t
 rw [putD_getD, slS_len]
 by_cases hd : o.dst = some t
 ·by_cases ht : t < s.length
  ·rw [if_pos ⟨hd, ht⟩]
   refine slS_last S' t l 0 k s o r ht hk hd (by simp [hS]) ?_
   intro j o' r' hj hjj hdd
   have := hc j o' r' hj hjj (by rw [hdd, hd]) (by rw [hd]; simp)
   simp [hS, this]; omega
  ·rw [if_neg (fun h => ht h.2)]
   have e1 : ∀ (S : Nat → Bool), (slS S 0 l s).getD t .junk = .junk := by
    intro S; rw [List.getD_eq_getElem?_getD, List.getElem?_eq_none (by rw [slS_len]; omega)]; rfl
   rw [e1, e1]
 ·rw [if_neg (fun h => hd h.1)]
  refine slS_congr S' S t l 0 s s rfl rfl ?_
  intro j o' r' hj hdd
  simp only [Nat.zero_add, hS]
  have : j ≠ k := by rintro rfl; rw [hk] at hj; cases hj; exact hd hdd
  simp [this]
theorem blS_add (S S' : Nat → Bool) (l : Recs) (k : Nat) (m : List Blk) (o : Oper) (r : Rc) (hk : l[k]? = some (o, r)) (hS : ∀ j, S' j = (S j || j == k)) (hn : S k = false)
  (hc : ∀ j o' r' b x x', k < j → l[j]? = some (o', r') → r.oc.u.lookup b = some x → r'.oc.u.lookup b = some x' → S j = false) : blS S' 0 l m = updB (blS S 0 l m) r.oc.u := by
 apply ext_getB (by simp [blS_len, updB_len])
 intro t
 rw [updB_getD, blS_len]
 split
 ·rename_i x hu
  by_cases ht : t < m.length
  ·rw [if_pos ht]
   refine blS_last S' t l 0 k m o r x ht hk hu (by simp [hS]) ?_
   intro j o' r' x' hj hjj hdd
   have := hc j o' r' t x x' hj hjj hu hdd
   simp [hS, this]; omega
  ·rw [if_neg ht]
   have e1 : ∀ (S : Nat → Bool), (blS S 0 l m).getD t .dead = .dead := by
    intro S; rw [List.getD_eq_getElem?_getD, List.getElem?_eq_none (by rw [blS_len]; omega)]; rfl
   rw [e1, e1]
 ·rename_i hu
  refine blS_congr S' S t l 0 m m rfl rfl ?_
  intro j o' r' x hj hdd
  simp only [Nat.zero_add, hS]
  have : j ≠ k := by rintro rfl; rw [hk] at hj; cases hj; rw [hu] at hdd; cases hdd
  simp [this]
end Go.Proofs.YtnkbkfjgbejhfaaGreat.Am
namespace Go.Proofs.YtnkbkfjgbejhfaaGreat.Am
variable [Inhabited DRT]
open Go.RowKit (Below)

def bindMask (acc : List Nat) (o : Oper) : Nat :=
 o.after.toList.foldl (fun s e => match Region.binds .any e with
  | true => s ||| 2 ^ e.on ||| acc.getD e.on 0
  | false => s) 0
def masks : List Nat → List Oper → List Nat
 | acc, [] => acc
 | acc, o :: os => masks (acc ++ [bindMask acc o]) os
abbrev Fp := List Nat × List Nat
def hitS (d : Option Nat) (l : List Nat) : Bool := match d with
 | some d => memN d l
 | none => false
def sameS (d e : Option Nat) : Bool := match d, e with
 | some d, some e => Nat.beq d e
 | _, _ => false
def meetL : List Nat → List Nat → Bool
 | [], _ => false
 | b :: bs, l => match memN b l with
  | true => true
  | false => meetL bs l
def conf (ops : Array Oper) (oi oj : Oper) (fi fj : Fp) : Bool :=
 hitS oj.dst (oi.looksAt ops) || sameS oj.dst oi.dst || hitS oi.dst (oj.looksAt ops) || meetL fj.2 fi.1 || meetL fj.2 fi.2 || meetL fi.2 fj.1
/-- All pairs (i, j), i ahead, that meet are bound one behind the other. -/
def pairs1 (ops : Array Oper) (mask : Nat) (oj : Oper) (fj : Fp) : Nat → List (Oper × Fp) → Bool
 | _, [] => true
 | i, (oi, fi) :: l => (!conf ops oi oj fi fj || mask.testBit i) && pairs1 ops mask oj fj (i + 1) l
def pairsB (ops : Array Oper) : List (Oper × Fp) → List (Oper × Fp × Nat) → Bool
 | _, [] => true
 | done, (oj, fj, mk) :: l => pairs1 ops mk oj fj 0 done && pairsB ops (done ++ [(oj, fj)]) l
def backB : Nat → List Oper → Bool
 | _, [] => true
 | j, o :: os => (o.after.toList.all fun e => !Region.binds .any e || decide (e.on < j)) && backB (j + 1) os
def indepB (ops : List Oper) (fps : List Fp) : Bool :=
 backB 0 ops && pairsB ops.toArray [] (ops.zip (fps.zip (masks [] ops)))

/-! ### The check's meaning -/
def DC (S : Nat → Bool) (ops : List Oper) : Prop := ∀ (j : Nat) o, ops[j]? = some o → S j = true → ∀ e ∈ o.after, Region.binds .any e = true → S e.on = true

theorem bindMask_bit {acc : List Nat} {S : Nat → Bool} (hacc : ∀ j i, (acc.getD j 0).testBit i = true → S j = true → S i = true) (o : Oper)
  (ho : ∀ e ∈ o.after, Region.binds .any e = true → S e.on = true) (i : Nat) (h : (bindMask acc o).testBit i = true) : S i = true := by
 unfold bindMask at h
 have key : ∀ (l : List Edge) (z : Nat), (∀ e ∈ l, Region.binds .any e = true → S e.on = true) → (z.testBit i = true → S i = true) →
   (l.foldl (fun s e => match Region.binds .any e with | true => s ||| 2 ^ e.on ||| acc.getD e.on 0 | false => s) z).testBit i = true → S i = true := by
  intro l
  induction l with
  | nil => intro z _ hz h; exact hz h
  | cons e l ih =>
   intro z hl hz h
   rw [List.foldl_cons] at h
   refine ih _ (fun e' he' => hl e' (by simp [he'])) ?_ h
   intro hz'
   split at hz'
   ·rename_i hb
    have hon := hl e (by simp) hb
    rw [Nat.testBit_or, Nat.testBit_or, Bool.or_eq_true, Bool.or_eq_true] at hz'
    rcases hz' with (hz' | hz') | hz'
    ·exact hz hz'
    ·rw [Nat.testBit_two_pow] at hz'
     have : e.on = i := by simpa using hz'
     rw [← this]; exact hon
    ·exact hacc _ _ hz' hon
   ·exact hz hz'
 exact key o.after.toList 0 (fun e he => ho e (by simpa using he)) (by simp) h

theorem masks_bit {S : Nat → Bool} : ∀ (os : List Oper) (acc : List Nat), (∀ j i, (acc.getD j 0).testBit i = true → S j = true → S i = true) →
  (∀ (j : Nat) o, os[j]? = some o → S (acc.length + j) = true → ∀ e ∈ o.after, Region.binds .any e = true → S e.on = true) →
  ∀ j i, ((masks acc os).getD j 0).testBit i = true → S j = true → S i = true
 | [], acc, hacc, _ => hacc
 | o :: os, acc, hacc, hos => by
  rw [masks]
  refine masks_bit os _ ?_ ?_
  ·intro j i hb hS
   by_cases hj : j < acc.length
   ·rw [List.getD_eq_getElem?_getD, List.getElem?_append_left hj, ← List.getD_eq_getElem?_getD] at hb
    exact hacc j i hb hS
   ·by_cases hj2 : j = acc.length
    ·subst hj2
     rw [List.getD_eq_getElem?_getD, List.getElem?_append_right (Nat.le_refl _)] at hb
     simp at hb
     exact bindMask_bit hacc o (hos 0 o rfl (by simpa using hS)) i hb
    ·rw [List.getD_eq_getElem?_getD, List.getElem?_eq_none (by simp; omega)] at hb
     simp at hb
  ·intro j o' hj hS
   have := hos (j + 1) o' (by simpa using hj) (by simp at hS; rwa [show acc.length + (j + 1) = acc.length + 1 + j by omega])
   exact this

theorem memN_iff {i : Nat} : ∀ {l : List Nat}, memN i l = true ↔ i ∈ l
 | [] => by simp [memN]
 | j :: l => by
  unfold memN
  split
  ·rename_i h; simp [Nat.eq_of_beq_eq_true h]
  ·rename_i h
   have : i ≠ j := by rintro rfl; rw [Nat.beq_refl] at h; cases h
   simp [memN_iff, this]

theorem pairs1_spec {ops : Array Oper} {mask : Nat} {oj : Oper} {fj : Fp} : ∀ (l : List (Oper × Fp)) (k : Nat), pairs1 ops mask oj fj k l = true → ∀ i oi fi, l[i]? = some (oi, fi) → conf ops oi oj fi fj = true → mask.testBit (k + i) = true
 | [], _, _, i, _, _, h, _ => by simp at h
 | (o1, f1) :: l, k, h, i, oi, fi, hi, hc => by
  simp only [pairs1, Bool.and_eq_true, Bool.or_eq_true, Bool.not_eq_true'] at h
  cases i with
  | zero =>
   simp at hi
   obtain ⟨rfl, rfl⟩ := hi
   rcases h.1 with h1 | h1
   ·rw [hc] at h1; cases h1
   ·exact h1
  | succ i =>
   have := pairs1_spec l (k + 1) h.2 i oi fi (by simpa using hi) hc
   rwa [show k + (i + 1) = k + 1 + i by omega]
theorem pairsB_spec {ops : Array Oper} : ∀ (l : List (Oper × Fp × Nat)) (done : List (Oper × Fp)), pairsB ops done l = true →
  ∀ i j oi fi oj fj mj, (done ++ l.map fun p => (p.1, p.2.1))[i]? = some (oi, fi) → l[j]? = some (oj, fj, mj) → i < done.length + j → conf ops oi oj fi fj = true → mj.testBit i = true
 | [], _, _, _, _, _, _, _, _, _, _, h, _, _ => by simp at h
 | (o1, f1, m1) :: l, done, h, i, j, oi, fi, oj, fj, mj, hi, hj, hlt, hc => by
  simp only [pairsB, Bool.and_eq_true] at h
  cases j with
  | zero =>
   simp at hj
   obtain ⟨rfl, rfl, rfl⟩ := hj
   have := pairs1_spec done 0 h.1 i oi fi (by rw [List.getElem?_append_left (by omega)] at hi; exact hi) hc
   simpa using this
  | succ j =>
   refine pairsB_spec l (done ++ [(o1, f1)]) h.2 i j oi fi oj fj mj ?_ (by simpa using hj) (by simp; omega) hc
   simpa using hi
end Go.Proofs.YtnkbkfjgbejhfaaGreat.Am
namespace Go.Proofs.YtnkbkfjgbejhfaaGreat.Am
variable [Inhabited DRT]
open Go.RowKit (Below)

def brk (g : Bool) (v : A) (K : A → Prop) : Prop :=
 match g, v with
 | true, .sb b => (b = true → K (.bool true)) ∧ (b = false → K (.bool false))
 | _, v => fv v K
def isG (i : Nat) : List Oper → Bool
 | [] => false
 | o :: os => match o.guard with
  | some (j, _) => match Nat.beq i j with
   | true => true
   | false => isG i os
  | none => isG i os
def guardD (g : Option Nat) (want : Bool) (s : List A) (X Y : Prop) : Prop :=
 match g with
 | none => False
 | some d => match s.getD d .junk with
  | .bool b => match b, want with
   | true, true => X
   | false, false => X
   | true, false => Y
   | false, true => Y
  | .tup vs => match vs with
   | [] => Y
   | _ => False
  | _ => False
def rvAt : List (Nat × Nat) → Nat → Nat
 | [], _ => 0
 | (j, n) :: l, i => match Nat.beq j i with
  | true => n
  | false => rvAt l i
def nextAid (rv : List (Nat × Nat)) (i : Nat) (o : Op) (aid : Nat) : Nat := match isAlloc o with
 | true => aid + 1
 | false => aid + rvAt rv i
def runD (P : Program) (G : GInv) (tt : TT) (ops : List Oper) (rv : List (Nat × Nat)) : List Oper → Nat → Nat → List A → List Blk → (List A → List Blk → List Fp → Prop) → Prop
 | [], _, _, s, m, K => K s m []
 | o :: rest, i, aid, s, m, K =>
  let X : Prop := stepV P G tt o aid s m fun v u rd => brk (isG i ops) v fun v' => putF s o.dst v' fun s' => updF m u fun m' =>
   fnat (nextAid rv i o.op aid) fun aid' => runD P G tt ops rv rest (i + 1) aid' s' m' fun s m fps => K s m ((rd, u.map (·.1)) :: fps)
  match o.guard with
  | none => X
  | some (j, want) => guardD (gslot ops j) want s X
    (putF s o.dst (.tup []) fun s' => fnat (nextAid rv i o.op aid) fun aid' => runD P G tt ops rv rest (i + 1) aid' s' m fun s m fps => K s m (([], []) :: fps))

/-- A value told more closely. -/
def Ref (x y : A) : Prop := y = x ∨ ∃ b, x = .sb b ∧ y = .bool b
def Gd (ops : List Oper) (o : Oper) (r : Rc) (s : List A) : Prop :=
 match o.guard with
 | none => r.ex = true
 | some (j, want) => (∃ d b, gslot ops j = some d ∧ s.getD d .junk = .bool b ∧ r.ex = (b == want)) ∨ ∃ d, gslot ops j = some d ∧ s.getD d .junk = .tup [] ∧ r.ex = false
def Ch (P : Program) (G : GInv) (tt : TT) (ops : List Oper) : Recs → List A → List Blk → Prop
 | [], _, _ => True
 | (o, r) :: l, s, m => Gd ops o r s ∧ (r.ex = true → (∃ aid, Out P G tt o aid s m r.oc) ∧ Ref r.oc.v r.v) ∧ (r.ex = false → r.v = .tup [] ∧ r.oc.u = [] ∧ r.oc.rd = []) ∧
   Ch P G tt ops l (putD s o.dst r.v) (updB m r.oc.u)
def allS : Nat → Bool := fun _ => true
def fpOf (r : Rc) : Fp := (r.oc.rd, r.oc.u.map (·.1))

section
variable {c : Ctx} {P : Program} {tt : TT} {G : GInv} {ops : List Oper}

theorem runD_ch (rv : List (Nat × Nat)) : ∀ (rest : List Oper) (i aid : Nat) (s : List A) (m : List Blk) (K : List A → List Blk → List Fp → Prop), runD P G tt ops rv rest i aid s m K →
  ∃ l : Recs, l.map (·.1) = rest ∧ Ch P G tt ops l s m ∧ K (slS allS 0 l s) (blS allS 0 l m) (l.map fun p => fpOf p.2)
 | [], i, aid, s, m, K, h => ⟨[], rfl, trivial, h⟩
 | o :: rest, i, aid, s, m, K, h => by
  have shiftS : ∀ (l : Recs) (a b : Nat) (s : List A), slS allS a l s = slS allS b l s := by
   intro l; induction l with
   | nil => intros; rfl
   | cons p l ih => intro a b s; rw [slS, slS]; simp only [allS]; exact ih _ _ _
  have shiftB : ∀ (l : Recs) (a b : Nat) (m : List Blk), blS allS a l m = blS allS b l m := by
   intro l; induction l with
   | nil => intros; rfl
   | cons p l ih => intro a b s; rw [blS, blS]; simp only [allS]; exact ih _ _ _
  have exec : (stepV P G tt o aid s m fun v u rd => brk (isG i ops) v fun v' => putF s o.dst v' fun s' => updF m u fun m' =>
    fnat (nextAid rv i o.op aid) fun aid' => runD P G tt ops rv rest (i + 1) aid' s' m' fun s m fps => K s m ((rd, u.map (·.1)) :: fps)) → (∀ r : Rc, r.ex = true → Gd ops o r s) →
    ∃ l : Recs, l.map (·.1) = o :: rest ∧ Ch P G tt ops l s m ∧ K (slS allS 0 l s) (blS allS 0 l m) (l.map fun p => fpOf p.2) := by
   intro h hg
   obtain ⟨oc, h1, h2⟩ := stepV_out h
   have key : ∀ v', Ref oc.v v' → (putF s o.dst v' fun s' => updF m oc.u fun m' =>
     fnat (nextAid rv i o.op aid) fun aid' => runD P G tt ops rv rest (i + 1) aid' s' m' fun s m fps => K s m ((oc.rd, oc.u.map (·.1)) :: fps)) →
     ∃ l : Recs, l.map (·.1) = o :: rest ∧ Ch P G tt ops l s m ∧ K (slS allS 0 l s) (blS allS 0 l m) (l.map fun p => fpOf p.2) := by
    intro v' hr hh
    rw [putF_eq, updF_eq, fnat_eq] at hh
    obtain ⟨l, g1, g2, g3⟩ := runD_ch rv rest (i + 1) _ _ _ _ hh
    refine ⟨(o, ⟨true, oc, v'⟩) :: l, by simp [g1], ⟨hg _ rfl, fun _ => ⟨⟨aid, h1⟩, hr⟩, (fun h => by cases h), g2⟩, ?_⟩
    rw [slS, blS]
    simp only [allS, if_true, List.map_cons]
    rw [shiftS l (0 + 1) 0, shiftB l (0 + 1) 0]
    exact g3
   unfold brk at h2
   split at h2
   ·rename_i b hb he
    cases b
    ·exact key _ (.inr ⟨false, he, rfl⟩) (h2.2 rfl)
    ·exact key _ (.inr ⟨true, he, rfl⟩) (h2.1 rfl)
   ·rw [fv_eq] at h2; exact key _ (.inl rfl) h2
  have skip : (putF s o.dst (.tup []) fun s' => fnat (nextAid rv i o.op aid) fun aid' => runD P G tt ops rv rest (i + 1) aid' s' m fun s m fps => K s m (([], []) :: fps)) → (∀ r : Rc, r.ex = false → Gd ops o r s) →
    ∃ l : Recs, l.map (·.1) = o :: rest ∧ Ch P G tt ops l s m ∧ K (slS allS 0 l s) (blS allS 0 l m) (l.map fun p => fpOf p.2) := by
   intro hh hg
   rw [putF_eq, fnat_eq] at hh
   obtain ⟨l, g1, g2, g3⟩ := runD_ch rv rest (i + 1) _ _ _ _ hh
   refine ⟨(o, ⟨false, ⟨.junk, [], []⟩, .tup []⟩) :: l, by simp [g1], ⟨hg _ rfl, (fun h => by cases h), fun _ => ⟨rfl, rfl, rfl⟩, g2⟩, ?_⟩
   rw [slS, blS]
   simp only [allS, if_true, List.map_cons]
   rw [shiftS l (0 + 1) 0, shiftB l (0 + 1) 0]
   exact g3
  unfold runD at h
  simp only at h
  split at h
  ·rename_i hg
   exact exec h (fun r hr => by unfold Gd; rw [hg]; exact hr)
  ·rename_i j want hg
   unfold guardD at h
   split at h
   ·exact h.elim
   ·rename_i d hd
    split at h
    ·rename_i b hb
     have gd : ∀ r : Rc, r.ex = (b == want) → Gd ops o r s := by
      intro r hr; unfold Gd; rw [hg]; exact .inl ⟨d, b, hd, hb, hr⟩
     split at h
     ·exact exec h (fun r hr => gd r (by simp [hr]))
     ·exact exec h (fun r hr => gd r (by simp [hr]))
     ·exact skip h (fun r hr => gd r (by simp [hr]))
     ·exact skip h (fun r hr => gd r (by simp [hr]))
    ·rename_i vs hb
     split at h
     ·exact skip h (fun r hr => by unfold Gd; rw [hg]; exact .inr ⟨d, hd, hb, hr⟩)
     ·exact h.elim
    ·exact h.elim

/-- The chain at a place. -/
theorem Ch_get (l : Recs) (s : List A) (m : List Blk) (h : Ch P G tt ops l s m) (k : Nat) (o : Oper) (r : Rc) (hk : l[k]? = some (o, r)) :
  Gd ops o r (slS (fun j => decide (j < k)) 0 l s) ∧ (r.ex = true → (∃ aid, Out P G tt o aid (slS (fun j => decide (j < k)) 0 l s) (blS (fun j => decide (j < k)) 0 l m) r.oc) ∧ Ref r.oc.v r.v) ∧ (r.ex = false → r.v = .tup [] ∧ r.oc.u = [] ∧ r.oc.rd = []) := by
 have gen : ∀ (l : Recs) (i : Nat) (s : List A) (m : List Blk), Ch P G tt ops l s m → ∀ k o r, l[k]? = some (o, r) →
   Gd ops o r (slS (fun j => decide (j < i + k)) i l s) ∧ (r.ex = true → (∃ aid, Out P G tt o aid (slS (fun j => decide (j < i + k)) i l s) (blS (fun j => decide (j < i + k)) i l m) r.oc) ∧ Ref r.oc.v r.v) ∧ (r.ex = false → r.v = .tup [] ∧ r.oc.u = [] ∧ r.oc.rd = []) := by
  intro l
  induction l with
  | nil => intro i s m _ k o r h; simp at h
  | cons p l ih =>
   obtain ⟨o1, r1⟩ := p
   intro i s m hch k o r hk
   obtain ⟨h1, h2, h3, h4⟩ := hch
   cases k with
   | zero =>
    simp at hk
    obtain ⟨rfl, rfl⟩ := hk
    have e1 : ∀ (l : Recs) (j : Nat) (s : List A), i ≤ j → slS (fun j => decide (j < i + 0)) j l s = s := by
     intro l; induction l with
     | nil => intros; rfl
     | cons p l ih => intro j s hj; rw [slS]; simp only [show ¬ j < i + 0 by omega, decide_false]; exact ih _ _ (by omega)
    have e2 : ∀ (l : Recs) (j : Nat) (m : List Blk), i ≤ j → blS (fun j => decide (j < i + 0)) j l m = m := by
     intro l; induction l with
     | nil => intros; rfl
     | cons p l ih => intro j s hj; rw [blS]; simp only [show ¬ j < i + 0 by omega, decide_false]; exact ih _ _ (by omega)
    rw [e1 _ _ _ (Nat.le_refl _), e2 _ _ _ (Nat.le_refl _)]
    exact ⟨h1, h2, h3⟩
   | succ k =>
    have g1 := ih (i + 1) _ _ h4 k o r (by simpa using hk)
    rw [slS, blS]
    simp only [show i < i + (k + 1) by omega, decide_true, if_true]
    rw [show i + (k + 1) = i + 1 + k by omega]
    exact g1
 have := gen l 0 s m h k o r hk
 simpa using this
end
end Go.Proofs.YtnkbkfjgbejhfaaGreat.Am
namespace Go.Proofs.YtnkbkfjgbejhfaaGreat.Am
variable [Inhabited DRT]
open Go.RowKit (Below)
section
variable {c : Ctx} {P : Program} {tt : TT} {G : GInv} {ops : List Oper}

def listedS (L : Array Bool) : Nat → Bool := fun j => L.getD j false

structure Hyp (P : Program) (G : GInv) (tt : TT) (ops : List Oper) (l : Recs) (s : List A) (m : List Blk) : Prop where
 ops_eq : l.map (·.1) = ops
 ch : Ch P G tt ops l s m
 indep : indepB ops (l.map fun p => fpOf p.2) = true

theorem Hyp.op_get {l : Recs} {s : List A} {m : List Blk} (h : Hyp P G tt ops l s m) {k : Nat} {o : Oper} (hk : ops[k]? = some o) : ∃ r : Rc, l[k]? = some (o, r) := by
 rw [← h.ops_eq, List.getElem?_map] at hk
 cases hl : l[k]? with
 | none => rw [hl] at hk; cases hk
 | some p =>
  rw [hl] at hk
  simp at hk
  exact ⟨p.2, by rw [← hk]⟩
theorem Hyp.get_op {l : Recs} {s : List A} {m : List Blk} (h : Hyp P G tt ops l s m) {k : Nat} {o : Oper} {r : Rc} (hk : l[k]? = some (o, r)) : ops[k]? = some o := by
 rw [← h.ops_eq, List.getElem?_map, hk]; rfl

theorem masks_len : ∀ (os : List Oper) (acc : List Nat), (masks acc os).length = acc.length + os.length
 | [], acc => by simp [masks]
 | o :: os, acc => by rw [masks, masks_len os]; simp; omega

/-- Two operations that meet: the later one only behind the earlier one. -/
theorem Hyp.bound {l : Recs} {s : List A} {m : List Blk} (h : Hyp P G tt ops l s m) {S : Nat → Bool} (hS : DC S ops) {i j : Nat} {oi oj : Oper} {ri rj : Rc}
  (hi : l[i]? = some (oi, ri)) (hj : l[j]? = some (oj, rj)) (hlt : i < j) (hc : conf ops.toArray oi oj (fpOf ri) (fpOf rj) = true) (hSj : S j = true) : S i = true := by
 have hind := h.indep
 unfold indepB at hind
 rw [Bool.and_eq_true] at hind
 have hlen : l.length = ops.length := by rw [← h.ops_eq]; simp
 have hjl : j < l.length := by
  rcases Nat.lt_or_ge j l.length with h' | h'
  ·exact h'
  ·rw [List.getElem?_eq_none h'] at hj; cases hj
 have hmj : j < (masks [] ops).length := by rw [masks_len]; simp; omega
 have e1 : (ops.zip ((l.map fun p => fpOf p.2).zip (masks [] ops)))[j]? = some (oj, fpOf rj, (masks [] ops)[j]) := by
  rw [List.getElem?_zip_eq_some.2]
  refine ⟨h.get_op hj, ?_⟩
  rw [List.getElem?_zip_eq_some.2]
  refine ⟨?_, List.getElem?_eq_getElem hmj⟩
  rw [List.getElem?_map, hj]; rfl
 have e2 : ([] ++ (ops.zip ((l.map fun p => fpOf p.2).zip (masks [] ops))).map fun p => (p.1, p.2.1))[i]? = some (oi, fpOf ri) := by
  have hmi : i < (masks [] ops).length := by omega
  have : (ops.zip ((l.map fun p => fpOf p.2).zip (masks [] ops)))[i]? = some (oi, fpOf ri, (masks [] ops)[i]) := by
   rw [List.getElem?_zip_eq_some.2]
   refine ⟨h.get_op hi, ?_⟩
   rw [List.getElem?_zip_eq_some.2]
   refine ⟨?_, List.getElem?_eq_getElem hmi⟩
   rw [List.getElem?_map, hi]; rfl
  rw [List.nil_append, List.getElem?_map, this]; rfl
 have hbit := pairsB_spec _ [] hind.2 i j oi (fpOf ri) oj (fpOf rj) _ e2 e1 (by simpa using hlt) hc
 refine masks_bit ops [] (by intro j i hb; simp at hb) (fun j o ho hSj => hS j o ho (by simpa using hSj)) j i ?_ hSj
 rw [List.getD_eq_getElem?_getD, List.getElem?_eq_getElem hmj]
 exact hbit

/-- A place that is ready, in a state of some executed ones: the state's slots that it looks at are those of the text's order. -/
theorem Hyp.looks {l : Recs} {s : List A} {m : List Blk} (h : Hyp P G tt ops l s m) {S : Nat → Bool} (hS : DC S ops) {k : Nat} {o : Oper} {r : Rc} (hk : l[k]? = some (o, r)) (hn : S k = false)
  (hready : ∀ i, (∀ S' : Nat → Bool, DC S' ops → S' k = true → S' i = true) → i ≠ k → S i = true) :
  (∀ t, t ∈ o.looksAt ops.toArray → (slS S 0 l s).getD t .junk = (slS (fun j => decide (j < k)) 0 l s).getD t .junk) ∧
  (∀ b, b ∈ r.oc.rd ∨ (∃ x, r.oc.u.lookup b = some x) → (blS S 0 l m).getD b .dead = (blS (fun j => decide (j < k)) 0 l m).getD b .dead) := by
 constructor
 ·intro t ht
  refine slS_congr _ _ t l 0 s s rfl rfl ?_
  intro j o' r' hj hd
  rw [Nat.zero_add]
  rcases Nat.lt_trichotomy j k with hlt | rfl | hlt
  ·simp only [hlt, decide_true]
   refine hready j (fun S' hS' hk' => h.bound hS' hj hk hlt ?_ hk') (by omega)
   simp only [conf, Bool.or_eq_true]
   refine .inl (.inl (.inl (.inr ?_)))
   simp only [hitS, hd]; exact memN_iff.2 ht
  ·simp [hn]
  ·simp only [show ¬ j < k by omega, decide_false]
   cases hSj : S j with
   | false => rfl
   | true =>
    have := h.bound hS hk hj hlt (by
     simp only [conf, Bool.or_eq_true]
     refine .inl (.inl (.inl (.inl (.inl ?_))))
     simp only [hitS, hd]; exact memN_iff.2 ht) hSj
    rw [hn] at this; cases this
 ·intro b hb
  refine blS_congr _ _ b l 0 m m rfl rfl ?_
  intro j o' r' x hj hd
  rw [Nat.zero_add]
  have mem : ∀ {r : Rc} {b : Nat} {x : Blk}, r.oc.u.lookup b = some x → b ∈ (fpOf r).2 := by
   intro r b x hx
   have key : ∀ u : List (Nat × Blk), u.lookup b = some x → b ∈ u.map (·.1) := by
    intro u
    induction u with
    | nil => intro h; cases h
    | cons p u ih =>
     obtain ⟨b0, x0⟩ := p
     intro h
     rw [List.lookup_cons] at h
     split at h
     ·rename_i he; simp [eq_of_beq he]
     ·simp [ih h]
   exact key _ hx
  have meet : ∀ {l1 l2 : List Nat} {b : Nat}, b ∈ l1 → b ∈ l2 → meetL l1 l2 = true := by
   intro l1
   induction l1 with
   | nil => intro l2 b h; cases h
   | cons a l1 ih =>
    intro l2 b h1 h2
    unfold meetL
    split
    ·rfl
    ·rename_i hn
     rcases List.mem_cons.1 h1 with rfl | h1
     ·rw [memN_iff.2 h2] at hn; cases hn
     ·exact ih h1 h2
  have hw' : b ∈ (fpOf r').2 := mem hd
  rcases Nat.lt_trichotomy j k with hlt | rfl | hlt
  ·simp only [hlt, decide_true]
   refine hready j (fun S' hS' hk' => h.bound hS' hj hk hlt ?_ hk') (by omega)
   simp only [conf, Bool.or_eq_true]
   rcases hb with hb | ⟨x', hb⟩
   ·exact .inr (meet hw' hb)
   ·exact .inl (.inr (meet (mem hb) hw'))
  ·simp [hn]
  ·simp only [show ¬ j < k by omega, decide_false]
   cases hSj : S j with
   | false => rfl
   | true =>
    have := h.bound hS hk hj hlt (by
     simp only [conf, Bool.or_eq_true]
     rcases hb with hb | ⟨x', hb⟩
     ·exact .inl (.inl (.inr (meet hw' hb)))
     ·exact .inl (.inr (meet hw' (mem hb)))) hSj
    rw [hn] at this; cases this
theorem meetL_mem : ∀ {l1 l2 : List Nat} {b : Nat}, b ∈ l1 → b ∈ l2 → meetL l1 l2 = true := by
 intro l1
 induction l1 with
 | nil => intro l2 b h; cases h
 | cons a l1 ih =>
  intro l2 b h1 h2
  unfold meetL
  split
  ·rfl
  ·rename_i hn
   rcases List.mem_cons.1 h1 with rfl | h1
   ·rw [memN_iff.2 h2] at hn; cases hn
   ·exact ih h1 h2
theorem lookup_fp {r : Rc} {b : Nat} {x : Blk} (hx : r.oc.u.lookup b = some x) : b ∈ (fpOf r).2 := by
 have key : ∀ u : List (Nat × Blk), u.lookup b = some x → b ∈ u.map (·.1) := by
  intro u
  induction u with
  | nil => intro h; cases h
  | cons p u ih =>
   obtain ⟨b0, x0⟩ := p
   intro h
   rw [List.lookup_cons] at h
   split at h
   ·rename_i he; simp [eq_of_beq he]
   ·simp [ih h]
 exact key _ hx
end
end Go.Proofs.YtnkbkfjgbejhfaaGreat.Am
namespace Go.Proofs.YtnkbkfjgbejhfaaGreat.Am
variable [Inhabited DRT]
open Go.RowKit (Below)
section
variable {c : Ctx} {P : Program} {tt : TT} {G : GInv} {ops : List Oper} {Q : Exit → Act → World → Prop}

theorem Sim.refine {s : List A} {m : List Blk} {a : Act} {w : World} {ids : Ids} {d : Option Nat} {x y : A} (hs : Sim c (_root_.Go.Proofs.YtnkbkfjgbejhfaaGreat.Am.putD s d x) m a w ids) (hr : Ref x y) : Sim c (_root_.Go.Proofs.YtnkbkfjgbejhfaaGreat.Am.putD s d y) m a w ids := by
 rcases hr with rfl | ⟨b, rfl, rfl⟩
 ·exact hs
 ·cases d with
  | none => exact hs
  | some d =>
   have e : _root_.Go.Proofs.YtnkbkfjgbejhfaaGreat.Am.putD s (some d) (.bool b) = (_root_.Go.Proofs.YtnkbkfjgbejhfaaGreat.Am.putD s (some d) (.sb b)).set d (.bool b) := by simp [_root_.Go.Proofs.YtnkbkfjgbejhfaaGreat.Am.putD]
   rw [e]
   by_cases hd : d < s.length
   ·refine hs.reslot d ?_
    have := hs.ev (.tmp d)
    simp only [Am.ev, Act.eval] at this
    rw [show (_root_.Go.Proofs.YtnkbkfjgbejhfaaGreat.Am.putD s (some d) (.sb b)).getD d .junk = .sb b by simp [_root_.Go.Proofs.YtnkbkfjgbejhfaaGreat.Am.putD, List.getD_eq_getElem?_getD, hd]] at this
    rw [this.sb_inv]; exact .imm (.bool _)
   ·rw [List.set_eq_of_length_le (by simp [_root_.Go.Proofs.YtnkbkfjgbejhfaaGreat.Am.putD]; omega)]; exact hs

def unl (L : Array Bool) : Nat := L.toList.countP (!·)
theorem countP_set : ∀ (l : List Bool) (i : Nat) (hi : i < l.length), l[i] = false → (l.set i true).countP (!·) + 1 = l.countP (!·)
 | [], _, hi, _ => by simp at hi
 | x :: l, 0, _, hf => by simp at hf; subst hf; simp
 | x :: l, i + 1, hi, hf => by
  have := countP_set l i (by simpa using hi) (by simpa using hf)
  rw [List.set_cons_succ, List.countP_cons, List.countP_cons]
  omega
theorem unl_set {L : Array Bool} {i : Nat} (hi : i < L.size) (hf : L[i] = false) : unl (L.setIfInBounds i true) + 1 = unl L := by
 unfold unl
 rw [Array.toList_setIfInBounds]
 exact countP_set L.toList i (by simpa using hi) (by simpa using hf)

theorem backB_spec : ∀ (os : List Oper) (k : Nat), backB k os = true → ∀ j o, os[j]? = some o → ∀ e ∈ o.after, Region.binds .any e = true → e.on < k + j
 | [], _, _, j, o, h, _, _, _ => by simp at h
 | o1 :: os, k, h, j, o, hj, e, he, hb => by
  simp only [backB, Bool.and_eq_true, List.all_eq_true] at h
  cases j with
  | zero =>
   simp at hj; subst hj
   have := h.1 e (by simpa using he)
   simp [hb] at this; omega
  | succ j =>
   have := backB_spec os (k + 1) h.2 j o (by simpa using hj) e he hb
   omega

theorem any_sound (htt : TTok P tt) (hG : G.ok c) {l : Recs} {s : List A} {m : List Blk} (h : Hyp P G tt ops l s m)
  (hQ : ∀ a w ids, Sim c (slS allS 0 l s) (blS allS 0 l m) a w ids → Q .normal a w) :
  ∀ (fuel : Nat) (L : Array Bool) (a : Act) (w : World) (ids : Ids), L.size = ops.length → unl L ≤ fuel → DC (listedS L) ops →
   Sim c (slS (listedS L) 0 l s) (blS (listedS L) 0 l m) a w ids → wpAny P .any ops.toArray Q fuel L a w := by
 have hlen : l.length = ops.length := by rw [← h.ops_eq]; simp
 have hback : backB 0 ops = true := by have := h.indep; unfold indepB at this; rw [Bool.and_eq_true] at this; exact this.1
 have done : ∀ (L : Array Bool) (a : Act) (w : World) (ids : Ids), L.size = ops.length → Region.ready .any ops.toArray L = [] →
   Sim c (slS (listedS L) 0 l s) (blS (listedS L) 0 l m) a w ids → Q .normal a w := by
  intro L a w ids hL hr hs
  have all : ∀ j, j < ops.length → listedS L j = true := by
   intro j
   induction j using Nat.strongRecOn with
   | _ j ih =>
    intro hj
    cases hSj : listedS L j with
    | true => rfl
    | false =>
     exfalso
     have : j ∈ Region.ready .any ops.toArray L := by
      rw [mem_ready]
      have hjL : j < L.size := by omega
      refine ⟨?_, ops[j], by simp [hj], ?_⟩
      ·unfold listedS at hSj
       simp [Array.getD_eq_getD_getElem?, hjL] at hSj ⊢; exact hSj
      ·intro e he hb
       have := backB_spec ops 0 hback j ops[j] (List.getElem?_eq_getElem hj) e he hb
       exact ih e.on (by omega) (by omega)
     rw [hr] at this; cases this
  have e1 : slS (listedS L) 0 l s = slS allS 0 l s := by
   apply ext_getD (by simp [slS_len])
   intro t
   refine slS_congr _ _ t l 0 s s rfl rfl ?_
   intro j o r hj _
   have : j < l.length := by
    rcases Nat.lt_or_ge j l.length with h' | h'
    ·exact h'
    ·rw [List.getElem?_eq_none h'] at hj; cases hj
   simp only [Nat.zero_add, allS]; exact all j (by omega)
  have e2 : blS (listedS L) 0 l m = blS allS 0 l m := by
   apply ext_getB (by simp [blS_len])
   intro t
   refine blS_congr _ _ t l 0 m m rfl rfl ?_
   intro j o r x hj _
   have : j < l.length := by
    rcases Nat.lt_or_ge j l.length with h' | h'
    ·exact h'
    ·rw [List.getElem?_eq_none h'] at hj; cases hj
   simp only [Nat.zero_add, allS]; exact all j (by omega)
  rw [e1, e2] at hs
  exact hQ a w ids hs
 have one : ∀ (L : Array Bool) (a : Act) (w : World) (ids : Ids) (i : Nat), L.size = ops.length → DC (listedS L) ops →
   Sim c (slS (listedS L) 0 l s) (blS (listedS L) 0 l m) a w ids → i ∈ Region.ready .any ops.toArray L → ∀ K : Act → World → Prop,
   (∀ a w ids, DC (listedS (L.setIfInBounds i true)) ops → Sim c (slS (listedS (L.setIfInBounds i true)) 0 l s) (blS (listedS (L.setIfInBounds i true)) 0 l m) a w ids → K a w) → wpOp P ops.toArray Q i K a w := by
  intro L a w ids i hL hDC hs hi K hK
  rw [mem_ready] at hi
  obtain ⟨hiL, o, ho, hed⟩ := hi
  have hilt : i < L.size := by
   rcases Nat.lt_or_ge i L.size with h' | h'
   ·exact h'
   ·simp [Array.getD_eq_getD_getElem?, h'] at hiL
  have hSi : listedS L i = false := by
   unfold listedS; simp [Array.getD_eq_getD_getElem?, hilt] at hiL ⊢; exact hiL
  have ho' : ops[i]? = some o := by simpa using ho
  obtain ⟨r, hk⟩ := h.op_get ho'
  have hS' : ∀ j, listedS (L.setIfInBounds i true) j = (listedS L j || j == i) := by
   intro j
   unfold listedS
   by_cases hj : j = i
   ·subst hj; simp [Array.getD_eq_getD_getElem?, hilt]
   ·simp [Array.getD_eq_getD_getElem?, hj, Ne.symm hj]
  have hDC' : DC (listedS (L.setIfInBounds i true)) ops := by
   intro j oj hj hSj e he hb
   rw [hS'] at hSj ⊢
   rw [Bool.or_eq_true] at hSj ⊢
   rcases hSj with hSj | hSj
   ·exact .inl (hDC j oj hj hSj e he hb)
   ·have : j = i := by simpa using hSj
    subst this
    rw [ho'] at hj; cases hj
    exact .inl (hed e he hb)
  obtain ⟨hlk, hbk⟩ := h.looks hDC hk hSi (fun i' hi' hne => by
   have := hi' _ hDC' (by rw [hS']; simp)
   rw [hS', Bool.or_eq_true] at this
   rcases this with h1 | h1
   ·exact h1
   ·exact absurd (by simpa using h1) hne)
  obtain ⟨hgd, hex, hsk⟩ := Ch_get l s m h.ch i o r hk
  have hadd1 : slS (listedS (L.setIfInBounds i true)) 0 l s = putD (slS (listedS L) 0 l s) o.dst r.v :=
   slS_add _ _ l i s o r hk hS' hSi (fun j o' r' hj hjj hdd hne => by
    cases hSj : listedS L j with
    | false => rfl
    | true =>
     have := h.bound hDC hk hjj hj (by
      simp only [conf, Bool.or_eq_true]
      refine .inl (.inl (.inl (.inl (.inr ?_))))
      rw [hdd]
      cases hd : o.dst with
      | none => exact absurd hd hne
      | some d => simp only [sameS]; exact Nat.beq_refl _) hSj
     rw [hSi] at this; cases this)
  have hadd2 : blS (listedS (L.setIfInBounds i true)) 0 l m = updB (blS (listedS L) 0 l m) r.oc.u :=
   blS_add _ _ l i m o r hk hS' hSi (fun j o' r' b x x' hj hjj hu hu' => by
    cases hSj : listedS L j with
    | false => rfl
    | true =>
     have := h.bound hDC hk hjj hj (by
      simp only [conf, Bool.or_eq_true]
      exact .inl (.inr (meetL_mem (lookup_fp hu') (lookup_fp hu)))) hSj
     rw [hSi] at this; cases this)
  unfold wpOp
  rw [ho]
  simp only
  have wanted : Region.wanted o (yielded ops.toArray a.tmps) = r.ex := by
   unfold Region.wanted
   unfold Gd at hgd
   split at hgd
   ·rename_i hg; rw [hg]; simp [hgd]
   ·rename_i j want hg
    have hld : ∀ d, gslot ops j = some d → d ∈ o.looksAt ops.toArray := by
     intro d g1
     unfold Oper.looksAt
     rw [hg]
     have : (ops.toArray[j]?).bind (·.dst) = some d := by simpa [gslot] using g1
     simp only [this]
     simp
    rcases hgd with ⟨d, b, g1, g2, g3⟩ | ⟨d, g1, g2, g3⟩
    ·rw [hg]
     simp only
     have hev := hs.ev (.tmp d)
     simp only [ev, Act.eval] at hev
     rw [hlk d (hld d g1), g2] at hev
     rw [yielded_eq g1 hev.bool_inv, g3]
     cases b <;> cases want <;> rfl
    ·rw [hg]
     simp only
     have hev := hs.ev (.tmp d)
     simp only [ev, Act.eval] at hev
     rw [hlk d (hld d g1), g2] at hev
     obtain ⟨us, hu, hu2, _⟩ := hev.tup_inv
     have hu3 : us = [] := by simpa using hu2
     subst hu3
     have hy : yielded ops.toArray a.tmps j = none := by
      unfold yielded
      have h1 : (ops.toArray[j]?).bind (·.dst) = some d := by simpa [gslot] using g1
      rw [h1]
      rcases Nat.lt_or_ge d a.tmps.size with h | h
      ·have h2 : a.tmps[d]? = some (.tuple #[]) := by simpa [Array.getD_eq_getD_getElem?, h] using hu
       simp [h2]
      ·simp [h]
     rw [hy, g3]; rfl
  rw [wanted]
  cases hrex : r.ex with
  | false =>
   obtain ⟨q1, q2, q3⟩ := hsk hrex
   rw [if_neg (by simp)]
   refine hK _ w ids hDC' ?_
   rw [hadd1, hadd2, q1, q2]
   exact hs.putD o.dst (.imm (.tup [] [] rfl (fun _ h => by simp at h)))
  | true =>
   rw [if_pos rfl]
   obtain ⟨⟨aid', hout⟩, href⟩ := hex hrex
   left
   have hloc : Out P G tt o aid' (slS (listedS L) 0 l s) (blS (listedS L) 0 l m) r.oc := by
    refine hout.local ?_ ?_ (by simp [blS_len])
    ·intro x hx
     cases x with
     | tmp t =>
      have : t ∈ o.looksAt ops.toArray := by
       unfold Oper.looksAt
       refine List.mem_append.2 (.inl ?_)
       rw [List.mem_filterMap]
       exact ⟨.tmp t, by simpa using hx, rfl⟩
      simp only [ev]; exact (hlk t this).symm
     | const v => rfl
     | global g => rfl
     | func f => rfl
    ·intro b hb; exact (hbk b (.inl hb)).symm
   refine Out_sound htt hG hs hloc ?_
   intro a' w' ids' hs'
   refine hK a' w' ids' hDC' ?_
   rw [hadd1, hadd2]
   exact hs'.refine href
 intro fuel
 induction fuel with
 | zero =>
  intro L a w ids hL hu hDC hs
  have hr : Region.ready .any ops.toArray L = [] := by
   apply List.eq_nil_iff_forall_not_mem.2
   intro i hi
   rw [mem_ready] at hi
   obtain ⟨hiL, _⟩ := hi
   have hilt : i < L.size := by
    rcases Nat.lt_or_ge i L.size with h' | h'
    ·exact h'
    ·simp [Array.getD_eq_getD_getElem?, h'] at hiL
   have hf : L[i] = false := by simpa [Array.getD_eq_getD_getElem?, hilt] using hiL
   have := unl_set hilt hf
   omega
  exact ⟨hr, done L a w ids hL hr hs⟩
 | succ fuel ih =>
  intro L a w ids hL hu hDC hs
  refine ⟨fun hr => done L a w ids hL hr hs, ?_⟩
  intro i hi
  refine one L a w ids i hL hDC hs hi _ ?_
  intro a' w' ids' hDC' hs'
  refine ih _ a' w' ids' (by simp [hL]) ?_ hDC' hs'
  rw [mem_ready] at hi
  obtain ⟨hiL, _⟩ := hi
  have hilt : i < L.size := by
   rcases Nat.lt_or_ge i L.size with h' | h'
   ·exact h'
   ·simp [Array.getD_eq_getD_getElem?, h'] at hiL
  have hf : L[i] = false := by simpa [Array.getD_eq_getD_getElem?, hilt] using hiL
  have := unl_set hilt hf
  omega

def nAlloc : List Oper → Nat
 | [] => 0
 | o :: os => match isAlloc o.op with
  | true => nAlloc os + 1
  | false => nAlloc os
def nRv : List (Nat × Nat) → Nat
 | [] => 0
 | (_, n) :: l => n + nRv l
def extB : Nat → List Blk → (List Blk → Prop) → Prop
 | 0, m, K => K m
 | n + 1, m, K => appB m .dead fun m' => extB n m' K
theorem extB_eq : ∀ (n : Nat) (m : List Blk) (K : List Blk → Prop), extB n m K = K (m ++ List.replicate n .dead)
 | 0, m, K => by simp [extB]
 | n + 1, m, K => by rw [extB, appB_eq, extB_eq n]; simp [List.replicate_succ]

theorem WA_drawR (rv : List (Nat × Nat)) (htt : TTok P tt) (hm : P.follows .mixedOrders = true) {QA : Exit → List A → List Blk → Prop} {s : List A} {m : List Blk} {id : Nat} {l : List Oper}
  (h : extB (nAlloc l + nRv rv) m fun m' => fnat m.length fun b => runD P G tt l rv l 0 b s m' fun s' m'' fps => indepB l fps = true ∧ QA .normal s' m'') : WA P G (.region id l.toArray true) QA s m := by
 rw [extB_eq, fnat_eq] at h
 obtain ⟨recs, h1, h2, h3, h4⟩ := runD_ch rv l 0 _ _ _ _ h
 unfold WA
 intro c a w ids hG hs
 refine wp_region_any hm ?_
 have hb : Bw w.heap.size w { w with drawn := w.drawn + 1 } := ⟨rfl, rfl, rfl, Nat.le_refl _, fun _ _ => rfl, drLe.succ _⟩
 have hs' : Sim c s (m ++ List.replicate (nAlloc l + nRv rv) .dead) a { w with drawn := w.drawn + 1 } (ids ++ List.replicate (nAlloc l + nRv rv) .dead) := by
  refine hs.grow hb _ _ (by simp) ?_ ?_ ?_ ?_
  ·intro i g1 g2; simp only [List.getElem_replicate]; rfl
  ·intro p hp; rw [List.mem_replicate] at hp; cases hp.2
  ·intro p hp; rw [List.mem_replicate] at hp; cases hp.2
  ·intro i j p q x g1 g2 _ _; rw [List.getElem?_replicate] at g1; split at g1 <;> cases g1
 have hyp : Hyp P G tt l recs s (m ++ List.replicate (nAlloc l + nRv rv) .dead) := ⟨h1, h2, h3⟩
 have hz : ∀ j, listedS (Array.replicate l.toArray.size false) j = false := by
  intro j; unfold listedS; simp [Array.getD_eq_getD_getElem?, Array.getElem?_replicate]; split <;> rfl
 have hid1 : ∀ (r : Recs) (i : Nat) (s : List A), slS (listedS (Array.replicate l.toArray.size false)) i r s = s := by
  intro r; induction r with
  | nil => intros; rfl
  | cons p r ih => intro i s; rw [slS]; simp only [hz]; exact ih _ _
 have hid2 : ∀ (r : Recs) (i : Nat) (m : List Blk), blS (listedS (Array.replicate l.toArray.size false)) i r m = m := by
  intro r; induction r with
  | nil => intros; rfl
  | cons p r ih => intro i s; rw [blS]; simp only [hz]; exact ih _ _
 refine any_sound htt hG hyp (fun a w ids hs => ⟨_, _, ids, h4, hs⟩) _ _ a _ _ (by simp) ?_ ?_ (by rw [hid1, hid2]; exact hs')
 ·unfold unl; simp
  rw [List.countP_replicate]; simp
 ·intro j o _ hS; rw [hz] at hS; cases hS
theorem WA_draw (htt : TTok P tt) (hm : P.follows .mixedOrders = true) {QA : Exit → List A → List Blk → Prop} {s : List A} {m : List Blk} {id : Nat} {l : List Oper}
  (h : extB (nAlloc l) m fun m' => fnat m.length fun b => runD P G tt l [] l 0 b s m' fun s' m'' fps => indepB l fps = true ∧ QA .normal s' m'') : WA P G (.region id l.toArray true) QA s m := WA_drawR [] htt hm h
end
end Go.Proofs.YtnkbkfjgbejhfaaGreat.Am
namespace Go.Proofs.YtnkbkfjgbejhfaaGreat.Am
variable [Inhabited DRT]
open Go.RowKit (Below)
section
variable {c : Ctx} {s : List A} {m : List Blk} {a : Act} {w w' : World} {ids ids' : Ids} {P : Program} {im im' : Nat → Prop} {tt : TT} {G : GInv}
variable {next : Act → World → Prop} {Q : Exit → Act → World → Prop} {o : Oper}
/-- A row of ours is written no more: it is a value. -/
theorem WA_freeze {code : Code} {Q : Exit → List A → List Blk → Prop} (b : Nat) (h : frzF b s m fun s' m' => WA P G code Q s' m') : WA P G code Q s m := by
 unfold WA
 intro c a w ids hG hs
 obtain ⟨s', m', ids', h', hs'⟩ := frzF_sound hs h
 unfold WA at h'
 exact h' c a w ids' hG hs'

/-- A row of nil slices is a nest. -/
theorem WA_nest {code : Code} {Q : Exit → List A → List Blk → Prop} (b : Nat) (ety : TypeId) (sz : Nat) {ty : TypeId} {n : Nat} {row : Nat → List A} (hb : m.getD b .dead = .row ty 1 n row)
  (hz : ∀ i, i < n → row i = [.nils]) (h : setB m b (.nest ty ety sz n none (fun _ => 0) (fun _ _ => [])) fun m' => WA P G code Q s m') : WA P G code Q s m := by
 rw [setB_eq] at h
 unfold WA at h ⊢
 intro c a w ids hG hs
 obtain ⟨hbm, hm⟩ := getD_some (by simp) hb
 have hbi : b < ids.length := by rw [hs.mlen]; exact hbm
 have hB := hs.blks b hbm hbi
 rw [hm] at hB
 cases hp : ids[b] with
 | dead => rw [hp] at hB; exact hB.elim
 | stale => rw [hp] at hB; exact hB.elim
 | gho vs => rw [hp] at hB; exact hB.elim
 | virt =>
  rw [hp] at hB
  refine h c a w ids hG ⟨hs.defers, hs.len, hs.slots, by simp [hs.mlen], ?_, hs.distinctX, hs.freshX, hs.frame, hs.im0lt, hs.gho⟩
  intro k hk hk'
  rw [List.getElem_set]
  split
  ·rename_i he; subst he; rw [hp]; exact hB
  ·exact hs.blks k (by simpa using hk) hk'
 | lv p =>
  rw [hp] at hB
  have hid : ids[b]? = some (.lv p) := by rw [List.getElem?_eq_getElem hbi, hp]
  let p' : Id := ⟨p.blk, p.k, p.n, p.sz, fun _ => False, p.hist⟩
  have hp' : ∀ x, p'.has x → x = p.blk := fun x h => by
   rcases h with h | h
   ·exact h
   ·exact False.elim h
  have mem : ∀ (k : Nat) r, (ids.set b (.lv p'))[k]? = some (IdE.lv r) → (k = b ∧ r = p') ∨ (k ≠ b ∧ ids[k]? = some (.lv r)) := by
   intro k r h
   rw [List.getElem?_set] at h
   split at h
   ·rename_i e; subst e
    cases h; exact .inl ⟨rfl, rfl⟩
   ·rename_i hne; exact .inr ⟨fun e => hne e.symm, h⟩
  have hown : ∀ r, IdE.lv r ∈ ids.set b (.lv p') → ∀ x, r.has x → x < w.heap.size ∧ (w.heap.size ≤ x ∨ ∃ (b : Nat) (p : Id), ids[b]? = some (.lv p) ∧ p.has x) := by
   intro r hr x hx
   obtain ⟨k, hk⟩ := List.getElem?_of_mem hr
   rcases mem k r hk with ⟨_, rfl⟩ | ⟨_, e⟩
   ·rw [hp' x hx]; exact ⟨(hs.fresh p (List.mem_of_getElem? hid)).2, .inr ⟨b, p, hid, .inl rfl⟩⟩
   ·exact ⟨(hs.freshX r (List.mem_of_getElem? e) x hx).2, .inr ⟨k, r, e, hx⟩⟩
  obtain ⟨hi1, hi2⟩ := hs.im_stays (w' := w) (ids' := ids.set b (.lv p')) (Nat.le_refl _) (fun _ _ _ => rfl) hown
  have hd : ∀ (k : Nat) r, ids[k]? = some r → r ≠ .dead → ∃ q, (ids.set b (.lv p'))[k]? = some q ∧ likeE r q := by
   intro k r hr _
   rw [List.getElem?_set]
   split
   ·rename_i e; subst e
    rw [hid] at hr; cases hr
    exact ⟨_, rfl, p', rfl, rfl, rfl, rfl, rfl, fun _ _ h => h⟩
   ·exact ⟨r, hr, likeE_rfl r⟩
  refine h c a w _ hG (hs.goOn (ids' := ids.set b (.lv p')) rfl rfl rfl (Nat.le_refl _) (fun _ _ _ => rfl) hown (fun vs h => by
   rcases List.mem_or_eq_of_mem_set h with h | h
   ·exact h
   ·cases h) ?_ rfl (by simp [hs.mlen]) (fun i h h' => (hs.slots i h h').reid hi1 hi2 hd) ?_)
  ·intro k k' r r' x e1 e2 x1 x2
   rcases mem k r e1 with ⟨rfl, rfl⟩ | ⟨ne, e⟩ <;> rcases mem k' r' e2 with ⟨rfl, rfl⟩ | ⟨ne', e'⟩
   ·rfl
   ·exact absurd (hs.distinctX _ _ p r' x hid e' (.inl (hp' x x1)) x2).symm ne'
   ·exact absurd (hs.distinctX _ _ r p x e hid x1 (.inl (hp' x x2))) ne
   ·exact hs.distinctX k k' r r' x e e' x1 x2
  ·intro k hk hk'
   simp only [List.length_set] at hk hk'
   rw [List.getElem_set, List.getElem_set]
   split
   ·obtain ⟨g1, g2, vs, h1, h2, h3, h4, h5⟩ := hB
    refine ⟨g1, g2, (fun h => h.elim), vs, h1, h2, by rw [Nat.mul_one] at h3; exact h3, fun _ => none, ?_⟩
    intro i hi _ hiv
    refine ⟨.inl ⟨?_, rfl, rfl⟩, (fun x h => by cases h), (fun j _ _ _ h => absurd rfl h)⟩
    have := (h5 i 0 hi (by rw [h4 i hi]; omega) (by omega)).1
    simp only [hz i hi, List.getElem_cons_zero, Nat.mul_one, Nat.add_zero] at this
    exact (Rel.imm (ids := []) this).nils_inv
   ·exact (hs.blks k hk hk').reid hi1 hi2 hd (fun _ _ _ _ => rfl)
end
end Go.Proofs.YtnkbkfjgbejhfaaGreat.Am
namespace Go.Proofs.YtnkbkfjgbejhfaaGreat.Am
variable [Inhabited DRT]
open Go.RowKit (Below)

/-! ### A function that is handed blocks: its contract from its walk -/
def raw1 (tt : TT) (rv : ResultVar) (s : List A) (m : List Blk) (K : A → Prop) : Prop :=
 match rv with
 | .tmp t => fd 3 (s.getD t .junk) K
 | .cell p t => sLoad tt t (s.getD p .junk) m fun v _ => fd 3 v K
def rawL (tt : TT) : List ResultVar → List A → List Blk → (List A → Prop) → Prop
 | [], _, _, K => K []
 | r :: rs, s, m, K => raw1 tt r s m fun v => rawL tt rs s m fun vs => K (v :: vs)
def okS (m : List Blk) : List Nat → Bool
 | [] => true
 | b :: bs => match Nat.blt b m.length with
  | true => okS m bs
  | false => false
theorem okS_sound {m : List Blk} : ∀ {l : List Nat}, okS m l = true → ∀ b ∈ l, b < m.length
 | [], _, b, hb => by simp at hb
 | x :: xs, h, b, hb => by
  unfold okS at h
  split at h
  ·rename_i hx
   rcases List.mem_cons.1 hb with rfl | hb
   ·exact Nat.le_of_ble_eq_true hx
   ·exact okS_sound h b hb
  ·cases h
def finM (k : Nat) (m : List Blk) (rv : A) (r : A) (mo : List Blk) : Prop :=
 fNL (rangeN k 0 ++ ddN (rangeN k 0) (reach m 8 rv)) fun ρ => match okS m ρ, nodupB ρ with
  | true, true => fd 4 (renA (renAll (posN ρ 0)) 5 rv) fun rv' => fbs (ρ.map fun b => renB (renAll (posN ρ 0)) 4 (m.getD b .dead)) fun m' => fitS [rv'] m' [r] mo
  | _, _ => False
def retM (tt : TT) (fn : Func) (k : Nat) (r : A) (mo : List Blk) : Exit → List A → List Blk → Prop
 | .ret, s, m => rawL tt fn.results.toList s m fun vs => match vs with
  | [v] => finM k m v r mo
  | vs => finM k m (.tup vs) r mo
 | .normal, s, m => rawL tt fn.results.toList s m fun vs => match vs with
  | [v] => finM k m v r mo
  | vs => finM k m (.tup vs) r mo
 | _, _, _ => False

section
variable {c : Ctx} {s : List A} {m : List Blk} {a : Act} {w w' : World} {ids ids' : Ids} {P : Program} {im im' : Nat → Prop} {tt : TT} {G : GInv}

theorem raw1_run (htt : TTok P tt) (hs : Sim c s m a w ids) (rv : ResultVar) {K : A → Prop} (h : raw1 tt rv s m K) :
  ∃ r v, (resOf a.tmps rv).run P w = .ok v w ∧ K r ∧ Rel ids (imOf c ids w) w r v := by
 cases rv with
 | tmp t =>
  simp only [raw1, fd_eq] at h
  exact ⟨_, a.tmps.getD t undef, rfl, h, hs.ev (.tmp t)⟩
 | cell p t =>
  simp only [raw1, fd_eq] at h
  obtain ⟨ad, r, u, h1, h2, h3, h4⟩ := sLoad_run (P := P) htt hs (hs.ev (.tmp p)) h
  refine ⟨_, u, ?_, h3, h4⟩
  have h1 : a.tmps.getD p undef = .pointer (some ad) := h1
  show (do loadVar t (← asAddr (a.tmps.getD p undef)) : Sem Value).run P w = _
  rw [h1]
  simp [asAddr, h2]
theorem rawL_run (htt : TTok P tt) (hs : Sim c s m a w ids) : ∀ (rs : List ResultVar) {K : List A → Prop}, rawL tt rs s m K →
  ∃ (xs : List A) (vs : List Value), (rs.mapM (resOf a.tmps)).run P w = .ok vs w ∧ K xs ∧
   vs.length = xs.length ∧ ∀ j (h : j < xs.length) (h' : j < vs.length), Rel ids (imOf c ids w) w xs[j] vs[j]
 | [], K, h => ⟨[], [], by simp, h, rfl, fun j h => absurd h (Nat.not_lt_zero _)⟩
 | rv :: rs, K, h => by
  obtain ⟨r, v, h1, h2, h3⟩ := raw1_run (P := P) htt hs rv h
  obtain ⟨xs, vs, g1, g2, g3, g4⟩ := rawL_run htt hs rs h2
  refine ⟨r :: xs, v :: vs, ?_, g2, by simp [g3], ?_⟩
  ·rw [List.mapM_cons]
   simp only [Sem.run_bind, h1, Result.andThen_ok, g1]
   rfl
  ·intro j hj hj'
   cases j with
   | zero => exact h3
   | succ j => exact g4 j (by simpa using hj) (by simpa using hj')

/-- Some blocks alone, and one value. -/
theorem Sim.sub (hs : Sim c s m a w ids) {ρ : List Nat} (hnd : ρ.Nodup) (hok : ∀ b ∈ ρ, b < m.length) {x : A} {v : Value} (hx : Rel ids (imOf c ids w) w x v) :
  Sim c [renA (renAll (posN ρ 0)) 5 x] (ρ.map fun b => renB (renAll (posN ρ 0)) 4 (m.getD b .dead)) ⟨#[v], []⟩ w (ρ.map fun b => ids.getD b .dead) := by
 have idAt : ∀ b, b ∈ ρ → ∃ p, ids[b]? = some p ∧ ids.getD b .dead = p ∧ BRel ids (imOf c ids w) w (m.getD b .dead) p := by
  intro b hb
  obtain ⟨p, h1, h2⟩ := hs.blk_id (hok b hb)
  exact ⟨p, h1, by rw [List.getD_eq_getElem?_getD, h1]; rfl, h2⟩
 have idcAt : ∀ (j : Nat) b, ρ[j]? = some b → (ρ.map fun b => ids.getD b .dead)[j]? = ids[b]? := by
  intro j b hj
  obtain ⟨p, h1, h2, _⟩ := idAt b (List.mem_of_getElem? hj)
  rw [List.getElem?_map, hj, h1]
  simp only [Option.map_some, h2]
 have idcInv : ∀ (i : Nat) p, (ρ.map fun b => ids.getD b .dead)[i]? = some p → ∃ b, ρ[i]? = some b ∧ ids[b]? = some p := by
  intro i p hi
  cases hj : ρ[i]? with
  | none => rw [List.getElem?_map, hj] at hi; cases hi
  | some b => exact ⟨b, rfl, by rw [← idcAt i b hj]; exact hi⟩
 have hτ : RenOk (renAll (posN ρ 0)) ids (ρ.map fun b => ids.getD b .dead) := by
  have key : ∀ b b', posN ρ 0 b = some b' → (ρ.map fun b => ids.getD b .dead)[b']? = ids[b]? := by
   intro b b' hb
   obtain ⟨h1, h2⟩ := posN_some _ _ _ _ hb
   exact idcAt _ _ (by simpa using h2)
  exact ⟨fun b b' p h1 h2 => ⟨p, by rw [key b b' h1]; exact h2, rfl⟩, fun b b' p h1 h2 _ => ⟨p, by rw [key b b' h1]; exact h2, likeE0_rfl p⟩, fun b b' p h1 h2 => ⟨p, by rw [key b b' h1]; exact h2, rfl⟩, fun b b' h1 h2 => by rw [key b b' h1]; exact h2, fun b b' h1 h2 => by rw [key b b' h1]; exact h2⟩
 have hi : ∀ b, imOf c ids w b → imOf c (ρ.map fun b => ids.getD b .dead) w b := by
  rintro b (h | ⟨h1, h2, h3⟩)
  ·exact .inl h
  ·refine .inr ⟨h1, h2, fun p hp => ?_⟩
   obtain ⟨i, hi⟩ := List.getElem?_of_mem hp
   obtain ⟨b', _, h5⟩ := idcInv i _ hi
   exact h3 p (List.mem_of_getElem? h5)
 refine ⟨rfl, rfl, ?_, by simp, ?_, ?_, ?_, hs.frame, hs.im0lt, ?_⟩
 ·intro i h1 h2
  have : i = 0 := by simp at h1; omega
  subst this
  exact renA_rel hi (fun _ _ => rfl) hτ 5 _ _ hx
 ·intro i h1 h2
  have hil : i < ρ.length := by simpa using h1
  obtain ⟨p, q1, q2, q3⟩ := idAt ρ[i] (List.getElem_mem hil)
  rw [List.getElem_map, List.getElem_map, q2]
  exact renB_rel hi (fun _ _ => rfl) hτ 4 (fun _ _ _ _ => rfl) q3
 ·intro i j p q x h1 h2 h3 h4
  obtain ⟨b1, e1, e2⟩ := idcInv i _ h1
  obtain ⟨b2, e3, e4⟩ := idcInv j _ h2
  have := hs.distinctX b1 b2 p q x e2 e4 h3 h4
  subst this
  exact (List.getElem?_inj (lt_of_get e1) hnd).1 (e1.trans e3.symm)
 ·intro p hp x hx
  obtain ⟨i, hi⟩ := List.getElem?_of_mem hp
  obtain ⟨b, _, h3⟩ := idcInv i _ hi
  exact hs.freshX p (List.mem_of_getElem? h3) x hx
 ·intro vs hv
  obtain ⟨i, hi⟩ := List.getElem?_of_mem hv
  obtain ⟨b, _, h3⟩ := idcInv i _ hi
  exact hs.gho vs (List.mem_of_getElem? h3)

theorem finM_sound (hs : Sim c s m a w ids) {k : Nat} {rv r : A} {mo : List Blk} {v : Value} (hx : Rel ids (imOf c ids w) w rv v) (h : finM k m rv r mo) : ∃ ids', Sim c [r] mo ⟨#[v], []⟩ w ids' := by
 unfold finM at h
 rw [fNL_eq] at h
 split at h
 ·rename_i h1 h2
  rw [fd_eq, fbs_eq] at h
  exact WkS_of_fit h _ _ _ _ (hs.sub (nodupB_sound h2) (okS_sound h1) hx)
 ·exact h.elim

theorem retM_body (htt : TTok P tt) (hs : Sim c s m a w ids) {fn : Func} {k : Nat} {r : A} {mo : List Blk} (h : rawL tt fn.results.toList s m fun vs => match vs with
  | [v] => finM k m v r mo
  | vs => finM k m (.tup vs) r mo) : ∃ v ids', (results fn a.tmps).run P w = .ok v w ∧ Sim c [r] mo ⟨#[v], []⟩ w ids' := by
 obtain ⟨xs, vs, h1, h2, h3, h4⟩ := rawL_run (P := P) htt hs _ h
 have hrun := results_run (P := P) (a := a) h1
 split at h2
 ·rename_i x
  have : vs.length = 1 := by simpa using h3
  match vs, this with
  | [v], _ =>
   obtain ⟨ids', hs'⟩ := finM_sound hs (h4 0 (by simp) (by simp)) h2
   exact ⟨v, ids', hrun, hs'⟩
 ·rename_i hne
  have hne : ¬ vs.length = 1 := by
   intro e
   rw [e] at h3
   match xs, h3 with
   | [x], _ => exact hne x rfl
  rw [dif_neg (by simpa using hne)] at hrun
  obtain ⟨ids', hs'⟩ := finM_sound hs (.tup xs vs h3 h4) h2
  exact ⟨_, ids', hrun, hs'⟩

theorem MCalls.of_WA (htt : TTok P tt) {f : FuncId} {fn : Func} {cd : Code} {args : List A} {mi : List Blk} {r : A} {mo : List Blk} (hf : P.funcs[f]? = some fn) (hb : fn.body = some cd)
  (hn : (fn.name == "runtime.NumGoroutine") = false) (k : Nat) (hk : fn.ntmps - args.length = k)
  (h : fl (args ++ List.replicate k .junk) fun s => fnat mi.length fun n => WA P G cd (retM tt fn n r mo) s mi) : MCalls P G f args mi r mo := by
 rw [fl_eq, fnat_eq] at h
 refine ⟨⟨fn, cd, hf, hb, hn⟩, ?_⟩
 intro im w vs gs ids hG hs
 refine calls_of_wp hf hb ?_
 unfold WA at h
 have hl : vs.length = args.length := by have := hs.len; simpa using this
 have hsim : Sim ⟨w, im, muOf ids, gs⟩ (args ++ List.replicate k .junk) mi ⟨vs.toArray ++ Array.replicate (fn.ntmps - vs.toArray.size) undef, []⟩ w ids := by
  refine ⟨rfl, by simp [hl, hk], ?_, hs.mlen, hs.blks, hs.distinctX, hs.freshX, hs.frame, hs.im0lt, hs.gho⟩
  intro i h1 h2
  by_cases hi : i < args.length
  ·rw [List.getElem_append_left hi, Array.getElem_append_left (by simp; omega)]
   exact hs.slots i hi (by simp; omega)
  ·rw [List.getElem_append_right (by omega)]
   simp only [List.getElem_replicate]
   exact .imm (.junk _)
 refine wp_mono (h ⟨w, im, muOf ids, gs⟩ _ w ids hG hsim) ?_
 rintro e a' w' ⟨s', m', ids', hq, hs'⟩
 cases e with
 | ret =>
  obtain ⟨v, ids2, h1, h2⟩ := retM_body (P := P) htt hs' hq
  exact ⟨hs'.defers, v, h1, v, ids2, rfl, h2⟩
 | normal =>
  obtain ⟨v, ids2, h1, h2⟩ := retM_body (P := P) htt hs' hq
  exact ⟨hs'.defers, v, h1, v, ids2, rfl, h2⟩
 | _ => exact hq.elim

/-- A contract serves a state that may be taken for its own. -/
theorem MCalls.fit {f : FuncId} {args args' : List A} {mi mi' : List Blk} {r : A} {mo : List Blk} (h : MCalls P G f args mi r mo) (hl : mi'.length = mi.length) (hf : fitS args' mi' args mi) : MCalls P G f args' mi' r mo := by
 refine ⟨h.1, ?_⟩
 intro im w vs gs ids hG hs
 have hs' := hs.fit hf
 rw [List.take_of_length_le (by rw [hs.mlen, hl]; exact Nat.le_refl _)] at hs'
 exact h.2 im w vs gs ids hG hs'
end
end Go.Proofs.YtnkbkfjgbejhfaaGreat.Am
namespace Go.Proofs.YtnkbkfjgbejhfaaGreat.Am
variable [Inhabited DRT]
/-- What a branch's test says, in plain words: all rules as one. -/
theorem brsA : (∀ (p : Prop) [Decidable p], (decide p = true) = p) ∧ (∀ (p : Prop) [Decidable p], (decide p = false) = ¬ p) ∧ (∀ (α : Type) [BEq α] [LawfulBEq α] (a b : α), ((a == b) = true) = (a = b)) ∧
  (∀ (α : Type) [BEq α] [LawfulBEq α] (a b : α), ((a == b) = false) = (a ≠ b)) ∧ (∀ (α : Type) [BEq α] [LawfulBEq α] (a b : α), ((a != b) = true) = (a ≠ b)) ∧ (∀ (α : Type) [BEq α] [LawfulBEq α] (a b : α), ((a != b) = false) = (a = b)) ∧
  (∀ (α : Type) (a b : α), (a ≠ b) = ¬ (a = b)) ∧ (∀ b : Bool, ((!b) = true) = (b = false)) ∧ (∀ b : Bool, ((!b) = false) = (b = true)) ∧ (∀ b : Bool, (¬ b = true) = (b = false)) ∧ (∀ (p : Prop) [Decidable p], (¬ ¬ p) = p) :=
 ⟨fun _ _ => by simp, fun _ _ => by simp, fun _ _ _ _ _ => by simp, fun _ _ _ _ _ => by simp, fun _ _ _ _ _ => by simp, fun _ _ _ _ _ => by simp, fun _ _ _ => rfl, fun _ => by simp, fun _ => by simp, fun _ => by simp, fun _ _ => by simp⟩
theorem brsD : (∀ n : Nat, (n : Int).toNat = n) ∧ (∀ a b : Bool, ((a && b) = true) = (a = true ∧ b = true)) ∧ (∀ a b : Bool, ((a || b) = true) = (a = true ∨ b = true)) ∧ (∀ b : Bool, ((!b) = true) = (b = false)) ∧
  (∀ a b : Bool, ((a && b) = false) = (a = false ∨ b = false)) ∧ (∀ a b : Bool, ((a || b) = false) = (a = false ∧ b = false)) ∧ (∀ (p : Prop) [Decidable p], (decide p = true) = p) ∧ (∀ (p : Prop) [Decidable p], (decide p = false) = ¬ p) :=
 ⟨fun _ => by simp, fun _ _ => by simp, fun _ _ => by simp, fun _ => by simp, fun a b => by cases a <;> cases b <;> simp, fun _ _ => by simp, fun _ _ => by simp, fun _ _ => by simp⟩
end Go.Proofs.YtnkbkfjgbejhfaaGreat.Am
namespace Go.Proofs.YtnkbkfjgbejhfaaGreat.Am
variable [Inhabited DRT]
/-! ### Short names for what the walks say most often -/
section
variable {P : Program} {G : GInv} {tt : TT} {Q : Exit → List A → List Blk → Prop} {s : List A} {m : List Blk}
theorem sq {x y : Code} (h : WA P G x (thenA (WA P G y Q) Q) s m) : WA P G (.seq x y) Q s m := WA_seq h
theorem bk {id : Nat} {x : Code} (h : WA P G x (blockA id Q) s m) : WA P G (.block id x) Q s m := WA_block h
theorem cd {t : Operand} {x y : Code} (h : condA (ev s t) (WA P G x Q s m) (WA P G y Q s m)) : WA P G (.cond t x y) Q s m := WA_cond h
theorem sk (h : Q .normal s m) : WA P G .skip Q s m := WA_skip h
theorem xt {id : Nat} (h : Q (.exit id) s m) : WA P G (.exit id) Q s m := WA_exit h
theorem rt (h : Q .ret s m) : WA P G .ret Q s m := WA_ret h
theorem rg (htt : TTok P tt) {id : Nat} {l : List Oper} (h : runL P G tt l l s m (Q .normal)) : WA P G (.region id l.toArray false) Q s m := WA_region htt h
theorem dw (htt : TTok P tt) (hm : P.follows .mixedOrders = true) {id : Nat} {l : List Oper}
  (h : extB (nAlloc l) m fun m' => fnat m.length fun b => runD P G tt l [] l 0 b s m' fun s' m'' fps => indepB l fps = true ∧ Q .normal s' m'') : WA P G (.region id l.toArray true) Q s m := WA_draw htt hm h
end
theorem wf {k : IntKind} {n : Int} {K : A → Prop} (h2 : K (.int k n)) (h1 : k.wrap n = n := by first | exact wr_i64 (by omega) | exact wr_u64 (by omega) | exact wr_u8 (by omega) | exact wr_i32 (by omega) | exact wr_u32 (by omega)) : WR k n K := WR_fit h1 h2
theorem wp' {k : IntKind} {n : Int} {K : A → Prop} (h : K (.int k (k.wrap n))) : WR k n K := WR_wrap h
theorem ai {l : List Oper} {f : List Fp} {q : Prop} (h2 : q) (h1 : indepB l f = true := by kernel_rfl) : indepB l f = true ∧ q := ⟨h1, h2⟩
theorem an {p q : Prop} (h2 : q) (h1 : p := by first | omega | decide | (dsimp only; omega) | (simp at *; omega)) : p ∧ q := ⟨h1, h2⟩
theorem fa {p : Prop} (h : p := by first | exact rfl | exact trivial | exact Or.inl (fun _ _ => rfl) | exact (fun _ => rfl) | exact (fun _ _ => rfl) | exact Or.inl (fun _ hi => absurd hi (Nat.not_lt_zero _))) : p := h
theorem fb {p q : Prop} (h2 : q) (h : p := by first | exact rfl | exact Or.inl (fun _ _ => rfl) | exact (fun _ => rfl) | exact (fun _ _ => rfl)) : p ∧ q := ⟨h, h2⟩
end Go.Proofs.YtnkbkfjgbejhfaaGreat.Am

/-
  THE ENGINE, part 3: fits, loops, contracts, the frame of a law.
-/
import Derived.Test.YtfhdmhoeopbhnaaDoorAm2
import Derived.ProofKit
import Derived.LaidMore
import Derived.OpenShut
import Derived.Stop.Joined
namespace Go.Proofs.YtfhdmhoeopbhnaaDoor.Am
open Go.RowKit (Below)

def andL : List Prop → Prop
  | [] => True
  | [p] => p
  | p :: q :: ps => p ∧ andL (q :: ps)
theorem andL_cons {p : Prop} {ps : List Prop} : andL (p :: ps) ↔ p ∧ andL ps := by
  cases ps <;> simp [andL]
theorem andL_append {ps qs : List Prop} : andL (ps ++ qs) ↔ andL ps ∧ andL qs := by
  induction ps with
  | nil => simp [andL]
  | cons p ps ih => rw [List.cons_append, andL_cons, andL_cons, ih, and_assoc]

/-- What must hold that the first value may be taken for the second one, where blocks from n on are forgotten. -/
def fitA : Nat → Nat → A → A → List Prop
  | 0, _, _, y => match y with
    | .junk => []
    | _ => [False]
  | d + 1, n, x, y => match y with
    | .junk => []
    | .int k b => match x with
      | .int k' a => match kindEq k' k with
        | true => [a = b]
        | false => [False]
      | _ => [False]
    | .bool b => match x with
      | .bool a => [a = b]
      | .sb a => [a = b]
      | _ => [False]
    | .sb b => match x with
      | .bool a => [a = b]
      | .sb a => [a = b]
      | _ => [False]
    | .str b => match x with
      | .str a => [a = b]
      | _ => [False]
    | .nilp => match x with
      | .nilp => []
      | _ => [False]
    | .nils => match x with
      | .nils => []
      | _ => [False]
    | .nilfn => match x with
      | .nilfn => []
      | _ => [False]
    | .ref b o => match x with
      | .ref b' o' => match Nat.beq b' b, Nat.beq o' o, Nat.blt b n with
        | true, true, true => []
        | _, _, _ => [False]
      | _ => [False]
    | .oref b i o => match x with
      | .oref b' i' o' => match Nat.beq b' b, Nat.blt b n with
        | true, true => [i' = i, o' = o]
        | _, _ => [False]
      | _ => [False]
    | .own b => match x with
      | .own b' => match Nat.beq b' b, Nat.blt b n with
        | true, true => []
        | _, _ => [False]
      | _ => [False]
    | .sl n' sz' row' => match x with
      | .sl n1 sz row => match Nat.beq sz sz' with
        | true => [n1 = n', ∀ i, i < n1 → row i = row' i]
        | false => [False]
      | .nils => [n' = 0]
      | _ => [False]
    | .bref cs' o' => match x with
      | .bref cs o => [cs = cs', o = o']
      | _ => [False]
    | .agg cs' => match x with
      | .agg cs => fitL d n cs cs'
      | _ => [False]
    | .tup cs' => match x with
      | .tup cs => fitL d n cs cs'
      | _ => [False]
    | .fn f' cs' => match x with
      | .fn f cs => match Nat.beq f f' with
        | true => fitL d n cs cs'
        | false => [False]
      | _ => [False]
where fitL (d n : Nat) : List A → List A → List Prop
  | [], [] => []
  | x :: xs, y :: ys => fitA d n x y ++ fitL d n xs ys
  | _, _ => [False]
def fitB (n : Nat) (x y : Blk) : List Prop :=
  match x, y with
  | .box ty cs, .box ty' cs' => match Nat.beq ty ty' with
    | true => fitA.fitL 4 n cs cs'
    | false => [False]
  | .row ty sz n1 row, .row ty' sz' n1' row' => match Nat.beq ty ty', Nat.beq sz sz' with
    | true, true => [n1 = n1', ∀ i, i < n1 → row i = row' i]
    | _, _ => [False]
  | .dead, .dead => []
  | _, _ => [False]
def fitBs (n : Nat) : List Blk → List Blk → List Prop
  | _, [] => []
  | x :: xs, y :: ys => fitB n x y ++ fitBs n xs ys
  | [], _ :: _ => [False]
/-- The first state may be taken for the second. -/
def fitS (s : List A) (m : List Blk) (s' : List A) (m' : List Blk) : Prop := andL (fitA.fitL 5 m'.length s s' ++ fitBs m'.length m m')

section
variable {c : Ctx} {s : List A} {m : List Blk} {a : Act} {w w' : World} {ids ids' : Ids} {P : Program} {im im' : Nat → Prop} {tt : TT} {G : GInv}

theorem RelI.up (hi : ∀ b, im b → im' b) {x : A} {v : Value} (h : RelI im w x v) : RelI im' w x v := h.mono hi (fun _ _ => rfl)

theorem fitL_len : ∀ (d n : Nat) (xs ys : List A), andL (fitA.fitL d n xs ys) → xs.length = ys.length
  | _, _, [], [], _ => rfl
  | d, n, x :: xs, y :: ys, h => by
    rw [fitA.fitL, andL_append] at h
    simp [fitL_len d n xs ys h.2]
  | _, _, [], _ :: _, h => by simp [fitA.fitL, andL] at h
  | _, _, _ :: _, [], h => by simp [fitA.fitL, andL] at h
theorem fitL_get : ∀ (d n : Nat) (xs ys : List A), andL (fitA.fitL d n xs ys) → ∀ j (h : j < xs.length) (h' : j < ys.length), andL (fitA d n xs[j] ys[j])
  | _, _, [], _, _, j, h, _ => by simp at h
  | _, _, _ :: _, [], _, j, _, h' => by simp at h'
  | d, n, x :: xs, y :: ys, h, j, h1, h2 => by
    rw [fitA.fitL, andL_append] at h
    cases j with
    | zero => exact h.1
    | succ j => exact fitL_get d n xs ys h.2 j (by simpa using h1) (by simpa using h2)

theorem take_get {n b : Nat} {p : IdE} (h : ids[b]? = some p) (hb : b < n) : (ids.take n)[b]? = some p := by
  rw [List.getElem?_take, if_pos hb]; exact h

theorem fitA_rel (hi : ∀ b, im b → im' b) {n : Nat} : ∀ (d : Nat) (x y : A) (v : Value), andL (fitA d n x y) → Rel ids im w x v → Rel (ids.take n) im' w y v
  | 0, x, y, v, h, hr => by
    cases y <;> simp [fitA, andL] at h
    exact .imm (.junk _)
  | d + 1, x, y, v, h, hr => by
    have lists : ∀ cs cs' : List A, andL (fitA.fitL d n cs cs') → cs.length = cs'.length ∧ ∀ (us : List Value), (∀ j (h : j < cs.length) (h' : j < us.length), Rel ids im w cs[j] us[j]) → ∀ j (h : j < cs'.length) (h' : j < us.length), Rel (ids.take n) im' w cs'[j] us[j] := by
      intro cs cs' h
      have hl := fitL_len _ _ _ _ h
      refine ⟨hl, fun us hus j h1 h2 => fitA_rel hi d _ _ _ (fitL_get _ _ _ _ h j (by omega) h1) (hus j (by omega) h2)⟩
    unfold fitA at h
    split at h
    · exact .imm (.junk _)
    · split at h
      · split at h
        · rename_i hk; rw [kindEq_iff] at hk; subst hk
          have h : _ = _ := h
          subst h; rw [hr.int_inv]; exact .imm (.int _ _)
        · exact h.elim
      · exact h.elim
    · split at h
      · have h : _ = _ := h
        subst h; rw [hr.bool_inv]; exact .imm (.bool _)
      · have h : _ = _ := h
        subst h; rw [hr.sb_inv]; exact .imm (.bool _)
      · exact h.elim
    · split at h
      · have h : _ = _ := h
        subst h; rw [hr.bool_inv]; exact .imm (.sb _)
      · have h : _ = _ := h
        subst h; rw [hr.sb_inv]; exact .imm (.sb _)
      · exact h.elim
    · split at h
      · have h : _ = _ := h
        subst h; rw [hr.str_inv]; exact .imm (.str _)
      · exact h.elim
    · split at h
      · rw [hr.nilp_inv]; exact .imm .nilp
      · exact h.elim
    · split at h
      · rw [hr.nils_inv]; exact .imm .nils
      · exact h.elim
    · split at h
      · cases hr with | imm hr => cases hr; exact .imm .nilfn
      · exact h.elim
    · split at h
      · split at h
        · rename_i h1 h2 h3
          have h1 := Nat.eq_of_beq_eq_true h1
          have h2 := Nat.eq_of_beq_eq_true h2
          subst h1; subst h2
          obtain ⟨p, g1, rfl⟩ := hr.ref_inv
          exact .ref _ _ p (take_get g1 (Nat.le_of_ble_eq_true h3))
        · exact h.elim
      · exact h.elim
    · split at h
      · split at h
        · rename_i h1 h3
          have h1 := Nat.eq_of_beq_eq_true h1
          subst h1
          obtain ⟨e1, e2⟩ := h
          subst e1; subst e2
          obtain ⟨p, g1, rfl⟩ := hr.oref_inv
          exact .oref _ _ _ p (take_get g1 (Nat.le_of_ble_eq_true h3))
        · exact h.elim
      · exact h.elim
    · split at h
      · split at h
        · rename_i h1 h3
          have h1 := Nat.eq_of_beq_eq_true h1
          subst h1
          rcases hr.own_inv with ⟨g1, rfl⟩ | ⟨p, cap, g1, g2, g3, rfl⟩
          · exact .own0 _ (take_get g1 (Nat.le_of_ble_eq_true h3))
          · exact .own _ cap p (take_get g1 (Nat.le_of_ble_eq_true h3)) g2 g3
        · exact h.elim
      · exact h.elim
    · split at h
      · split at h
        · rename_i h1
          have h1 := Nat.eq_of_beq_eq_true h1
          subst h1
          obtain ⟨e1, e2⟩ := h
          subst e1
          cases hr with
          | imm hr =>
            cases hr with
            | sl0 => exact .imm (.sl0 _ _)
            | sl _ _ _ blk base cap vs hb hcap hl hc ho hr =>
              refine .imm (.sl _ _ _ blk base cap vs (hi _ hb) hcap (fun i h => by rw [← e2 i h]; exact hl i h) hc ho ?_)
              intro i j hij hj
              have := hr i j hij (by rw [e2 i hij]; exact hj)
              simp only [e2 i hij] at this
              exact this.up hi
        · exact h.elim
      · have h : _ = _ := h
        subst h
        rw [hr.nils_inv]; exact .imm (.sl0 _ _)
      · exact h.elim
    · split at h
      · obtain ⟨e1, e2⟩ := h
        subst e1; subst e2
        cases hr with | imm hr => exact .imm (hr.up hi)
      · exact h.elim
    · split at h
      · obtain ⟨hl, hg⟩ := lists _ _ h
        obtain ⟨us, rfl, u2, u3, u4⟩ := hr.agg_inv
        exact .agg _ us (by omega) u3 (hg us u4)
      · exact h.elim
    · split at h
      · obtain ⟨hl, hg⟩ := lists _ _ h
        obtain ⟨us, rfl, u2, u4⟩ := hr.tup_inv
        exact .tup _ us (by omega) (hg us u4)
      · exact h.elim
    · split at h
      · split at h
        · rename_i h1
          have h1 := Nat.eq_of_beq_eq_true h1
          subst h1
          obtain ⟨hl, hg⟩ := lists _ _ h
          obtain ⟨us, rfl, u2, u4⟩ := hr.fn_inv
          exact .fn _ _ us (by omega) (hg us u4)
        · exact h.elim
      · exact h.elim

theorem fitBs_len : ∀ (n : Nat) (xs ys : List Blk), andL (fitBs n xs ys) → ys.length ≤ xs.length
  | _, _, [], _ => Nat.zero_le _
  | n, x :: xs, y :: ys, h => by
    rw [fitBs, andL_append] at h
    simp; exact fitBs_len n xs ys h.2
  | _, [], _ :: _, h => h.elim
theorem fitBs_get : ∀ (n : Nat) (xs ys : List Blk), andL (fitBs n xs ys) → ∀ j (h : j < xs.length) (h' : j < ys.length), andL (fitB n xs[j] ys[j])
  | _, [], _, _, j, h, _ => by simp at h
  | _, _ :: _, [], _, j, _, h' => by simp at h'
  | n, x :: xs, y :: ys, h, j, h1, h2 => by
    rw [fitBs, andL_append] at h
    cases j with
    | zero => exact h.1
    | succ j => exact fitBs_get n xs ys h.2 j (by simpa using h1) (by simpa using h2)

theorem fitB_rel (hi : ∀ b, im b → im' b) {n : Nat} {x y : Blk} {p : IdE} (h : andL (fitB n x y)) (hr : BRel ids im w x p) : BRel (ids.take n) im' w y p := by
  unfold fitB at h
  split at h
  · rename_i ty cs ty' cs'
    split at h
    · rename_i ht
      have ht := Nat.eq_of_beq_eq_true ht
      subst ht
      have hl := fitL_len _ _ _ _ h
      cases p with
      | dead => exact hr
      | virt => exact hr
      | lv p =>
        obtain ⟨vs, h1, h2, h3, h4⟩ := hr
        exact ⟨vs, h1, h2, by omega, fun j hj hj' => ⟨fitA_rel hi 4 _ _ _ (fitL_get _ _ _ _ h j (by omega) hj) (h4 j (by omega) hj').1, (h4 j (by omega) hj').2⟩⟩
    · exact h.elim
  · rename_i ty sz n1 row ty' sz' n1' row'
    split at h
    · rename_i ht hs
      have ht := Nat.eq_of_beq_eq_true ht
      have hs := Nat.eq_of_beq_eq_true hs
      subst ht; subst hs
      obtain ⟨e1, e2⟩ := h
      subst e1
      cases p with
      | dead => exact hr
      | virt => exact hr
      | lv p =>
        obtain ⟨g1, g2, vs, h1, h2, h3, hl, h4⟩ := hr
        refine ⟨g1, g2, vs, h1, h2, h3, fun i hi => by rw [← e2 i hi]; exact hl i hi, ?_⟩
        intro i j hi' hj hj'
        have := h4 i j hi' (by rw [e2 i hi']; exact hj) hj'
        simp only [e2 i hi'] at this
        exact ⟨this.1.up hi, this.2⟩
    · exact h.elim
  · have hr : p = .dead := hr
    exact hr
  · exact h.elim

theorem WkS_of_fit {s' : List A} {m' : List Blk} (h : fitS s m s' m') : WkS s m s' m' := by
  intro c a w ids hs
  unfold fitS at h
  rw [andL_append] at h
  obtain ⟨h1, h2⟩ := h
  have hl := fitL_len _ _ _ _ h1
  have hlb := fitBs_len _ _ _ h2
  have hi : ∀ b, imOf c ids w b → imOf c (ids.take m'.length) w b := by
    rintro b (h | ⟨q1, q2, q3⟩)
    · exact .inl h
    · exact .inr ⟨q1, q2, fun p hp => q3 p (List.mem_of_mem_take hp)⟩
  have hidl : ids.length = m.length := hs.mlen
  refine ⟨ids.take m'.length, hs.defers, by rw [hs.len, hl], ?_, by simp; omega, ?_, ?_, ?_, hs.frame, hs.im0lt⟩
  · intro i g1 g2
    exact fitA_rel hi 5 _ _ _ (fitL_get _ _ _ _ h1 i (by omega) g1) (hs.slots i (by omega) g2)
  · intro b g1 g2
    have := hs.blks b (by omega) (by omega)
    rw [List.getElem_take]
    exact fitB_rel hi (fitBs_get _ _ _ h2 b (by omega) g1) this
  · intro i j p q g1 g2 g3
    rw [List.getElem?_take] at g1 g2
    split at g1
    · split at g2
      · exact hs.distinct i j p q g1 g2 g3
      · cases g2
    · cases g1
  · intro p hp; exact hs.fresh p (List.mem_of_mem_take hp)
end
end Go.Proofs.YtfhdmhoeopbhnaaDoor.Am
namespace Go.Proofs.YtfhdmhoeopbhnaaDoor.Am
open Go.RowKit (Below)

def ret1 (tt : TT) (rv : ResultVar) (s : List A) (m : List Blk) (K : A → Prop) : Prop :=
  match rv with
  | .tmp t => fd 3 (wk m 5 (s.getD t .junk)) K
  | .cell p t => sLoad tt t (s.getD p .junk) m fun v _ => fd 3 (wk m 5 v) K
def retL (tt : TT) : List ResultVar → List A → List Blk → (List A → Prop) → Prop
  | [], _, _, K => K []
  | r :: rs, s, m, K => ret1 tt r s m fun v => retL tt rs s m fun vs => K (v :: vs)
def fitR (vs : List A) (r : A) : Prop :=
  match vs with
  | [v] => andL (fitA 6 0 v r)
  | vs => andL (fitA 6 0 (.tup vs) r)
def retQ (tt : TT) (fn : Func) (r : A) : Exit → List A → List Blk → Prop
  | .ret, s, m => retL tt fn.results.toList s m fun vs => fitR vs r
  | .normal, s, m => retL tt fn.results.toList s m fun vs => fitR vs r
  | _, _, _ => False

def resOf (tmps : Array Value) : ResultVar → Sem Value
  | .tmp t => pure (tmps.getD t undef)
  | .cell p t => do loadVar t (← asAddr (tmps.getD p undef))

section
variable {c : Ctx} {s : List A} {m : List Blk} {a : Act} {w w' : World} {ids ids' : Ids} {P : Program} {im im' : Nat → Prop} {tt : TT} {G : GInv}

theorem Rel.nil_rel {x : A} {v : Value} (h : Rel [] im w x v) : RelI im w x v := by
  induction h with
  | imm h => exact h
  | ref b off p h => simp at h
  | oref b i off p h => simp at h
  | own0 b h => simp at h
  | own b cap p h => simp at h
  | agg cs vs hl ho hr ih => exact .agg cs vs hl ho ih
  | tup cs vs hl hr ih => exact .tup cs vs hl ih
  | fn f cs vs hl hr ih => exact .fn f cs vs hl ih

theorem sLoad_run (htt : TTok P tt) (hs : Sim c s m a w ids) {t : TypeId} {x : A} {v : Value} (hx : Rel ids (imOf c ids w) w x v) {K : KT} (h : sLoad tt t x m K) :
    ∃ ad r u, v = .pointer (some ad) ∧ (loadVar t ad).run P w = .ok u w ∧ K r m ∧ Rel ids (imOf c ids w) w r u := by
  unfold sLoad at h
  split at h
  · exact h.elim
  · rename_i ti ht
    split at h
    · rename_i b off
      obtain ⟨p, hid, hv⟩ := hx.ref_inv
      split at h
      · rename_i ty cs hb
        obtain ⟨r, v, h1, h2, h3⟩ := ldA_sound (P := P) htt ht (base := 0) (hs.run_box hid hb) h
        rw [Nat.zero_add] at h1
        exact ⟨_, r, v, hv, h1, h2, h3⟩
      · exact h.elim
    · rename_i b i off
      obtain ⟨p, hid, hv⟩ := hx.oref_inv
      split at h
      · rename_i ty sz n row hb
        obtain ⟨hi, h⟩ := h
        rw [fl_eq] at h
        obtain ⟨r, v, h1, h2, h3⟩ := ldA_sound (P := P) htt ht (hs.run_row hid hb hi) h
        exact ⟨_, r, v, hv, h1, h2, h3⟩
      · exact h.elim
    · rename_i cs off
      cases hx with
      | imm hx =>
        cases hx with
        | bref blk base _ _ vs hb hc hov hr =>
          have hrun : Run ids (imOf c ids w) w cs blk base := by
            refine ⟨(List.range cs.length).map vs, by simp, ?_, ?_, ?_⟩
            · intro j hj; simp at hj; simpa using hc j hj
            · intro v hv; simp at hv; obtain ⟨j, hj, rfl⟩ := hv; exact hov j hj
            · intro j hj hj'; simpa using Rel.imm (hr j hj)
          obtain ⟨r, v, h1, h2, h3⟩ := ldA_sound (P := P) htt ht hrun h
          exact ⟨_, r, v, rfl, h1, h2, h3⟩
    · exact h.elim

theorem ret1_run (htt : TTok P tt) (hs : Sim c s m a w ids) (rv : ResultVar) {K : A → Prop} (h : ret1 tt rv s m K) :
    ∃ r v, (resOf a.tmps rv).run P w = .ok v w ∧ K r ∧ RelI (imAll c ids w) w r v := by
  cases rv with
  | tmp t =>
    simp only [ret1, fd_eq] at h
    exact ⟨_, a.tmps.getD t undef, rfl, h, wk_rel hs 5 _ _ (hs.ev (.tmp t))⟩
  | cell p t =>
    simp only [ret1, fd_eq] at h
    obtain ⟨ad, r, u, h1, h2, h3, h4⟩ := sLoad_run (P := P) htt hs (hs.ev (.tmp p)) h
    refine ⟨_, u, ?_, h3, wk_rel hs 5 _ _ h4⟩
    have h1 : a.tmps.getD p undef = .pointer (some ad) := h1
    show (do loadVar t (← asAddr (a.tmps.getD p undef)) : Sem Value).run P w = _
    rw [h1]
    simp [asAddr, h2]

theorem retL_run (htt : TTok P tt) (hs : Sim c s m a w ids) : ∀ (rs : List ResultVar) {K : List A → Prop}, retL tt rs s m K →
    ∃ (xs : List A) (vs : List Value), (rs.mapM (resOf a.tmps)).run P w = .ok vs w ∧ K xs ∧
      vs.length = xs.length ∧ ∀ j (h : j < xs.length) (h' : j < vs.length), RelI (imAll c ids w) w xs[j] vs[j]
  | [], K, h => ⟨[], [], by simp, h, rfl, fun j h => absurd h (Nat.not_lt_zero _)⟩
  | rv :: rs, K, h => by
    obtain ⟨r, v, h1, h2, h3⟩ := ret1_run (P := P) htt hs rv h
    obtain ⟨xs, vs, g1, g2, g3, g4⟩ := retL_run htt hs rs h2
    refine ⟨r :: xs, v :: vs, ?_, g2, by simp [g3], ?_⟩
    · rw [List.mapM_cons]
      simp only [Sem.run_bind, h1, Result.andThen_ok, g1]
      rfl
    · intro j hj hj'
      cases j with
      | zero => exact h3
      | succ j => exact g4 j (by simpa using hj) (by simpa using hj')

theorem results_eq (fn : Func) (tmps : Array Value) : results fn tmps = (do let vs ← fn.results.mapM (resOf tmps); pure (if h : vs.size = 1 then vs[0] else .tuple vs)) := by
  unfold results
  have : ∀ f g : ResultVar → Sem Value, f = g → (do let vs ← fn.results.mapM f; pure (if h : vs.size = 1 then vs[0] else .tuple vs)) = (do let vs ← fn.results.mapM g; pure (if h : vs.size = 1 then vs[0] else .tuple vs)) := by
    rintro f _ rfl; rfl
  apply this
  funext x; cases x <;> rfl
theorem results_run {fn : Func} {vs : List Value} (h : (fn.results.toList.mapM (resOf a.tmps)).run P w = .ok vs w) :
    (results fn a.tmps).run P w = .ok (if h : vs.toArray.size = 1 then vs.toArray[0] else .tuple vs.toArray) w := by
  rw [results_eq]
  have e : (fn.results.mapM (resOf a.tmps)).run P w = .ok vs.toArray w := by
    rw [Array.mapM_eq_mapM_toList, map_eq_pure_bind]
    simp only [Sem.run_bind, h, Result.andThen_ok]
    rfl
  simp only [Sem.run_bind, e, Result.andThen_ok]
  rfl

theorem retQ_body (htt : TTok P tt) (hs : Sim c s m a w ids) {fn : Func} {r : A} (h : retL tt fn.results.toList s m fun vs => fitR vs r) :
    ∃ v, (results fn a.tmps).run P w = .ok v w ∧ RelI (fun b => c.im0 b ∨ (c.w0.heap.size ≤ b ∧ b < w.heap.size)) w r v := by
  obtain ⟨xs, vs, h1, h2, h3, h4⟩ := retL_run (P := P) htt hs _ h
  refine ⟨_, results_run h1, ?_⟩
  have hi : ∀ b, imAll c ids w b → c.im0 b ∨ (c.w0.heap.size ≤ b ∧ b < w.heap.size) := by
    rintro b ((h | ⟨q1, q2, _⟩) | ⟨p, hp, rfl⟩)
    · exact .inl h
    · exact .inr ⟨q1, q2⟩
    · exact .inr (hs.fresh p hp)
  have fin : ∀ x v, andL (fitA 6 0 x r) → RelI (imAll c ids w) w x v → RelI (fun b => c.im0 b ∨ (c.w0.heap.size ≤ b ∧ b < w.heap.size)) w r v := by
    intro x v hf hr
    have := fitA_rel (ids := []) (n := 0) hi 6 x r v hf (.imm hr)
    exact this.nil_rel
  unfold fitR at h2
  split at h2
  · rename_i x
    have : vs.length = 1 := by simpa using h3
    match vs, this with
    | [v], _ => exact fin x v h2 (h4 0 (by simp) (by simp))
  · rename_i hne
    have hne : ¬ vs.length = 1 := by
      intro e
      rw [e] at h3
      match xs, h3 with
      | [x], _ => exact hne x rfl
    rw [dif_neg (by simpa using hne)]
    exact fin _ _ h2 (.tup xs vs h3 h4)

theorem ACalls.of_WA (htt : TTok P tt) {f : FuncId} {fn : Func} {cd : Code} {args : List A} {r : A} (hf : P.funcs[f]? = some fn) (hb : fn.body = some cd)
    (hn : (fn.name == "runtime.NumGoroutine") = false) (k : Nat) (hk : fn.ntmps - args.length = k)
    (h : fl (args ++ List.replicate k .junk) fun s => WA P G cd (retQ tt fn r) s []) : ACalls P G f args r := by
  rw [fl_eq] at h
  refine ⟨⟨fn, cd, hf, hb, hn⟩, ?_⟩
  intro im w vs him hG hl hr
  refine calls_of_wp hf hb ?_
  unfold WA at h
  have hsim : Sim ⟨w, im⟩ (args ++ List.replicate k .junk) [] ⟨vs.toArray ++ Array.replicate (fn.ntmps - vs.toArray.size) undef, []⟩ w [] := by
    refine ⟨rfl, by simp [hl, hk], ?_, rfl, fun b h => absurd h (Nat.not_lt_zero _), (fun b b' p q h => by simp at h), (fun p h => by cases h), Below.refl _ _, him⟩
    intro i h1 h2
    by_cases hi : i < args.length
    · rw [List.getElem_append_left hi, Array.getElem_append_left (by simp; omega)]
      have := hr i hi (by omega)
      exact .imm (by simpa using this.up (fun b hb => .inl hb))
    · rw [List.getElem_append_right (by omega)]
      simp only [List.getElem_replicate]
      exact .imm (.junk _)
  refine wp_mono (h ⟨w, im⟩ _ w [] hG hsim) ?_
  rintro e a' w' ⟨s', m', ids', hq, hs'⟩
  cases e with
  | ret =>
    obtain ⟨v, h1, h2⟩ := retQ_body (P := P) htt hs' hq
    exact ⟨hs'.defers, v, h1, v, rfl, h2, hs'.frame⟩
  | normal =>
    obtain ⟨v, h1, h2⟩ := retQ_body (P := P) htt hs' hq
    exact ⟨hs'.defers, v, h1, v, rfl, h2, hs'.frame⟩
  | _ => exact hq.elim

/-! ### Loops, with the slots that the body writes forgotten -/
def writes : Code → List Nat
  | .region _ ops _ => ops.toList.filterMap (·.dst)
  | .seq x y => writes x ++ writes y
  | .cond _ x y => writes x ++ writes y
  | .block _ x => writes x
  | .loop x => writes x
  | _ => []
def memN (i : Nat) : List Nat → Bool
  | [] => false
  | j :: js => match Nat.beq i j with
    | true => true
    | false => memN i js
def jk (ws : List Nat) : Nat → List A → List A
  | _, [] => []
  | i, x :: xs => (match memN i ws with | true => .junk | false => x) :: jk ws (i + 1) xs
def ovr : List (Nat × A) → List A → List A
  | [], s => s
  | (i, v) :: l, s => ovr l (s.set i v)
def headS (body : Code) (s : List A) (ov : List (Nat × A)) : List A := ovr ov (jk (writes body) 0 s)
def roundF {ι : Type} (body : Code) (s0 : List A) (ov : ι → List (Nat × A)) (M : ι → List Blk) (μ : ι → Nat) (i : ι) (Q : Exit → List A → List Blk → Prop) : Exit → List A → List Blk → Prop
  | .normal, s, m => ∃ j, μ j < μ i ∧ fl (headS body s0 (ov j)) fun s' => fitS s m s' (M j)
  | e, s, m => Q e s m
theorem WA_loopO {Q : Exit → List A → List Blk → Prop} {ι : Type} {body : Code} (ov : ι → List (Nat × A)) (M : ι → List Blk) (μ : ι → Nat) (i0 : ι)
    (h0 : fl (headS body s (ov i0)) fun s' => fitS s m s' (M i0))
    (hr : ∀ i, fl (headS body s (ov i)) fun s' => WA P G body (roundF body s ov M μ i Q) s' (M i)) : WA P G (.loop body) Q s m := by
  rw [fl_eq] at h0
  refine WA_loop (fun i => headS body s (ov i)) M μ i0 (WkS_of_fit h0) ?_
  intro i
  have := hr i
  rw [fl_eq] at this
  refine WA_mono this ?_
  intro e s' m' hq
  cases e with
  | normal =>
    obtain ⟨j, h1, h2⟩ := hq
    rw [fl_eq] at h2
    exact ⟨j, h1, WkS_of_fit h2⟩
  | _ => exact hq

def roundI {ι : Type} (body : Code) (s0 : List A) (I : ι → Prop) (ov : ι → List (Nat × A)) (M : ι → List Blk) (μ : ι → Nat) (i : ι) (Q : Exit → List A → List Blk → Prop) : Exit → List A → List Blk → Prop
  | .normal, s, m => ∃ j, I j ∧ μ j < μ i ∧ fl (headS body s0 (ov j)) fun s' => fitS s m s' (M j)
  | e, s, m => Q e s m
/-- A loop whose rounds are told by an index that keeps a law. -/
theorem WA_loopI {Q : Exit → List A → List Blk → Prop} {ι : Type} {body : Code} (I : ι → Prop) (ov : ι → List (Nat × A)) (M : ι → List Blk) (μ : ι → Nat) (i0 : ι) (hI : I i0)
    (h0 : fl (headS body s (ov i0)) fun s' => fitS s m s' (M i0))
    (hr : ∀ i, I i → fl (headS body s (ov i)) fun s' => WA P G body (roundI body s I ov M μ i Q) s' (M i)) : WA P G (.loop body) Q s m := by
  refine WA_loopO (ι := {i : ι // I i}) (fun i => ov i.1) (fun i => M i.1) (fun i => μ i.1) ⟨i0, hI⟩ h0 ?_
  rintro ⟨i, hi⟩
  have := hr i hi
  rw [fl_eq] at this ⊢
  refine WA_mono this ?_
  intro e s' m' hq
  cases e with
  | normal =>
    obtain ⟨j, h1, h2, h3⟩ := hq
    exact ⟨⟨j, h1⟩, h2, h3⟩
  | _ => exact hq
end
end Go.Proofs.YtfhdmhoeopbhnaaDoor.Am
namespace Go.Proofs.YtfhdmhoeopbhnaaDoor.Am
open Go.RowKit Go.ChangeShapes

section
variable {H : Type} {enc : TypeId × Value → H} {P : Program}
/-- Each argument reads behind the call as it read before. -/
theorem trodAll_below (hl : laidOutB P = true) {W W' : World} (hb : Below W.heap.size W W') : ∀ (ts : List TypeId) (vs : List Value) (ds : List (DataW H)) (ps : List MemPlace),
    ts.all (fun t => P.readableRec t && decide (t < P.types.size)) = true → DataW.TrodAll enc P W 0 (fun _ => true) true ts vs ds ps → (∀ x ∈ ps, x.block < W.heap.size) →
    DataW.TrodAll enc P W' 0 (fun b => decide (b < W.heap.size)) true ts vs ds ps
  | [], vs, ds, ps, _, h, _ => by
    obtain ⟨rfl, rfl, rfl⟩ := trodAll_nil h
    rfl
  | t :: ts, vs, ds, ps, hts, h, hlt => by
    obtain ⟨v, vs', d, ds', p, q, rfl, rfl, rfl, h1, h2⟩ := trodAll_cons h
    simp only [List.all_cons, Bool.and_eq_true, decide_eq_true_eq] at hts
    exact ⟨p, q, Below.trod hl hts.1.1 hts.1.2 h1 hb (fun x hx => hlt x (List.mem_append_left _ hx)), trodAll_below hl hb ts vs' ds' q hts.2 h2 (fun x hx => hlt x (List.mem_append_right _ hx)), rfl⟩

/-- A law that returned true, in a world that is as it was below the heap's old size. -/
theorem post_true {f : Func} {s : ChangeSpec} {apart fresh handsOn : Bool} {W W' : World} {args : Array Value} {ds gs : List (DataW H)} {before : List MemPlace} {tb : TypeId}
    (hl : laidOutB P = true) (hv : s.vars = []) (hr : f.resultTypes = #[tb]) (htb : P.underlying tb = some .bool)
    (hts : f.params.toList.all (fun t => P.readableRec t && decide (t < P.types.size)) = true)
    (hfn : s.fn H (ds ++ gs) = { results := [.lit (.bool true)], args := ds })
    (hW : DataW.Whole enc P f.params.toList s.vars apart W args.toList ds gs before) (hb : Below W.heap.size W W') :
    s.post enc P f apart fresh handsOn false W args (.bool true) W' := by
  have hW' := hW
  obtain ⟨p, q, hA, hV, rfl, hz, hn⟩ := hW
  rw [hv] at hV
  obtain ⟨rfl, rfl⟩ := trodVars_none hV
  refine ⟨ds, [], p ++ [], [], p, [], hW', ?_, ?_, ?_, hb.frame _, fun h => by cases h⟩
  · rw [hfn, hr]
    exact trodAll_mk1 (shut_bool htb _)
  · rw [hfn]
    exact trodAll_below hl hb _ _ _ _ hts hA (fun x hx => hW'.lt x (by simpa using hx))
  · rw [hfn, hv]; rfl
end

/-- From a contract to a call. -/
theorem calls_true {P : Program} {G : GInv} {f : FuncId} {as : List A} (h : ACalls P G f as (.sb true)) {W : World} {vs : List Value} {im : Nat → Prop} (him : ∀ b, im b → b < W.heap.size) (hG : G.G W) (hl : vs.length = as.length)
    (hr : ∀ j (h : j < as.length) (h' : j < vs.length), RelI im W as[j] vs[j]) : Calls P f vs.toArray W fun e W' => e = .returned (.bool true) ∧ Below W.heap.size W W' := by
  refine Calls_mono (h.2 im W vs him hG hl hr) ?_
  rintro e W' ⟨v, rfl, hv, hb⟩
  cases hv
  exact ⟨rfl, hb⟩
end Go.Proofs.YtfhdmhoeopbhnaaDoor.Am

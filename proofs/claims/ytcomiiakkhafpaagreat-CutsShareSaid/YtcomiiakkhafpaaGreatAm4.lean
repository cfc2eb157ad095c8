/-
  THE ENGINE, part 4: regions, code, fits, loops, contracts, the frame of a law, the opening of arguments.
-/
import Derived.Test.YtcomiiakkhafpaaGreatAm3
import Derived.ProofKit
import Derived.LaidMore
import Derived.OpenShut
import Derived.Stop.Joined
import Derived.Deep.Slices
set_option linter.unusedSectionVars false
namespace Go.Proofs.YtcomiiakkhafpaaGreat.Am
variable [Inhabited DRT]
open Go.RowKit (Below)

def putF (s : List A) (d : Option Nat) (v : A) (K : List A → Prop) : Prop :=
 match d with
 | some d => setF s d v K
 | none => K s
theorem putF_eq (s : List A) (d : Option Nat) (v : A) (K : List A → Prop) : putF s d v K = K (putD s d v) := by
 cases d with
 | none => rfl
 | some d => exact setF_eq _ _ _ _
def gslot (ops : List Oper) (j : Nat) : Option Nat := (ops[j]?).bind (·.dst)
def guard1 (g : Option Nat) (want : Bool) (s : List A) (X Y : List A → Prop) : Prop :=
 match g with
 | none => False
 | some d => match s.getD d .junk with
  | .bool b => match b, want with
   | true, true => X s
   | false, false => X s
   | true, false => Y s
   | false, true => Y s
  | .sb b => match want with
   | true => (b = true → setF s d (.bool true) X) ∧ (b = false → setF s d (.bool false) Y)
   | false => (b = false → setF s d (.bool false) X) ∧ (b = true → setF s d (.bool true) Y)
  | .tup vs => match vs with
   | [] => Y s
   | _ => False
  | _ => False
def runL (P : Program) (G : GInv) (tt : TT) (ops : List Oper) : List Oper → List A → List Blk → (List A → List Blk → Prop) → Prop
 | [], s, m, K => K s m
 | o :: rest, s, m, K => match o.guard with
  | none => stepM P G tt o s m fun s1 v m' => putF s1 o.dst v fun s' => runL P G tt ops rest s' m' K
  | some (j, want) => guard1 (gslot ops j) want s
    (fun s => stepM P G tt o s m fun s1 v m' => putF s1 o.dst v fun s' => runL P G tt ops rest s' m' K)
    (fun s => putF s o.dst (.tup []) fun s' => runL P G tt ops rest s' m K)

section
variable {c : Ctx} {s : List A} {m : List Blk} {a : Act} {w w' : World} {ids ids' : Ids} {P : Program} {im im' : Nat → Prop} {tt : TT} {G : GInv}
variable {next : Act → World → Prop} {Q : Exit → Act → World → Prop} {o : Oper}

theorem Sim.reslot (hs : Sim c s m a w ids) (d : Nat) {x : A} (hv : Rel ids (imOf c ids w) w x (a.tmps.getD d undef)) : Sim c (s.set d x) m a w ids where
 defers := hs.defers
 len := by simp [hs.len]
 slots := by
  intro i h h'
  simp only [List.length_set] at h
  rw [List.getElem_set]
  split
  ·rename_i he; subst he; simpa [Array.getD_eq_getD_getElem?, h'] using hv
  ·exact hs.slots i h h'
 mlen := hs.mlen
 blks := hs.blks
 distinctX := hs.distinctX
 freshX := hs.freshX
 frame := hs.frame
 im0lt := hs.im0lt
 gho := hs.gho

theorem yielded_eq {ops : List Oper} {j d : Nat} {b : Bool} (hg : gslot ops j = some d) (hv : a.tmps.getD d undef = .bool b) : yielded ops.toArray a.tmps j = some b := by
 unfold yielded
 have h1 : (ops.toArray[j]?).bind (·.dst) = some d := by simpa [gslot] using hg
 rw [h1]
 have h2 : a.tmps[d]? = some (.bool b) := by
  rcases Nat.lt_or_ge d a.tmps.size with h | h
  ·simpa [Array.getD_eq_getD_getElem?, h] using hv
  ·simp [Array.getD_eq_getD_getElem?, h, undef] at hv
 simp [h2]

theorem runL_sound (htt : TTok P tt) {ops : List Oper} {QA : List A → List Blk → Prop} (hG : G.ok c) (hQ : ∀ s m a w ids, QA s m → Sim c s m a w ids → Q .normal a w) :
  ∀ (rest : List Oper) (s : List A) (m : List Blk) (a : Act) (w : World) (ids : Ids), Sim c s m a w ids → runL P G tt ops rest s m QA → wpList P ops.toArray Q rest a w
 | [], s, m, a, w, ids, hs, h => hQ s m a w ids h hs
 | o :: rest, s, m, a, w, ids, hs, h => by
  have exec : ∀ s, Sim c s m a w ids → (stepM P G tt o s m fun s1 v m' => putF s1 o.dst v fun s' => runL P G tt ops rest s' m' QA) → ∀ K : Act → World → Prop, (∀ a w, wpList P ops.toArray Q rest a w → K a w) → o.wp P a w K Q := by
   intro s hs h K hK
   refine stepM_sound htt hG hs h ?_
   intro s1 v m' a' w' ids' hk hs'
   rw [putF_eq] at hk
   exact hK _ _ (runL_sound htt hG hQ rest _ _ _ _ _ hs' hk)
  have skip : ∀ s, Sim c s m a w ids → (putF s o.dst (.tup []) fun s' => runL P G tt ops rest s' m QA) → ∀ K : Act → World → Prop, (∀ a w, wpList P ops.toArray Q rest a w → K a w) → K (a.put o.dst undef) w := by
   intro s hs h K hK
   rw [putF_eq] at h
   exact hK _ _ (runL_sound htt hG hQ rest _ _ _ _ _ (hs.putD o.dst (.imm (.tup [] [] rfl (fun _ h => by simp at h)))) h)
  unfold runL at h
  refine wpList_step fun K hK => ?_
  split at h
  ·rename_i hg
   have : Region.wanted o (yielded ops.toArray a.tmps) = true := by unfold Region.wanted; rw [hg]
   rw [if_pos this]
   exact exec s hs h K hK
  ·rename_i j want hg
   have hw : Region.wanted o (yielded ops.toArray a.tmps) = (yielded ops.toArray a.tmps j == some want) := by unfold Region.wanted; rw [hg]
   rw [hw]
   unfold guard1 at h
   split at h
   ·exact h.elim
   ·rename_i d hd
    have hev := hs.ev (.tmp d)
    simp only [ev, Act.eval] at hev
    split at h
    ·rename_i b hb; rw [hb] at hev
     rw [yielded_eq hd hev.bool_inv]
     split at h
     ·exact exec s hs h K hK
     ·exact exec s hs h K hK
     ·exact skip s hs h K hK
     ·exact skip s hs h K hK
    ·rename_i b hb; rw [hb] at hev
     have hbv := hev.sb_inv
     rw [yielded_eq hd hbv]
     have hsim : ∀ b', b = b' → Sim c (s.set d (.bool b')) m a w ids := by
      intro b' e; subst e; exact hs.reslot d (by rw [hbv]; exact .imm (.bool _))
     rw [setF_eq, setF_eq, setF_eq, setF_eq] at h
     split at h
     ·cases b
      ·exact skip _ (hsim false rfl) (h.2 rfl) K hK
      ·exact exec _ (hsim true rfl) (h.1 rfl) K hK
     ·cases b
      ·exact exec _ (hsim false rfl) (h.1 rfl) K hK
      ·exact skip _ (hsim true rfl) (h.2 rfl) K hK
    ·rename_i vs hb; rw [hb] at hev
     split at h
     ·obtain ⟨us, hu, hu2, _⟩ := hev.tup_inv
      have hu3 : us = [] := by simpa using hu2
      subst hu3
      have hy : yielded ops.toArray a.tmps j = none := by
       unfold yielded
       have h1 : (ops.toArray[j]?).bind (·.dst) = some d := by simpa [gslot] using hd
       rw [h1]
       rcases Nat.lt_or_ge d a.tmps.size with h | h
       ·have h2 : a.tmps[d]? = some (.tuple #[]) := by simpa [Array.getD_eq_getD_getElem?, h] using hu
        simp [h2]
       ·simp [h]
      rw [hy]
      exact skip s hs h K hK
     ·exact h.elim
    ·exact h.elim
end

/-! ### Code -/
theorem wp_loop_ghost {P : Program} {Q : Exit → Act → World → Prop} {a : Act} {w : World} {c : Code} (I : Nat → Act → World → Prop) (n₀ : Nat) (h₀ : I n₀ a w)
  (round : ∀ n a w, I n a w → c.wp P (Exit.then (fun a' w' => ∃ n', n' < n ∧ I n' a' w') Q) a w) : (Code.loop c).wp P Q a w := by
 intro b k cs
 have key : ∀ n a w, I n a w →
   ∃ e a' w', Q e a' w' ∧ Arrives P (lone (b.at a (.code c :: .inLoop c :: k)) cs w) b k cs e a' w' := by
  intro n
  induction n using Nat.strongRecOn with
  | _ n ih =>
   intro a w hI
   obtain ⟨e, a₁, w₁, hq, harr⟩ := round n a w hI b (.inLoop c :: k) cs
   cases e with
   | normal =>
    obtain ⟨n', hlt, hI₁⟩ := hq
    obtain ⟨e₂, a₂, w₂, hq₂, harr₂⟩ := ih n' hlt a₁ w₁ hI₁
    exact ⟨e₂, a₂, w₂, hq₂, .of_steps (Steps.trans harr (.one step_inLoop)) harr₂⟩
   | exit id => exact ⟨_, a₁, w₁, hq, .pass (x := .inLoop c) rfl (fun _ _ => .inl (by simp)) harr⟩
   | goto l => exact ⟨_, a₁, w₁, hq, .pass (x := .inLoop c) rfl (fun _ _ => .inl (by simp)) harr⟩
   | ret => exact ⟨_, a₁, w₁, hq, .pass (x := .inLoop c) rfl (fun _ _ => .inl (by simp)) harr⟩
   | panic ch => exact ⟨_, a₁, w₁, hq, .pass (x := .inLoop c) rfl (fun _ _ => .inl (by simp)) harr⟩
   | outgrown => exact ⟨_, a₁, w₁, hq, .pass (x := .inLoop c) rfl (fun _ _ => .inl (by simp)) harr⟩
 obtain ⟨e, a', w', hq, harr⟩ := key _ a w h₀
 exact ⟨e, a', w', hq, .of_steps (.one step_loop) harr⟩

def post (c : Ctx) (Q : Exit → List A → List Blk → Prop) : Exit → Act → World → Prop := fun e a w => ∃ s m ids, Q e s m ∧ Sim c s m a w ids

@[irreducible] def WA (P : Program) (G : GInv) (cd : Code) (Q : Exit → List A → List Blk → Prop) (s : List A) (m : List Blk) : Prop :=
 ∀ c a w ids, G.ok c → Sim c s m a w ids → cd.wp P (post c Q) a w

def thenA (next : List A → List Blk → Prop) (Q : Exit → List A → List Blk → Prop) : Exit → List A → List Blk → Prop
 | .normal, s, m => next s m
 | e, s, m => Q e s m
def blockA (id : Nat) (Q : Exit → List A → List Blk → Prop) : Exit → List A → List Blk → Prop
 | .exit id', s, m => match Nat.beq id' id with
  | true => Q .normal s m
  | false => Q (.exit id') s m
 | e, s, m => Q e s m
def condA (v : A) (X Y : Prop) : Prop :=
 match v with
 | .bool true => X
 | .bool false => Y
 | .sb b => (b = true → X) ∧ (b = false → Y)
 | _ => False

section
variable {P : Program} {G : GInv} {tt : TT} {Q : Exit → List A → List Blk → Prop} {s : List A} {m : List Blk}

theorem WA_seq {x y : Code} (h : WA P G x (thenA (WA P G y Q) Q) s m) : WA P G (.seq x y) Q s m := by
 unfold WA at h ⊢
 intro c a w ids hG hs
 refine wp_seq (wp_mono (h c a w ids hG hs) ?_)
 rintro e a' w' ⟨s', m', ids', hq, hs'⟩
 cases e with
 | normal =>
  exact hq c a' w' ids' hG hs'
 | _ => exact ⟨s', m', ids', hq, hs'⟩
theorem WA_skip (h : Q .normal s m) : WA P G .skip Q s m := by
 unfold WA; intro c a w ids hG hs; exact wp_skip ⟨s, m, ids, h, hs⟩
theorem WA_ret (h : Q .ret s m) : WA P G .ret Q s m := by
 unfold WA; intro c a w ids hG hs; exact wp_ret ⟨s, m, ids, h, hs⟩
theorem WA_exit {id : Nat} (h : Q (.exit id) s m) : WA P G (.exit id) Q s m := by
 unfold WA; intro c a w ids hG hs; exact wp_exit ⟨s, m, ids, h, hs⟩
theorem WA_block {id : Nat} {x : Code} (h : WA P G x (blockA id Q) s m) : WA P G (.block id x) Q s m := by
 unfold WA at h ⊢
 intro c a w ids hG hs
 refine wp_block (wp_mono (h c a w ids hG hs) ?_)
 rintro e a' w' ⟨s', m', ids', hq, hs'⟩
 cases e with
 | exit id' =>
  simp only [blockA] at hq
  simp only [Exit.inBlock]
  split at hq
  ·rename_i he; rw [if_pos (Nat.eq_of_beq_eq_true he)]; exact ⟨s', m', ids', hq, hs'⟩
  ·rename_i he
   rw [if_neg (fun e => by subst e; rw [Nat.beq_refl] at he; cases he)]; exact ⟨s', m', ids', hq, hs'⟩
 | _ => exact ⟨s', m', ids', hq, hs'⟩
theorem WA_cond {t : Operand} {x y : Code} (h : condA (ev s t) (WA P G x Q s m) (WA P G y Q s m)) : WA P G (.cond t x y) Q s m := by
 unfold condA at h
 unfold WA
 intro c a w ids hG hs
 have hev := hs.ev t
 split at h
 ·rename_i hv; rw [hv] at hev; unfold WA at h; exact wp_cond_true hev.bool_inv (h c a w ids hG hs)
 ·rename_i hv; rw [hv] at hev; unfold WA at h; exact wp_cond_false hev.bool_inv (h c a w ids hG hs)
 ·rename_i b hv; rw [hv] at hev
  cases b
  ·have := h.2 rfl; unfold WA at this; exact wp_cond_false hev.sb_inv (this c a w ids hG hs)
  ·have := h.1 rfl; unfold WA at this; exact wp_cond_true hev.sb_inv (this c a w ids hG hs)
 ·exact h.elim
theorem WA_region (htt : TTok P tt) {id : Nat} {l : List Oper} (h : runL P G tt l l s m (Q .normal)) : WA P G (.region id l.toArray false) Q s m := by
 unfold WA
 intro c a w ids hG hs
 exact wp_region_lit (runL_sound htt hG (fun s m a w ids hq hs => ⟨s, m, ids, hq, hs⟩) l s m a w ids hs h)

/-- A state that says less. -/
def WkS (s : List A) (m : List Blk) (s' : List A) (m' : List Blk) : Prop := ∀ c a w ids, Sim c s m a w ids → ∃ ids', Sim c s' m' a w ids'

theorem WA_weaken {cd : Code} {s' : List A} {m' : List Blk} (hw : WkS s m s' m') (h : WA P G cd Q s' m') : WA P G cd Q s m := by
 unfold WA at h ⊢
 intro c a w ids hG hs
 obtain ⟨ids', hs'⟩ := hw c a w ids hs
 exact h c a w ids' hG hs'
theorem WA_mono {cd : Code} {Q' : Exit → List A → List Blk → Prop} (h : WA P G cd Q s m) (hq : ∀ e s m, Q e s m → Q' e s m) : WA P G cd Q' s m := by
 unfold WA at h ⊢
 intro c a w ids hG hs
 refine wp_mono (h c a w ids hG hs) ?_
 rintro e a' w' ⟨s', m', ids', hq', hs'⟩
 exact ⟨s', m', ids', hq _ _ _ hq', hs'⟩

def roundA {ι : Type} (S : ι → List A) (M : ι → List Blk) (μ : ι → Nat) (i : ι) (Q : Exit → List A → List Blk → Prop) : Exit → List A → List Blk → Prop
 | .normal, s, m => ∃ j, μ j < μ i ∧ WkS s m (S j) (M j)
 | e, s, m => Q e s m
theorem WA_loop {ι : Type} {body : Code} (S : ι → List A) (M : ι → List Blk) (μ : ι → Nat) (i0 : ι) (h0 : WkS s m (S i0) (M i0))
  (hr : ∀ i, WA P G body (roundA S M μ i Q) (S i) (M i)) : WA P G (.loop body) Q s m := by
 refine WA_weaken h0 ?_
 unfold WA
 intro c a w ids hG hs
 refine wp_loop_ghost (fun n a w => ∃ i ids, μ i = n ∧ Sim c (S i) (M i) a w ids) (μ i0) ⟨i0, ids, rfl, hs⟩ ?_
 rintro n a w ⟨i, ids, rfl, hs⟩
 have := hr i
 unfold WA at this
 refine wp_mono (this c a w ids hG hs) ?_
 rintro e a' w' ⟨s', m', ids', hq, hs'⟩
 cases e with
 | normal =>
  obtain ⟨j, hlt, hw⟩ := hq
  obtain ⟨ids'', hs''⟩ := hw c a' w' ids' hs'
  exact ⟨μ j, hlt, j, ids'', rfl, hs''⟩
 | _ => exact ⟨s', m', ids', hq, hs'⟩
end
end Go.Proofs.YtcomiiakkhafpaaGreat.Am
namespace Go.Proofs.YtcomiiakkhafpaaGreat.Am
variable [Inhabited DRT]
open Go.RowKit (Below)

def andL : List Prop → Prop
 | [] => True
 | [p] => p
 | p :: q :: ps => p ∧ andL (q :: ps)
theorem andL_cons {p : Prop} {ps : List Prop} : andL (p :: ps) ↔ p ∧ andL ps := by
 cases ps <;> simp [andL]
theorem andL_append {ps qs : List Prop} : andL (ps ++ qs) ↔ andL ps ∧ andL qs := by
 induction ps with
 | nil => simp [andL]
 | cons p ps ih => rw [List.cons_append, andL_cons, andL_cons, ih, and_assoc]

/-- What must hold that the first value may be taken for the second one, where blocks from n on are forgotten. -/
def fitA : Nat → Nat → A → A → List Prop
 | 0, _, _, y => match y with
  | .junk => []
  | _ => [False]
 | d + 1, n, x, y => match y with
  | .junk => []
  | .int k b => match x with
   | .int k' a => match kindEq k' k with
    | true => [a = b]
    | false => [False]
   | _ => [False]
  | .bool b => match x with
   | .bool a => [a = b]
   | .sb a => [a = b]
   | _ => [False]
  | .sb b => match x with
   | .bool a => [a = b]
   | .sb a => [a = b]
   | _ => [False]
  | .str b => match x with
   | .str a => [a = b]
   | _ => [False]
  | .nilp => match x with
   | .nilp => []
   | _ => [False]
  | .nils => match x with
   | .nils => []
   | _ => [False]
  | .nilfn => match x with
   | .nilfn => []
   | _ => [False]
  | .nilm => match x with
   | .nilm => []
   | _ => [False]
  | .mv g' n' k' v' => match x with
   | .mv g1 n1 k1 v1 => [g1 = g', n1 = n', ∀ i, k1 i = k' i, ∀ i, k1 i = true → v1 i = v' i]
   | _ => [False]
  | .omap b => match x with
   | .omap b' => match Nat.beq b' b, Nat.blt b n with
    | true, true => []
    | _, _ => [False]
   | _ => [False]
  | .ref b o => match x with
   | .ref b' o' => match Nat.beq b' b, Nat.beq o' o, Nat.blt b n with
    | true, true, true => []
    | _, _, _ => [False]
   | _ => [False]
  | .oref b i o => match x with
   | .oref b' i' o' => match Nat.beq b' b, Nat.blt b n with
    | true, true => [i' = i, o' = o]
    | _, _ => [False]
   | _ => [False]
  | .own b => match x with
   | .own b' => match Nat.beq b' b, Nat.blt b n with
    | true, true => []
    | _, _ => [False]
   | _ => [False]
  | .sl n' sz' row' => match x with
   | .sl n1 sz row => match Nat.beq sz sz' with
    | true => [n1 = n', (∀ i, i < n1 → row i = row' i) ∨ ∀ i, i < n1 → andL (fitL d 0 (row i) (row' i))]
    | false => [False]
   | .nils => [n' = 0]
   | _ => [False]
  | .bref cs' o' => match x with
   | .bref cs o => [cs = cs', o = o']
   | _ => [False]
  | .agg cs' => match x with
   | .agg cs => fitL d n cs cs'
   | _ => [False]
  | .tup cs' => match x with
   | .tup cs => fitL d n cs cs'
   | _ => [False]
  | .fn f' cs' => match x with
   | .fn f cs => (f = f') :: fitL d n cs cs'
   | _ => [False]
where fitL (d n : Nat) : List A → List A → List Prop
 | [], [] => []
 | x :: xs, y :: ys => fitA d n x y ++ fitL d n xs ys
 | _, _ => [False]
def fitB (n : Nat) (x y : Blk) : List Prop :=
 match x, y with
 | .box ty cs, .box ty' cs' => match Nat.beq ty ty' with
  | true => fitA.fitL 4 n cs cs'
  | false => [False]
 | .row ty sz n1 row, .row ty' sz' n1' row' => match Nat.beq ty ty', Nat.beq sz sz' with
  | true, true => [n1 = n1', (∀ i, i < n1 → row i = row' i) ∨ ∀ i, i < n1 → andL (fitA.fitL 4 0 (row i) (row' i))]
  | _, _ => [False]
 | .nest ty ety sz n1 ho le row, .nest ty' ety' sz' n1' ho' le' row' => match Nat.beq ty ty', Nat.beq ety ety', Nat.beq sz sz', ho, ho' with
  | true, true, true, none, none => [n1 = n1', ∀ i, i < n1 → le i = le' i ∧ ∀ j, j < le i → row i j = row' i j]
  | _, _, _, _, _ => [False]
 | .mapb g1 n1 k1 v1, .mapb g' n' k' v' => [g1 = g', n1 = n', ∀ i, k1 i = k' i, ∀ i, k1 i = true → v1 i = v' i]
 | .ghost cs, .ghost cs' => fitA.fitL 4 n cs cs'
 | .dead, .dead => []
 | .gone, .gone => []
 | _, _ => [False]
def fitBs (n : Nat) : List Blk → List Blk → List Prop
 | _, [] => []
 | x :: xs, y :: ys => fitB n x y ++ fitBs n xs ys
 | [], _ :: _ => [False]
/-- The first state may be taken for the second. -/
def fitS (s : List A) (m : List Blk) (s' : List A) (m' : List Blk) : Prop := andL (fitA.fitL 5 m'.length s s' ++ fitBs m'.length m m')

section
variable {c : Ctx} {s : List A} {m : List Blk} {a : Act} {w w' : World} {ids ids' : Ids} {P : Program} {im im' : Nat → Prop} {tt : TT} {G : GInv}

theorem RelI.up (hi : ∀ b, im b → im' b) {x : A} {v : Value} (h : RelI im w x v) : RelI im' w x v := h.mono hi (fun _ _ => rfl)

theorem fitL_len : ∀ (d n : Nat) (xs ys : List A), andL (fitA.fitL d n xs ys) → xs.length = ys.length
 | _, _, [], [], _ => rfl
 | d, n, x :: xs, y :: ys, h => by
  rw [fitA.fitL, andL_append] at h
  simp [fitL_len d n xs ys h.2]
 | _, _, [], _ :: _, h => by simp [fitA.fitL, andL] at h
 | _, _, _ :: _, [], h => by simp [fitA.fitL, andL] at h
theorem fitL_get : ∀ (d n : Nat) (xs ys : List A), andL (fitA.fitL d n xs ys) → ∀ j (h : j < xs.length) (h' : j < ys.length), andL (fitA d n xs[j] ys[j])
 | _, _, [], _, _, j, h, _ => by simp at h
 | _, _, _ :: _, [], _, j, _, h' => by simp at h'
 | d, n, x :: xs, y :: ys, h, j, h1, h2 => by
  rw [fitA.fitL, andL_append] at h
  cases j with
  | zero => exact h.1
  | succ j => exact fitL_get d n xs ys h.2 j (by simpa using h1) (by simpa using h2)

theorem take_get {n b : Nat} {p : IdE} (h : ids[b]? = some p) (hb : b < n) : (ids.take n)[b]? = some p := by
 rw [List.getElem?_take, if_pos hb]; exact h

theorem Rel.nil_rel {x : A} {v : Value} (h : Rel [] im w x v) : RelI im w x v := by
 induction h with
 | imm h => exact h
 | ref b off p h => simp at h
 | oref b i off p h => simp at h
 | own0 b h => simp at h
 | own b cap p h => simp at h
 | ownS b x n cap h => simp at h
 | refS b off x y h => simp at h
 | orefS b i off x y h => simp at h
 | omapS b x h => simp at h
 | omap b p h => simp at h
 | agg cs vs hl ho hr ih => exact .agg cs vs hl ho ih
 | tup cs vs hl hr ih => exact .tup cs vs hl ih
 | fn f cs vs hl hr ih => exact .fn f cs vs hl ih

theorem fitA_rel (hi : ∀ b, im b → im' b) : ∀ (d n : Nat) (x y : A) (v : Value), andL (fitA d n x y) → Rel ids im w x v → Rel (ids.take n) im' w y v
 | 0, n, x, y, v, h, hr => by
  cases y <;> simp [fitA, andL] at h
  exact .imm (.junk _)
 | d + 1, n, x, y, v, h, hr => by
  have lists : ∀ cs cs' : List A, andL (fitA.fitL d n cs cs') → cs.length = cs'.length ∧ ∀ (us : List Value), (∀ j (h : j < cs.length) (h' : j < us.length), Rel ids im w cs[j] us[j]) → ∀ j (h : j < cs'.length) (h' : j < us.length), Rel (ids.take n) im' w cs'[j] us[j] := by
   intro cs cs' h
   have hl := fitL_len _ _ _ _ h
   refine ⟨hl, fun us hus j h1 h2 => fitA_rel hi d n _ _ _ (fitL_get _ _ _ _ h j (by omega) h1) (hus j (by omega) h2)⟩
  unfold fitA at h
  split at h
  ·exact .imm (.junk _)
  ·split at h
   ·split at h
    ·rename_i hk; rw [kindEq_iff] at hk; subst hk
     have h : _ = _ := h
     subst h; rw [hr.int_inv]; exact .imm (.int _ _)
    ·exact h.elim
   ·exact h.elim
  ·split at h
   ·have h : _ = _ := h
    subst h; rw [hr.bool_inv]; exact .imm (.bool _)
   ·have h : _ = _ := h
    subst h; rw [hr.sb_inv]; exact .imm (.bool _)
   ·exact h.elim
  ·split at h
   ·have h : _ = _ := h
    subst h; rw [hr.bool_inv]; exact .imm (.sb _)
   ·have h : _ = _ := h
    subst h; rw [hr.sb_inv]; exact .imm (.sb _)
   ·exact h.elim
  ·split at h
   ·have h : _ = _ := h
    subst h; rw [hr.str_inv]; exact .imm (.str _)
   ·exact h.elim
  ·split at h
   ·rw [hr.nilp_inv]; exact .imm .nilp
   ·exact h.elim
  ·split at h
   ·rw [hr.nils_inv]; exact .imm .nils
   ·exact h.elim
  ·split at h
   ·cases hr with | imm hr => cases hr; exact .imm .nilfn
   ·exact h.elim
  ·split at h
   ·rw [hr.nilm_inv]; exact .imm .nilm
   ·exact h.elim
  ·split at h
   ·obtain ⟨e1, e2, e3, e4⟩ := h
    subst e1; subst e2
    cases hr with
    | imm hr =>
     cases hr with
     | mv _ _ _ _ r es clock f hb hh hk hd hc hv =>
      exact .imm (.mv _ _ _ _ r es clock f (hi _ hb) hh (fun i h => by rw [← e3]; exact hk i h) hd (fun k h1 h2 => hc k h1 (by rw [e3]; exact h2)) (fun i h => by rw [← e4 _ (hk i h).2.2]; exact (hv i h).up hi))
   ·exact h.elim
  ·split at h
   ·split at h
    ·rename_i h1 h3
     have h1 := Nat.eq_of_beq_eq_true h1
     subst h1
     rcases hr.omap_inv with ⟨p, g1, rfl⟩ | ⟨g1, x, rfl⟩
     rotate_left
     ·exact .omapS _ x (take_get g1 (Nat.le_of_ble_eq_true (by assumption)))
     exact .omap _ p (take_get g1 (Nat.le_of_ble_eq_true h3))
    ·exact h.elim
   ·exact h.elim
  ·split at h
   ·split at h
    ·rename_i h1 h2 h3
     have h1 := Nat.eq_of_beq_eq_true h1
     have h2 := Nat.eq_of_beq_eq_true h2
     subst h1; subst h2
     rcases hr.ref_inv with ⟨p, g1, rfl⟩ | ⟨g1, x, y, rfl⟩
     rotate_left
     ·exact .refS _ _ x y (take_get g1 (Nat.le_of_ble_eq_true h3))
     exact .ref _ _ p (take_get g1 (Nat.le_of_ble_eq_true h3))
    ·exact h.elim
   ·exact h.elim
  ·split at h
   ·split at h
    ·rename_i h1 h3
     have h1 := Nat.eq_of_beq_eq_true h1
     subst h1
     obtain ⟨e1, e2⟩ := h
     subst e1; subst e2
     rcases hr.oref_inv with ⟨p, g1, rfl⟩ | ⟨g1, x, y, rfl⟩
     rotate_left
     ·exact .orefS _ _ _ x y (take_get g1 (Nat.le_of_ble_eq_true h3))
     exact .oref _ _ _ p (take_get g1 (Nat.le_of_ble_eq_true h3))
    ·exact h.elim
   ·exact h.elim
  ·split at h
   ·split at h
    ·rename_i h1 h3
     have h1 := Nat.eq_of_beq_eq_true h1
     subst h1
     rcases hr.own_inv with ⟨g1, rfl⟩ | ⟨p, cap, g1, g2, g3, rfl⟩ | ⟨g1, x, n, cap, rfl⟩
     ·exact .own0 _ (take_get g1 (Nat.le_of_ble_eq_true h3))
     ·exact .own _ cap p (take_get g1 (Nat.le_of_ble_eq_true h3)) g2 g3
     ·exact .ownS _ x n cap (take_get g1 (Nat.le_of_ble_eq_true h3))
    ·exact h.elim
   ·exact h.elim
  ·split at h
   ·split at h
    ·rename_i h1
     have h1 := Nat.eq_of_beq_eq_true h1
     subst h1
     obtain ⟨e1, e2⟩ := h
     subst e1
     cases hr with
     | imm hr =>
      cases hr with
      | sl0 => exact .imm (.sl0 _ _)
      | sle => exact .imm (.sle _ _ _ _)
      | sl _ _ _ blk base cap vs hb hcap hl hc ho hr =>
       rcases e2 with e2 | e2
       ·refine .imm (.sl _ _ _ blk base cap vs (hi _ hb) hcap (fun i h => by rw [← e2 i h]; exact hl i h) hc ho ?_)
        intro i j hij hj
        have := hr i j hij (by rw [e2 i hij]; exact hj)
        simp only [e2 i hij] at this
        exact this.up hi
       ·refine .imm (.sl _ _ _ blk base cap vs (hi _ hb) hcap (fun i h => by rw [← fitL_len _ _ _ _ (e2 i h)]; exact hl i h) hc ho ?_)
        intro i j hij hj
        have hlen := fitL_len _ _ _ _ (e2 i hij)
        have := fitA_rel hi d 0 _ _ _ (fitL_get _ _ _ _ (e2 i hij) j (by omega) hj) (.imm (hr i j hij (by omega)))
        exact Rel.nil_rel (by simpa using this)
    ·exact h.elim
   ·have h : _ = _ := h
    subst h
    rw [hr.nils_inv]; exact .imm (.sl0 _ _)
   ·exact h.elim
  ·split at h
   ·obtain ⟨e1, e2⟩ := h
    subst e1; subst e2
    cases hr with | imm hr => exact .imm (hr.up hi)
   ·exact h.elim
  ·split at h
   ·obtain ⟨hl, hg⟩ := lists _ _ h
    obtain ⟨us, rfl, u2, u3, u4⟩ := hr.agg_inv
    exact .agg _ us (by omega) u3 (hg us u4)
   ·exact h.elim
  ·split at h
   ·obtain ⟨hl, hg⟩ := lists _ _ h
    obtain ⟨us, rfl, u2, u4⟩ := hr.tup_inv
    exact .tup _ us (by omega) (hg us u4)
   ·exact h.elim
  ·split at h
   ·rw [andL_cons] at h
    obtain ⟨h1, h⟩ := h
    subst h1
    obtain ⟨hl, hg⟩ := lists _ _ h
    obtain ⟨us, rfl, u2, u4⟩ := hr.fn_inv
    exact .fn _ _ us (by omega) (hg us u4)
   ·exact h.elim

theorem fitBs_len : ∀ (n : Nat) (xs ys : List Blk), andL (fitBs n xs ys) → ys.length ≤ xs.length
 | _, _, [], _ => Nat.zero_le _
 | n, x :: xs, y :: ys, h => by
  rw [fitBs, andL_append] at h
  simp; exact fitBs_len n xs ys h.2
 | _, [], _ :: _, h => h.elim
theorem fitBs_get : ∀ (n : Nat) (xs ys : List Blk), andL (fitBs n xs ys) → ∀ j (h : j < xs.length) (h' : j < ys.length), andL (fitB n xs[j] ys[j])
 | _, [], _, _, j, h, _ => by simp at h
 | _, _ :: _, [], _, j, _, h' => by simp at h'
 | n, x :: xs, y :: ys, h, j, h1, h2 => by
  rw [fitBs, andL_append] at h
  cases j with
  | zero => exact h.1
  | succ j => exact fitBs_get n xs ys h.2 j (by simpa using h1) (by simpa using h2)

theorem fitB_rel (hi : ∀ b, im b → im' b) {n : Nat} {x y : Blk} {p : IdE} (h : andL (fitB n x y)) (hr : BRel ids im w x p) : BRel (ids.take n) im' w y p := by
 unfold fitB at h
 split at h
 ·rename_i ty cs ty' cs'
  split at h
  ·rename_i ht
   have ht := Nat.eq_of_beq_eq_true ht
   subst ht
   have hl := fitL_len _ _ _ _ h
   cases p with
   | dead => exact hr
   | stale => exact hr
   | virt => exact hr
   | gho vs => exact hr
   | lv p =>
    obtain ⟨vs, h1, h2, h3, h4⟩ := hr
    exact ⟨vs, h1, h2, by omega, fun j hj hj' => ⟨fitA_rel hi 4 n _ _ _ (fitL_get _ _ _ _ h j (by omega) hj) (h4 j (by omega) hj').1, (h4 j (by omega) hj').2⟩⟩
  ·exact h.elim
 ·rename_i ty sz n1 row ty' sz' n1' row'
  split at h
  ·rename_i ht hs
   have ht := Nat.eq_of_beq_eq_true ht
   have hs := Nat.eq_of_beq_eq_true hs
   subst ht; subst hs
   obtain ⟨e1, e2⟩ := h
   subst e1
   cases p with
   | dead => exact hr
   | stale => exact hr
   | virt => exact hr
   | gho vs => exact hr
   | lv p =>
    obtain ⟨g1, g2, vs, h1, h2, h3, hl, h4⟩ := hr
    rcases e2 with e2 | e2
    ·refine ⟨g1, g2, vs, h1, h2, h3, fun i hi => by rw [← e2 i hi]; exact hl i hi, ?_⟩
     intro i j hi' hj hj'
     have := h4 i j hi' (by rw [e2 i hi']; exact hj) hj'
     simp only [e2 i hi'] at this
     exact ⟨this.1.up hi, this.2⟩
    ·refine ⟨g1, g2, vs, h1, h2, h3, fun i hi => by rw [← fitL_len _ _ _ _ (e2 i hi)]; exact hl i hi, ?_⟩
     intro i j hi' hj hj'
     have hlen := fitL_len _ _ _ _ (e2 i hi')
     have h5 := h4 i j hi' (by omega) hj'
     have := fitA_rel (ids := []) hi 4 0 _ _ _ (fitL_get _ _ _ _ (e2 i hi') j (by omega) hj) (.imm h5.1)
     exact ⟨Rel.nil_rel (by simpa using this), h5.2⟩
  ·exact h.elim
 ·rename_i ty ety sz n1 ho le row ty' ety' sz' n1' ho' le' row'
  split at h
  ·rename_i ht he hs
   have ht := Nat.eq_of_beq_eq_true ht
   have he := Nat.eq_of_beq_eq_true he
   have hs := Nat.eq_of_beq_eq_true hs
   subst ht; subst hs; subst he
   obtain ⟨e1, e2⟩ := h
   subst e1
   cases p with
   | dead => exact hr
   | stale => exact hr
   | virt => exact hr
   | gho vs => exact hr
   | lv p =>
    obtain ⟨g1, g2, g3, vs, h1, h2, h3, kb, h4⟩ := hr
    refine ⟨g1, g2, g3, vs, h1, h2, h3, kb, fun i hi' hh h => ?_⟩
    obtain ⟨k1, k2, k3⟩ := h4 i hi' hh h
    refine ⟨?_, k2, k3⟩
    obtain ⟨e3, e4⟩ := e2 i hi'
    rcases k1 with ⟨q1, q2, q3⟩ | ⟨q, cap, us, q1, q2, q3, q4, q5, q6, q7, q8⟩
    ·exact .inl ⟨q1, by omega, q3⟩
    ·refine .inr ⟨q, cap, us, by rw [← e3]; exact q1, q2, q3, q4, by omega, q6, fun i' hi'' => by rw [← e4 i' (by omega)]; exact q7 i' (by omega), ?_⟩
     intro i' j hi'' hj hj'
     have := q8 i' j (by omega) (by rw [e4 i' (by omega)]; exact hj) hj'
     simp only [e4 i' (by omega)] at this
     exact ⟨this.1.up hi, this.2⟩
  ·exact h.elim
 ·obtain ⟨e1, e2, e3, e4⟩ := h
  subst e1; subst e2
  cases p with
  | dead => exact hr
  | stale => exact hr
  | virt => exact hr
  | gho vs => exact hr
  | lv p =>
   obtain ⟨es, clock, f, h1, h2, h3, h4, h5⟩ := hr
   exact ⟨es, clock, f, h1, fun i h => by rw [← e3]; exact h2 i h, h3, fun k g1 g2 => h4 k g1 (by rw [e3]; exact g2), fun i h => by rw [← e4 _ (h2 i h).2.2]; exact (h5 i h).up hi⟩
 ·have hl := fitL_len _ _ _ _ h
  cases p with
  | dead => exact hr
  | stale => exact hr
  | virt => exact hr
  | lv p => exact hr
  | gho vs => exact ⟨by rw [← hl]; exact hr.1, fun j hj hj' => fitA_rel hi 4 n _ _ _ (fitL_get _ _ _ _ h j (by omega) hj) (hr.2 j (by omega) hj')⟩
 ·have hr : p = .dead := hr
  exact hr
 ·have hr : p = .stale := hr
  exact hr
 ·exact h.elim

theorem Sim.fit (hs : Sim c s m a w ids) {s' : List A} {m' : List Blk} (h : fitS s m s' m') : Sim c s' m' a w (ids.take m'.length) := by
 unfold fitS at h
 rw [andL_append] at h
 obtain ⟨h1, h2⟩ := h
 have hl := fitL_len _ _ _ _ h1
 have hlb := fitBs_len _ _ _ h2
 have hi : ∀ b, imOf c ids w b → imOf c (ids.take m'.length) w b := by
  rintro b (h | ⟨q1, q2, q3⟩)
  ·exact .inl h
  ·exact .inr ⟨q1, q2, fun p hp => q3 p (List.mem_of_mem_take hp)⟩
 have hidl : ids.length = m.length := hs.mlen
 refine ⟨hs.defers, by rw [hs.len, hl], ?_, by simp; omega, ?_, ?_, ?_, hs.frame, hs.im0lt, fun vs h => hs.gho vs (List.mem_of_mem_take h)⟩
 ·intro i g1 g2
  exact fitA_rel hi 5 _ _ _ _ (fitL_get _ _ _ _ h1 i (by omega) g1) (hs.slots i (by omega) g2)
 ·intro b g1 g2
  have := hs.blks b (by omega) (by omega)
  rw [List.getElem_take]
  exact fitB_rel hi (fitBs_get _ _ _ h2 b (by omega) g1) this
 ·intro i j p q x g1 g2 g3 g3'
  rw [List.getElem?_take] at g1 g2
  split at g1
  ·split at g2
   ·exact hs.distinctX i j p q x g1 g2 g3 g3'
   ·cases g2
  ·cases g1
 ·intro p hp; exact hs.freshX p (List.mem_of_mem_take hp)
theorem WkS_of_fit {s' : List A} {m' : List Blk} (h : fitS s m s' m') : WkS s m s' m' := fun _ _ _ _ hs => ⟨_, hs.fit h⟩
end
end Go.Proofs.YtcomiiakkhafpaaGreat.Am
namespace Go.Proofs.YtcomiiakkhafpaaGreat.Am
variable [Inhabited DRT]
open Go.RowKit (Below)

def ret1 (tt : TT) (rv : ResultVar) (s : List A) (m : List Blk) (K : A → Prop) : Prop :=
 match rv with
 | .tmp t => fd 3 (wk m 5 (s.getD t .junk)) K
 | .cell p t => sLoad tt t (s.getD p .junk) m fun v _ => fd 3 (wk m 5 v) K
def retL (tt : TT) : List ResultVar → List A → List Blk → (List A → Prop) → Prop
 | [], _, _, K => K []
 | r :: rs, s, m, K => ret1 tt r s m fun v => retL tt rs s m fun vs => K (v :: vs)
def fitR (vs : List A) (r : A) : Prop :=
 match vs with
 | [v] => andL (fitA 6 0 v r)
 | vs => andL (fitA 6 0 (.tup vs) r)
def retQ (tt : TT) (fn : Func) (r : A) : Exit → List A → List Blk → Prop
 | .ret, s, m => retL tt fn.results.toList s m fun vs => fitR vs r
 | .normal, s, m => retL tt fn.results.toList s m fun vs => fitR vs r
 | _, _, _ => False

def resOf (tmps : Array Value) : ResultVar → Sem Value
 | .tmp t => pure (tmps.getD t undef)
 | .cell p t => do loadVar t (← asAddr (tmps.getD p undef))

section
variable {c : Ctx} {s : List A} {m : List Blk} {a : Act} {w w' : World} {ids ids' : Ids} {P : Program} {im im' : Nat → Prop} {tt : TT} {G : GInv}

theorem sLoad_run (htt : TTok P tt) (hs : Sim c s m a w ids) {t : TypeId} {x : A} {v : Value} (hx : Rel ids (imOf c ids w) w x v) {K : KT} (h : sLoad tt t x m K) :
  ∃ ad r u, v = .pointer (some ad) ∧ (loadVar t ad).run P w = .ok u w ∧ K r m ∧ Rel ids (imOf c ids w) w r u := by
 unfold sLoad at h
 split at h
 ·exact h.elim
 ·rename_i ti ht
  split at h
  ·rename_i b off
   split at h
   ·rename_i ty cs hb
    obtain ⟨p, hid, hv⟩ := hs.ref_at hx (by rw [hb]; simp)
    obtain ⟨r, v, h1, h2, h3⟩ := ldA_sound (P := P) htt ht (base := 0) (hs.run_box hid hb) h
    rw [Nat.zero_add] at h1
    exact ⟨_, r, v, hv, h1, h2, h3⟩
   ·exact h.elim
  ·rename_i b i off
   split at h
   ·rename_i ty sz n row hb
    obtain ⟨p, hid, hv⟩ := hs.oref_at hx (by rw [hb]; simp)
    obtain ⟨hi, h⟩ := h
    rw [fl_eq] at h
    obtain ⟨r, v, h1, h2, h3⟩ := ldA_sound (P := P) htt ht (hs.run_row hid hb hi) h
    exact ⟨_, r, v, hv, h1, h2, h3⟩
   ·exact h.elim
  ·rename_i cs off
   cases hx with
   | imm hx =>
    cases hx with
    | bref blk base _ _ vs hb hc hov hr =>
     have hrun : Run ids (imOf c ids w) w cs blk base := by
      refine ⟨(List.range cs.length).map vs, by simp, ?_, ?_, ?_⟩
      ·intro j hj; simp at hj; simpa using hc j hj
      ·intro v hv; simp at hv; obtain ⟨j, hj, rfl⟩ := hv; exact hov j hj
      ·intro j hj hj'; simpa using Rel.imm (hr j hj)
     obtain ⟨r, v, h1, h2, h3⟩ := ldA_sound (P := P) htt ht hrun h
     exact ⟨_, r, v, rfl, h1, h2, h3⟩
  ·exact h.elim

theorem ret1_run (htt : TTok P tt) (hs : Sim c s m a w ids) (rv : ResultVar) {K : A → Prop} (h : ret1 tt rv s m K) :
  ∃ r v, (resOf a.tmps rv).run P w = .ok v w ∧ K r ∧ RelI (imAll c ids w) w r v := by
 cases rv with
 | tmp t =>
  simp only [ret1, fd_eq] at h
  exact ⟨_, a.tmps.getD t undef, rfl, h, wk_rel hs 5 _ _ (hs.ev (.tmp t))⟩
 | cell p t =>
  simp only [ret1, fd_eq] at h
  obtain ⟨ad, r, u, h1, h2, h3, h4⟩ := sLoad_run (P := P) htt hs (hs.ev (.tmp p)) h
  refine ⟨_, u, ?_, h3, wk_rel hs 5 _ _ h4⟩
  have h1 : a.tmps.getD p undef = .pointer (some ad) := h1
  show (do loadVar t (← asAddr (a.tmps.getD p undef)) : Sem Value).run P w = _
  rw [h1]
  simp [asAddr, h2]

theorem retL_run (htt : TTok P tt) (hs : Sim c s m a w ids) : ∀ (rs : List ResultVar) {K : List A → Prop}, retL tt rs s m K →
  ∃ (xs : List A) (vs : List Value), (rs.mapM (resOf a.tmps)).run P w = .ok vs w ∧ K xs ∧
   vs.length = xs.length ∧ ∀ j (h : j < xs.length) (h' : j < vs.length), RelI (imAll c ids w) w xs[j] vs[j]
 | [], K, h => ⟨[], [], by simp, h, rfl, fun j h => absurd h (Nat.not_lt_zero _)⟩
 | rv :: rs, K, h => by
  obtain ⟨r, v, h1, h2, h3⟩ := ret1_run (P := P) htt hs rv h
  obtain ⟨xs, vs, g1, g2, g3, g4⟩ := retL_run htt hs rs h2
  refine ⟨r :: xs, v :: vs, ?_, g2, by simp [g3], ?_⟩
  ·rw [List.mapM_cons]
   simp only [Sem.run_bind, h1, Result.andThen_ok, g1]
   rfl
  ·intro j hj hj'
   cases j with
   | zero => exact h3
   | succ j => exact g4 j (by simpa using hj) (by simpa using hj')

theorem results_eq (fn : Func) (tmps : Array Value) : results fn tmps = (do let vs ← fn.results.mapM (resOf tmps); pure (if h : vs.size = 1 then vs[0] else .tuple vs)) := by
 unfold results
 have : ∀ f g : ResultVar → Sem Value, f = g → (do let vs ← fn.results.mapM f; pure (if h : vs.size = 1 then vs[0] else .tuple vs)) = (do let vs ← fn.results.mapM g; pure (if h : vs.size = 1 then vs[0] else .tuple vs)) := by
  rintro f _ rfl; rfl
 apply this
 funext x; cases x <;> rfl
theorem results_run {fn : Func} {vs : List Value} (h : (fn.results.toList.mapM (resOf a.tmps)).run P w = .ok vs w) :
  (results fn a.tmps).run P w = .ok (if h : vs.toArray.size = 1 then vs.toArray[0] else .tuple vs.toArray) w := by
 rw [results_eq]
 have e : (fn.results.mapM (resOf a.tmps)).run P w = .ok vs.toArray w := by
  rw [Array.mapM_eq_mapM_toList, map_eq_pure_bind]
  simp only [Sem.run_bind, h, Result.andThen_ok]
  rfl
 simp only [Sem.run_bind, e, Result.andThen_ok]
 rfl

theorem retQ_body (htt : TTok P tt) (hs : Sim c s m a w ids) {fn : Func} {r : A} (h : retL tt fn.results.toList s m fun vs => fitR vs r) :
  ∃ v, (results fn a.tmps).run P w = .ok v w ∧ RelI (fun b => c.im0 b ∨ (c.new b ∧ b < w.heap.size)) w r v := by
 obtain ⟨xs, vs, h1, h2, h3, h4⟩ := retL_run (P := P) htt hs _ h
 refine ⟨_, results_run h1, ?_⟩
 have hi : ∀ b, imAll c ids w b → c.im0 b ∨ (c.new b ∧ b < w.heap.size) := by
  rintro b ((h | ⟨q1, q2, _⟩) | ⟨p, hp, hx⟩)
  ·exact .inl h
  ·exact .inr ⟨q1, q2⟩
  ·exact .inr (hs.freshX p hp b hx)
 have fin : ∀ x v, andL (fitA 6 0 x r) → RelI (imAll c ids w) w x v → RelI (fun b => c.im0 b ∨ (c.new b ∧ b < w.heap.size)) w r v := by
  intro x v hf hr
  have := fitA_rel (ids := []) (n := 0) hi 6 x r v hf (.imm hr)
  exact this.nil_rel
 unfold fitR at h2
 split at h2
 ·rename_i x
  have : vs.length = 1 := by simpa using h3
  match vs, this with
  | [v], _ => exact fin x v h2 (h4 0 (by simp) (by simp))
 ·rename_i hne
  have hne : ¬ vs.length = 1 := by
   intro e
   rw [e] at h3
   match xs, h3 with
   | [x], _ => exact hne x rfl
  rw [dif_neg (by simpa using hne)]
  exact fin _ _ h2 (.tup xs vs h3 h4)

theorem ACalls.of_WA (htt : TTok P tt) {f : FuncId} {fn : Func} {cd : Code} {args : List A} {r : A} (hf : P.funcs[f]? = some fn) (hb : fn.body = some cd)
  (hn : (fn.name == "runtime.NumGoroutine") = false) (k : Nat) (hk : fn.ntmps - args.length = k)
  (h : fl (args ++ List.replicate k .junk) fun s => WA P G cd (retQ tt fn r) s []) : ACalls P G f args r := by
 rw [fl_eq] at h
 refine ⟨⟨fn, cd, hf, hb, hn⟩, ?_⟩
 intro im w vs him hG hl hr
 refine calls_of_wp hf hb ?_
 unfold WA at h
 have hsim : Sim ⟨w, im, fun _ => False, []⟩ (args ++ List.replicate k .junk) [] ⟨vs.toArray ++ Array.replicate (fn.ntmps - vs.toArray.size) undef, []⟩ w [] := by
  refine ⟨rfl, by simp [hl, hk], ?_, rfl, fun b h => absurd h (Nat.not_lt_zero _), (fun b b' p q x h => by simp at h), (fun p h => by cases h), Fr.refl _ _ _ _, fun b hb => ⟨him b hb, fun h => h⟩, (fun vs h => by cases h)⟩
  intro i h1 h2
  by_cases hi : i < args.length
  ·rw [List.getElem_append_left hi, Array.getElem_append_left (by simp; omega)]
   have := hr i hi (by omega)
   exact .imm (by simpa using this.up (fun b hb => .inl hb))
  ·rw [List.getElem_append_right (by omega)]
   simp only [List.getElem_replicate]
   exact .imm (.junk _)
 have hnew : ∀ (w' : World) (b : Nat), im b ∨ (Ctx.new ⟨w, im, fun _ => False, []⟩ b ∧ b < w'.heap.size) → im b ∨ (w.heap.size ≤ b ∧ b < w'.heap.size) := by
  rintro w' b (h | ⟨h | h, h2⟩)
  ·exact .inl h
  ·exact .inr ⟨h, h2⟩
  ·exact h.elim
 refine wp_mono (h ⟨w, im, fun _ => False, []⟩ _ w [] ⟨hG, fun _ h => h.elim⟩ hsim) ?_
 rintro e a' w' ⟨s', m', ids', hq, hs'⟩
 cases e with
 | ret =>
  obtain ⟨v, h1, h2⟩ := retQ_body (P := P) htt hs' hq
  exact ⟨hs'.defers, v, h1, v, rfl, h2.up (hnew w'), hs'.frame.below fun _ h => h⟩
 | normal =>
  obtain ⟨v, h1, h2⟩ := retQ_body (P := P) htt hs' hq
  exact ⟨hs'.defers, v, h1, v, rfl, h2.up (hnew w'), hs'.frame.below fun _ h => h⟩
 | _ => exact hq.elim

/-! ### Loops, with the slots that the body writes forgotten -/
def writes : Code → List Nat
 | .region _ ops _ => ops.toList.filterMap (·.dst)
 | .seq x y => writes x ++ writes y
 | .cond _ x y => writes x ++ writes y
 | .block _ x => writes x
 | .loop x => writes x
 | _ => []
def memN (i : Nat) : List Nat → Bool
 | [] => false
 | j :: js => match Nat.beq i j with
  | true => true
  | false => memN i js
def jk (ws : List Nat) : Nat → List A → List A
 | _, [] => []
 | i, x :: xs => (match memN i ws with | true => .junk | false => x) :: jk ws (i + 1) xs
def ovr : List (Nat × A) → List A → List A
 | [], s => s
 | (i, v) :: l, s => ovr l (s.set i v)
def headS (body : Code) (s : List A) (ov : List (Nat × A)) : List A := ovr ov (jk (writes body) 0 s)
def roundF {ι : Type} (body : Code) (s0 : List A) (ov : ι → List (Nat × A)) (M : ι → List Blk) (μ : ι → Nat) (i : ι) (Q : Exit → List A → List Blk → Prop) : Exit → List A → List Blk → Prop
 | .normal, s, m => ∃ j, μ j < μ i ∧ fl (headS body s0 (ov j)) fun s' => fitS s m s' (M j)
 | e, s, m => Q e s m
theorem WA_loopO {Q : Exit → List A → List Blk → Prop} {ι : Type} {body : Code} (ov : ι → List (Nat × A)) (M : ι → List Blk) (μ : ι → Nat) (i0 : ι)
  (h0 : fl (headS body s (ov i0)) fun s' => fitS s m s' (M i0))
  (hr : ∀ i, fl (headS body s (ov i)) fun s' => WA P G body (roundF body s ov M μ i Q) s' (M i)) : WA P G (.loop body) Q s m := by
 rw [fl_eq] at h0
 refine WA_loop (fun i => headS body s (ov i)) M μ i0 (WkS_of_fit h0) ?_
 intro i
 have := hr i
 rw [fl_eq] at this
 refine WA_mono this ?_
 intro e s' m' hq
 cases e with
 | normal =>
  obtain ⟨j, h1, h2⟩ := hq
  rw [fl_eq] at h2
  exact ⟨j, h1, WkS_of_fit h2⟩
 | _ => exact hq

def roundI {ι : Type} (body : Code) (s0 : List A) (I : ι → Prop) (ov : ι → List (Nat × A)) (M : ι → List Blk) (μ : ι → Nat) (i : ι) (Q : Exit → List A → List Blk → Prop) : Exit → List A → List Blk → Prop
 | .normal, s, m => ∃ j, I j ∧ μ j < μ i ∧ fl (headS body s0 (ov j)) fun s' => fitS s m s' (M j)
 | e, s, m => Q e s m
/-- A loop whose rounds are told by an index that keeps a law. -/
theorem WA_loopI {Q : Exit → List A → List Blk → Prop} {ι : Type} {body : Code} (I : ι → Prop) (ov : ι → List (Nat × A)) (M : ι → List Blk) (μ : ι → Nat) (i0 : ι) (hI : I i0)
  (h0 : fl (headS body s (ov i0)) fun s' => fitS s m s' (M i0))
  (hr : ∀ i, I i → fl (headS body s (ov i)) fun s' => WA P G body (roundI body s I ov M μ i Q) s' (M i)) : WA P G (.loop body) Q s m := by
 refine WA_loopO (ι := {i : ι // I i}) (fun i => ov i.1) (fun i => M i.1) (fun i => μ i.1) ⟨i0, hI⟩ h0 ?_
 rintro ⟨i, hi⟩
 have := hr i hi
 rw [fl_eq] at this ⊢
 refine WA_mono this ?_
 intro e s' m' hq
 cases e with
 | normal =>
  obtain ⟨j, h1, h2, h3⟩ := hq
  exact ⟨⟨j, h1⟩, h2, h3⟩
 | _ => exact hq

/-- A slot that holds a nil slice holds a row of ours that has no place yet. -/
theorem WA_nil {Q : Exit → List A → List Blk → Prop} {code : Code} (k : Nat) (ty : TypeId) (sz : Nat) (hk : s[k]? = some .nils)
  (h : fnat m.length fun n => setF s k (.own n) fun s' => pushB m (.row ty sz 0 fun _ => []) fun _ m' => WA P G code Q s' m') : WA P G code Q s m := by
 rw [fnat_eq, setF_eq, pushB_eq] at h
 unfold WA at h ⊢
 intro c a w ids hG hs
 have hs1 := hs.grow (Bw.refl _ w) [.row ty sz 0 fun _ => []] [.virt] rfl (fun i h1 h2 => by
   have : i = 0 := by simp at h1; omega
   subst this; exact rfl) (fun p h => by simp at h) (fun vs h => by simp at h) (fun i j p q x h1 => by
   cases i with
   | zero => simp at h1
   | succ i => simp at h1)
 have hlt : k < s.length := by
  rcases Nat.lt_or_ge k s.length with h' | h'
  ·exact h'
  ·rw [List.getElem?_eq_none h'] at hk; cases hk
 have hv := hs.slots k hlt (by rw [hs.len]; exact hlt)
 have hsk : s[k] = .nils := by rw [List.getElem?_eq_getElem hlt] at hk; exact Option.some.inj hk
 rw [hsk] at hv
 have hs2 := hs1.reslot k (x := .own m.length) (by
  rw [Array.getD_eq_getD_getElem?, Array.getElem?_eq_getElem (by rw [hs.len]; exact hlt)]
  simp only [Option.getD_some]
  rw [hv.nils_inv]
  exact .own0 _ (by rw [← hs.mlen]; simp))
 exact h c a w _ hG hs2
end
end Go.Proofs.YtcomiiakkhafpaaGreat.Am
namespace Go.Proofs.YtcomiiakkhafpaaGreat.Am
variable [Inhabited DRT]
open Go.RowKit (Below)
/-- A contract serves arguments that may be taken for its own. -/
theorem ACalls.fit {P : Program} {G : GInv} {f : FuncId} {args args' : List A} {r : A} (h : ACalls P G f args r) (hf : andL (fitA.fitL 6 0 args' args)) : ACalls P G f args' r := by
 refine ⟨h.1, ?_⟩
 intro im w vs him hG hl hr
 have hlen := fitL_len _ _ _ _ hf
 refine h.2 im w vs him hG (by omega) ?_
 intro j h1 h2
 have := fitA_rel (ids := []) (im := im) (im' := im) (w := w) (fun _ h => h) 6 0 _ _ _ (fitL_get _ _ _ _ hf j (by omega) h1) (.imm (hr j (by omega) h2))
 exact Rel.nil_rel (by simpa using this)
end Go.Proofs.YtcomiiakkhafpaaGreat.Am
namespace Go.Proofs.YtcomiiakkhafpaaGreat.Am
/-! ### What holds where draws are told holds where they are not -/
theorem bw_lift {i j : Inhabited DRT} (h : (@default DRT j).ns) {n : Nat} {w w' : World} (k : @Bw i n w w') : @Bw j n w w' := by
 cases k with
 | mk a b c d e f => exact @Bw.mk j n w w' a b c d e (Or.inl h)
theorem calls_lift {i j : Inhabited DRT} {P : Program} {G : GInv} {f : FuncId} {args : List A} {r : A} (h : (@default DRT j).ns) (c : @ACalls i P G f args r) : @ACalls j P G f args r := by
 refine And.intro c.1 (fun im w vs h1 h2 h3 h4 => Calls_mono (c.2 im w vs h1 h2 h3 h4) ?_)
 rintro e w' ⟨v, k1, k2, k3⟩
 exact ⟨v, k1, k2, bw_lift h k3⟩
abbrev drF : Inhabited DRT := ⟨⟨False⟩⟩
end Go.Proofs.YtcomiiakkhafpaaGreat.Am
namespace Go.Proofs.YtcomiiakkhafpaaGreat.Am
variable [Inhabited DRT]
/-- What a branch's test says, in plain words: all rules as one. -/
theorem brsA : (∀ (p : Prop) [Decidable p], (decide p = true) = p) ∧ (∀ (p : Prop) [Decidable p], (decide p = false) = ¬ p) ∧ (∀ (α : Type) [BEq α] [LawfulBEq α] (a b : α), ((a == b) = true) = (a = b)) ∧
  (∀ (α : Type) [BEq α] [LawfulBEq α] (a b : α), ((a == b) = false) = (a ≠ b)) ∧ (∀ (α : Type) [BEq α] [LawfulBEq α] (a b : α), ((a != b) = true) = (a ≠ b)) ∧ (∀ (α : Type) [BEq α] [LawfulBEq α] (a b : α), ((a != b) = false) = (a = b)) ∧
  (∀ (α : Type) (a b : α), (a ≠ b) = ¬ (a = b)) ∧ (∀ b : Bool, ((!b) = true) = (b = false)) ∧ (∀ b : Bool, ((!b) = false) = (b = true)) ∧ (∀ b : Bool, (¬ b = true) = (b = false)) ∧ (∀ (p : Prop) [Decidable p], (¬ ¬ p) = p) :=
 ⟨fun _ _ => by simp, fun _ _ => by simp, fun _ _ _ _ _ => by simp, fun _ _ _ _ _ => by simp, fun _ _ _ _ _ => by simp, fun _ _ _ _ _ => by simp, fun _ _ _ => rfl, fun _ => by simp, fun _ => by simp, fun _ => by simp, fun _ _ => by simp⟩
theorem brsE : (∀ a b : Int, (a == b) = decide (a = b)) ∧ (∀ a b : Int, (a != b) = !decide (a = b)) ∧ (∀ a b : Bool, ((a && b) = true) = (a = true ∧ b = true)) ∧ (∀ a b : Bool, ((a || b) = true) = (a = true ∨ b = true)) ∧ (∀ b : Bool, ((!b) = true) = (b = false)) ∧ (∀ b : Bool, ((!b) = false) = (b = true)) ∧
  (∀ a b : Bool, ((a && b) = false) = (a = false ∨ b = false)) ∧ (∀ a b : Bool, ((a || b) = false) = (a = false ∧ b = false)) ∧ (∀ (p : Prop) [Decidable p], (decide p = true) = p) ∧ (∀ (p : Prop) [Decidable p], (decide p = false) = ¬ p) ∧ ((true = true) = True) ∧ ((false = true) = False) ∧ ((true = false) = False) ∧ ((false = false) = True) ∧ (∀ p : Prop, (p ∧ True) = p) ∧ (∀ p : Prop, (p ∨ False) = p) :=
 ⟨fun _ _ => rfl, fun _ _ => rfl, fun _ _ => by simp, fun _ _ => by simp, fun _ => by simp, fun _ => by simp, fun a b => by cases a <;> cases b <;> simp, fun _ _ => by simp, fun _ _ => by simp, fun _ _ => by simp, by simp, by simp, by simp, by simp, by simp, by simp⟩
end Go.Proofs.YtcomiiakkhafpaaGreat.Am
namespace Go.Proofs.YtcomiiakkhafpaaGreat.Am
variable [Inhabited DRT]
open Go.RowKit Go.ChangeShapes

section
variable {H : Type} {enc : TypeId × Value → H} {P : Program}
/-- Each argument reads behind the call as it read before. -/
theorem trodAll_below (hl : laidOutB P = true) {W W' : World} (hb : Below W.heap.size W W') : ∀ (ts : List TypeId) (vs : List Value) (ds : List (DataW H)) (ps : List MemPlace),
  ts.all (fun t => P.readableRec t && decide (t < P.types.size)) = true → DataW.TrodAll enc P W 0 (fun _ => true) true ts vs ds ps → (∀ x ∈ ps, x.block < W.heap.size) →
  DataW.TrodAll enc P W' 0 (fun b => decide (b < W.heap.size)) true ts vs ds ps
 | [], vs, ds, ps, _, h, _ => by
  obtain ⟨rfl, rfl, rfl⟩ := trodAll_nil h
  rfl
 | t :: ts, vs, ds, ps, hts, h, hlt => by
  obtain ⟨v, vs', d, ds', p, q, rfl, rfl, rfl, h1, h2⟩ := trodAll_cons h
  simp only [List.all_cons, Bool.and_eq_true, decide_eq_true_eq] at hts
  exact ⟨p, q, Below.trod hl hts.1.1 hts.1.2 h1 hb (fun x hx => hlt x (List.mem_append_left _ hx)), trodAll_below hl hb ts vs' ds' q hts.2 h2 (fun x hx => hlt x (List.mem_append_right _ hx)), rfl⟩

/-- A law that returned true, in a world that is as it was below the heap's old size. -/
theorem post_true {f : Func} {s : ChangeSpec} {apart fresh handsOn : Bool} {W W' : World} {args : Array Value} {ds gs : List (DataW H)} {before : List MemPlace} {tb : TypeId}
  (hl : laidOutB P = true) (hv : s.vars = []) (hr : f.resultTypes = #[tb]) (htb : P.underlying tb = some .bool)
  (hts : f.params.toList.all (fun t => P.readableRec t && decide (t < P.types.size)) = true)
  (hfn : s.fn H (ds ++ gs) = { results := [.lit (.bool true)], args := ds })
  (hW : DataW.Whole enc P f.params.toList s.vars apart W args.toList ds gs before) (hb : Below W.heap.size W W') :
  s.post enc P f apart fresh handsOn false W args (.bool true) W' := by
 have hW' := hW
 obtain ⟨p, q, hA, hV, rfl, hz, hn⟩ := hW
 rw [hv] at hV
 obtain ⟨rfl, rfl⟩ := trodVars_none hV
 refine ⟨ds, [], p ++ [], [], p, [], hW', ?_, ?_, ?_, hb.frame _, fun h => by cases h⟩
 ·rw [hfn, hr]
  exact trodAll_mk1 (shut_bool htb _)
 ·rw [hfn]
  exact trodAll_below hl hb _ _ _ _ hts hA (fun x hx => hW'.lt x (by simpa using hx))
 ·rw [hfn, hv]; rfl
end

/-- From a contract to a call. -/
theorem calls_true {P : Program} {G : GInv} {f : FuncId} {as : List A} (h : ACalls P G f as (.sb true)) {W : World} {vs : List Value} {im : Nat → Prop} (him : ∀ b, im b → b < W.heap.size) (hG : G.G W) (hl : vs.length = as.length)
  (hr : ∀ j (h : j < as.length) (h' : j < vs.length), RelI im W as[j] vs[j]) : Calls P f vs.toArray W fun e W' => e = .returned (.bool true) ∧ Below W.heap.size W W' := by
 refine Calls_mono (h.2 im W vs him hG hl hr) ?_
 rintro e W' ⟨v, rfl, hv, hb⟩
 cases hv
 exact ⟨rfl, hb.below⟩
end Go.Proofs.YtcomiiakkhafpaaGreat.Am
namespace Go.Proofs.YtcomiiakkhafpaaGreat.Am
variable [Inhabited DRT]
open Go.RowKit Go.ChangeShapes

/-- Each value of a type, read by the claim's reader, is one of ours. -/
def Opens (P : Program) (t : TypeId) {α : Type} (f : α → List A) (ok : α → Prop) : Prop :=
 ∀ (H : Type) (enc : TypeId × Value → H) (w : World) (im : Nat → Prop) (base : Nat) (sp : Nat → Bool) (held : Bool) (fuel : Nat) (cs : List Value) (d : DataW H) (ps : List MemPlace),
  DataW.trod enc P w base sp held fuel t cs = some (d, ps) → (∀ p ∈ ps, im p.block) →
  ∃ x : α, ok x ∧ cs.length = (f x).length ∧ (∀ v ∈ cs, oneV v) ∧ ∀ j (h : j < (f x).length) (h' : j < cs.length), RelI im w (f x)[j] cs[j]

section
variable {P : Program} {t : TypeId}
theorem opens_int {k : IntKind} (ht : P.underlying t = some (.int k)) : Opens P t (fun n : Int => [.int k n]) (fun n => k.min ≤ n ∧ n ≤ k.max) := by
 intro H enc w im base sp held fuel cs d ps h him
 obtain ⟨n, rfl, _, hw⟩ := DataW.trod_int ht h
 refine ⟨n, by simpa [Lit.wf] using hw, rfl, fun v hv => ?_, fun j h h' => ?_⟩
 ·simp at hv; subst hv; rfl
 ·have : j = 0 := by simp at h; omega
  subst this; exact .int k n
theorem opens_i64 (ht : P.underlying t = some (.int .i64)) : Opens P t (fun n : Int => [.int .i64 n]) (fun n => -9223372036854775808 ≤ n ∧ n ≤ 9223372036854775807) := by
 intro H enc w im base sp held fuel cs d ps h him
 obtain ⟨x, h1, h2⟩ := opens_int ht H enc w im base sp held fuel cs d ps h him
 refine ⟨x, ?_, h2⟩
 have e1 : IntKind.i64.min = -9223372036854775808 := rfl
 have e2 : IntKind.i64.max = 9223372036854775807 := rfl
 omega
/-- Fields, one behind the other: type, place, size. -/
def OpensF (P : Program) (o : Nat) (L : List (TypeId × Nat × Nat)) {α : Type} (g : α → List A) (ok : α → Prop) : Prop :=
 ∀ (H : Type) (enc : TypeId × Value → H) (w : World) (im : Nat → Prop) (base : Nat) (sp : Nat → Bool) (held : Bool) (n : Nat) (cs : List Value) (xs : List (DataW H × List MemPlace)), xs.length = L.length → (∀ x ∈ xs, ∀ p ∈ x.2, im p.block) →
   (∀ (i : Nat) q, L[i]? = some q → DataW.trod enc P w base sp held n q.1 ((cs.drop q.2.1).take q.2.2) = xs[i]?) → o + (L.map fun q => q.2.2).sum = cs.length →
   ∃ x : α, ok x ∧ (g x).length = cs.length - o ∧ (∀ v ∈ cs.drop o, oneV v) ∧ ∀ j (h : j < (g x).length) (h' : o + j < cs.length), RelI im w (g x)[j] cs[o + j]
theorem opensF_nil {o : Nat} : OpensF P o [] (fun _ : Unit => []) (fun _ => True) := by
 intro H enc w im base sp held n cs xs _ _ _ hsum
 simp at hsum
 exact ⟨(), trivial, by simp; omega, by rw [List.drop_of_length_le (by omega)]; simp, fun j h => absurd h (Nat.not_lt_zero _)⟩
theorem opensF_cons {o k : Nat} {L : List (TypeId × Nat × Nat)} {α β : Type} {g1 : α → List A} {g2 : β → List A} {ok : α → Prop} {ok' : β → Prop} (h : Opens P t g1 ok)
      (hs : OpensF P (o + k) L g2 ok') : OpensF P o ((t, o, k) :: L) (fun x : α × β => g1 x.1 ++ g2 x.2) (fun x => ok x.1 ∧ ok' x.2) := by
 intro H enc w im base sp held n cs xs hl him hx hsum
 match xs, hl with
 | x :: xs, hl =>
  have h0 := hx 0 _ rfl
  simp only [List.getElem?_cons_zero] at h0
  simp only [List.map_cons, List.sum_cons] at hsum
  obtain ⟨a, a1, a2, a3, a4⟩ := h H enc w im base sp held n _ x.1 x.2 h0 (him x (by simp))
  obtain ⟨b, b1, b2, b3, b4⟩ := hs H enc w im base sp held n cs xs (by simpa using hl) (fun y hy => him y (by simp [hy])) (fun i f' hf => by simpa using hx (i + 1) f' (by simpa using hf)) (by omega)
  rw [List.length_take, List.length_drop] at a2
  have a2' : (g1 a).length = k := by omega
  refine ⟨(a, b), ⟨a1, b1⟩, by simp [a2', b2]; omega, ?_, ?_⟩
  ·intro v hv
   rw [← List.take_append_drop k (cs.drop o)] at hv
   rcases List.mem_append.1 hv with hv | hv
   ·exact a3 v hv
   ·rw [List.drop_drop] at hv; exact b3 v hv
  ·intro j h1 h2
   by_cases hj : j < k
   ·have := a4 j (by omega) (by rw [List.length_take, List.length_drop]; omega)
    simp only [List.getElem_append_left (show j < (g1 a).length by omega)]
    rw [List.getElem_take, List.getElem_drop] at this
    exact this
   ·have := b4 (j - k) (by simp [a2'] at h1; omega) (by omega)
    simp only [List.getElem_append_right (show (g1 a).length ≤ j by omega)]
    have e : o + k + (j - k) = o + j := by omega
    simp only [a2', e] at this ⊢
    exact this
def fieldsOf (P : Program) (t : TypeId) : Option (List (TypeId × Nat × Nat)) :=
 match P.underlying t with
 | some (.struct fs) => some (fs.toList.map fun f => (f.type, f.offset, P.cellsOf f.type))
 | _ => none
theorem opens_struct {L : List (TypeId × Nat × Nat)} {α : Type} {g : α → List A} {ok : α → Prop} (ht : fieldsOf P t = some L) (hsz : (L.map fun q => q.2.2).sum = P.cellsOf t) (h : OpensF P 0 L g ok) : Opens P t g ok := by
 intro H enc w im base sp held fuel cs d ps hd him
 unfold fieldsOf at ht
 split at ht
 ·rename_i fs hu
  cases ht
  obtain ⟨xs, n, _, e, hl, hxl, hx⟩ := DataW.trod_struct hu hd
  cases e
  obtain ⟨x, h1, h2, h3, h4⟩ := h H enc w im base sp held n cs xs (by simpa using hxl) (fun x hx p hp => him p (List.mem_flatMap.2 ⟨x, hx, hp⟩)) (fun i q hf => by
   rw [List.getElem?_map] at hf
   rcases hf' : fs.toList[i]? with _ | f
   ·rw [hf'] at hf; cases hf
   ·rw [hf'] at hf; cases hf
    exact hx i f (by simpa using hf')) (by omega)
  exact ⟨x, h1, by omega, by simpa using h3, fun j a b => by simpa using h4 j a (by omega)⟩
 ·cases ht
theorem opens_array {n : Nat} {e : TypeId} {L : List (TypeId × Nat × Nat)} {α : Type} {g : α → List A} {ok : α → Prop} (ht : P.underlying t = some (.array n e)) (hL : (List.range n).map (fun i => (e, i * P.cellsOf e, P.cellsOf e)) = L)
  (hsz : (L.map fun q => q.2.2).sum = P.cellsOf t) (h : OpensF P 0 L g ok) : Opens P t g ok := by
 intro H enc w im base sp held fuel cs d ps hd him
 obtain ⟨xs, m, _, e1, hl, hxl, hx⟩ := DataW.trod_array ht hd
 cases e1
 subst hL
 obtain ⟨x, h1, h2, h3, h4⟩ := h H enc w im base sp held m cs xs (by simpa using hxl) (fun x hx p hp => him p (List.mem_flatMap.2 ⟨x, hx, hp⟩)) (fun i q hf => by
  rw [List.getElem?_map] at hf
  rcases hf' : (List.range n)[i]? with _ | f
  ·rw [hf'] at hf; cases hf
  ·rw [hf'] at hf; cases hf
   have hi : i < n := by
    have := (List.getElem?_eq_some_iff.1 hf').1
    simpa using this
   have : f = i := by simpa [hi] using hf'.symm
   subst this
   exact hx f hi) (by omega)
 exact ⟨x, h1, by omega, by simpa using h3, fun j a b => by simpa using h4 j a (by omega)⟩
/-- The same, in other words. -/
theorem Opens.to {α β : Type} {g : α → List A} {ok : α → Prop} {g' : β → List A} {ok' : β → Prop} (h : Opens P t g ok) (f : α → β) (hg : ∀ x, g x = g' (f x)) (hok : ∀ x, ok x → ok' (f x)) : Opens P t g' ok' := by
 intro H enc w im base sp held fuel cs d ps hd him
 obtain ⟨x, h1, h2⟩ := h H enc w im base sp held fuel cs d ps hd him
 rw [hg] at h2
 exact ⟨f x, hok x h1, h2⟩
theorem opens_slice {e : TypeId} {α : Type} [Inhabited α] {g : α → List A} {ok : α → Prop} {sz : Nat} (ht : P.underlying t = some (.slice e)) (h : Opens P e g ok) (hsz : P.cellsOf e = sz) (hpos : 0 < sz) :
  Opens P t (fun l : List α => [.sl l.length sz fun i => g (l.getD i default)]) (fun l => l.length ≤ maxLen ∧ ∀ x ∈ l, ok x) := by
 intro H enc w im base sp held fuel cs d ps hd him
 rcases Deep.open_slice ht hd with ⟨rfl, _⟩ | ⟨a, len, cap, m, n, D, Pl, rfl, hb, hl, hcm, hm, he, hx⟩
 ·refine ⟨[], ⟨Nat.zero_le _, fun _ h => by cases h⟩, rfl, fun v hv => ?_, fun j h h' => ?_⟩
  ·simp at hv; subst hv; rfl
  ·have : j = 0 := by simp at h; omega
   subst this; exact .sl0 _ _
 ·cases he
  have hlm : len ≤ m := by rw [hm]; split <;> omega
  have key : ∀ i, i < len → ∃ x : α, ok x ∧ (g x).length = sz ∧ (∀ j, j < sz → ∃ v, w.cell? (a.add (i * sz + j)) = some v ∧ oneV v ∧ ∀ (h : j < (g x).length), RelI im w (g x)[j] v) := by
   intro i hi
   obtain ⟨cs', h1, h2⟩ := hx i (by omega)
   obtain ⟨x, x1, x2, x3, x4⟩ := h H enc w im base sp held n cs' _ _ h2 (fun p hp => him p (List.mem_append_right _ (List.mem_flatMap.2 ⟨i, by simp; omega, hp⟩)))
   obtain ⟨_, c1, c2⟩ := World.cells?_some h1
   rw [hsz] at c1 c2
   refine ⟨x, x1, by omega, fun j hj => ⟨cs'[j]'(by omega), ?_, x3 _ (List.getElem_mem _), fun h => x4 j h (by omega)⟩⟩
   have := c2 j hj
   rw [Deep.add_add] at this
   rw [this, List.getElem?_eq_getElem]
  obtain ⟨X, hX⟩ := Deep.choose_lt key
  refine ⟨(List.range len).map X, ⟨by simp; omega, ?_⟩, rfl, fun v hv => by simp at hv; subst hv; rfl, ?_⟩
  ·intro x hx
   simp only [List.mem_map, List.mem_range] at hx
   obtain ⟨i, hi, rfl⟩ := hx
   exact (hX i hi).1
  ·intro j h h'
   have : j = 0 := by simp at h; omega
   subst this
   show RelI im w (.sl ((List.range len).map X).length sz fun i => g (((List.range len).map X).getD i default)) (.slice (some a) len cap)
   have e1 : ((List.range len).map X).length = len := by simp
   rw [e1]
   have e2 : ∀ i, i < len → ((List.range len).map X).getD i default = X i := by
    intro i hi; simp [List.getD_eq_getElem?_getD, hi]
   rcases Nat.eq_zero_or_pos len with h0 | h0
   ·subst h0; exact .sle _ _ _ _
   ·have hsp : a.spot = none := by
     obtain ⟨v, hv, _⟩ := (hX 0 h0).2.2 0 hpos
     rw [Nat.zero_mul, Nat.add_zero] at hv
     unfold Addr.add at hv
     rw [if_pos rfl] at hv
     unfold World.cell? at hv
     split at hv
     ·split at hv
      ·cases hv
      ·rename_i h; simpa using h
     ·cases hv
    obtain ⟨blk, off, spot⟩ := a
    simp only at hsp
    subst hsp
    have hV : ∀ i, i < len → ∃ f : Nat → Value, ∀ j, j < sz → w.cell? ⟨blk, off + i * sz + j, none⟩ = some (f j) ∧ oneV (f j) ∧ ∀ (h : j < (g (X i)).length), RelI im w (g (X i))[j] (f j) := by
     intro i hi
     obtain ⟨f, hf⟩ := Deep.choose_lt (hX i hi).2.2
     refine ⟨f, fun j hj => ?_⟩
     have := hf j hj
     rw [show Addr.add ⟨blk, off, none⟩ (i * sz + j) = ⟨blk, off + i * sz + j, none⟩ from by unfold Addr.add; split <;> simp_all <;> omega] at this
     exact this
    obtain ⟨V, hV⟩ := Deep.choose_lt hV
    refine .sl len sz _ blk off cap V (him _ (List.mem_append_left _ (List.mem_map.2 ⟨0, ?_, rfl⟩))) hl ?_ ?_ ?_ ?_
    ·rw [List.mem_range, hsz]; exact Nat.mul_pos (by omega) hpos
    ·intro i hi; rw [e2 i hi]; exact (hX i hi).2.1
    ·intro i j hi hj; exact (hV i hi j hj).1
    ·intro i j hi hj; exact (hV i hi j hj).2.1
    ·intro i j hi hj
     simp only [e2 i hi] at hj ⊢
     exact (hV i hi j (by rw [← (hX i hi).2.1]; exact hj)).2.2 hj
/-- An argument that is cells. -/
theorem Opens.cell {α : Type} {g : α → A} {ok : α → Prop} (h : Opens P t (fun x => [g x]) ok) {H : Type} {enc : TypeId × Value → H} {w : World} {im : Nat → Prop} {base : Nat} {sp : Nat → Bool} {held : Bool} {v : Value} {d : DataW H} {ps : List MemPlace}
  (hd : DataW.Trod enc P w base sp held t v d ps) (hv : ∀ cs, v ≠ .agg cs) (him : ∀ p ∈ ps, im p.block) : ∃ x, ok x ∧ RelI im w (g x) v := by
 obtain ⟨fuel, hd⟩ := hd
 obtain ⟨x, h1, h2, h3, h4⟩ := h H enc w im base sp held fuel _ d ps hd him
 have hc : v.cells = #[v] := by
  cases v <;> first | rfl | exact absurd rfl (hv _) | skip
 refine ⟨x, h1, ?_⟩
 have := h4 0 (by simp) (by rw [hc]; simp)
 simpa [hc] using this
theorem Opens.agg {α : Type} {g : α → List A} {ok : α → Prop} (h : Opens P t g ok) {H : Type} {enc : TypeId × Value → H} {w : World} {im : Nat → Prop} {base : Nat} {sp : Nat → Bool} {held : Bool} {v : Value} {d : DataW H} {ps : List MemPlace}
  (hd : DataW.Trod enc P w base sp held t v d ps) (hv : ∃ cs, v = .agg cs) (him : ∀ p ∈ ps, im p.block) : ∃ x, ok x ∧ RelI im w (.agg (g x)) v := by
 obtain ⟨fuel, hd⟩ := hd
 obtain ⟨cs, rfl⟩ := hv
 obtain ⟨x, h1, h2, h3, h4⟩ := h H enc w im base sp held fuel _ d ps hd him
 refine ⟨x, h1, ?_⟩
 have e : (Value.agg cs).cells = cs := rfl
 rw [e] at h2 h3 h4
 have := RelI.agg (im := im) (w := w) (g x) cs.toList h2 h3 h4
 simpa using this
/-- The same of an argument, whichever it is, by its type. -/
theorem okWide_agg {r : Reach} {w : World} {base : Nat} {v : Value} (hval : Value.okWide P w r base t v) (ha : (match P.underlying t with | some (.struct _) => true | some (.array _ _) => true | _ => false) = true) : ∃ cs, v = .agg cs := by
 unfold Value.okWide at hval
 split at hval
 ·obtain ⟨cs, h, _⟩ := hval; exact ⟨cs, h⟩
 ·obtain ⟨cs, h, _⟩ := hval; exact ⟨cs, h⟩
 ·rename_i h1 h2
  split at ha
  ·rename_i fs h; exact absurd h (h1 fs)
  ·rename_i n e h; exact absurd h (h2 n e)
  ·cases ha
theorem okWide_cell {r : Reach} {w : World} {base : Nat} {v : Value} (hval : Value.okWide P w r base t v) (ha : (match P.underlying t with | some (.int _) => true | some .bool => true | some .string => true | some (.slice _) => true | _ => false) = true) : ∀ cs, v ≠ .agg cs := by
 rintro cs rfl
 unfold Value.okWide at hval
 split at hval
 ·rename_i fs h; rw [h] at ha; cases ha
 ·rename_i n e h; rw [h] at ha; cases ha
 ·unfold Cell.okWide at hval
  split at hval <;> first | (rename_i h1 h2; cases h2; done) | skip
  unfold Cell.ok at hval
  split at hval <;> first | (rename_i h1 h2; cases h2; done) | exact hval.elim
end
end Go.Proofs.YtcomiiakkhafpaaGreat.Am

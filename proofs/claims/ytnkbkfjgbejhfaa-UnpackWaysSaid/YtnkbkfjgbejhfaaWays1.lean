/-
  What the program unpacks of a hierarchy.
-/
import Derived.Test.YtnkbkfjgbejhfaaBm4
import Derived.Test.YtnkbkfjgbejhfaaBase7
import Derived.Test.YtnkbkfjgbejhfaaBm3
set_option linter.unusedSimpArgs false
set_option linter.unusedSectionVars false
set_option linter.unusedVariables false
set_option maxRecDepth 100000
set_option maxHeartbeats 4000000
namespace Go.Proofs.Ytnkbkfjgbejhfaa.Am
variable [Inhabited DRT]
open Go.RowKit Go.ChangeShapes
section
variable {P : Program} {t : TypeId}
theorem okWide_cell {r : Reach} {w : World} {base : Nat} {v : Value} (hval : Value.okWide P w r base t v) (ha : (match P.underlying t with | some (.int _) => true | some .bool => true | some .string => true | some (.slice _) => true | _ => false) = true) : ∀ cs, v ≠ .agg cs := by
 rintro cs rfl
 unfold Value.okWide at hval
 split at hval
 ·rename_i fs h; rw [h] at ha; cases ha
 ·rename_i n e h; rw [h] at ha; cases ha
 ·unfold Cell.okWide at hval
  split at hval <;> first | (rename_i h1 h2; cases h2; done) | skip
  unfold Cell.ok at hval
  split at hval <;> first | (rename_i h1 h2; cases h2; done) | exact hval.elim
/-- An argument that is cells. -/
theorem Opens.cell {α : Type} {g : α → A} {ok : α → Prop} (h : Opens P t (fun x => [g x]) ok) {H : Type} {enc : TypeId × Value → H} {w : World} {im : Nat → Prop} {base : Nat} {sp : Nat → Bool} {held : Bool} {v : Value} {d : DataW H} {ps : List MemPlace}
  (hd : DataW.Trod enc P w base sp held t v d ps) (hv : ∀ cs, v ≠ .agg cs) (him : ∀ p ∈ ps, im p.block) : ∃ x, ok x ∧ RelI im w (g x) v := by
 obtain ⟨fuel, hd⟩ := hd
 obtain ⟨x, h1, h2, h3, h4⟩ := h H enc w im base sp held fuel _ d ps hd him
 have hc : v.cells = #[v] := by
  cases v <;> first | rfl | exact absurd rfl (hv _) | skip
 refine ⟨x, h1, ?_⟩
 have := h4 0 (by simp) (by rw [hc]; simp)
 simpa [hc] using this
end
end Go.Proofs.Ytnkbkfjgbejhfaa.Am
namespace Go.Proofs.Ytnkbkfjgbejhfaa
open Go.Proofs.Ytnkbkfjgbejhfaa.Am Go.HeapL
variable [Inhabited DRT]
variable {G : GInv}
def lk0 : Lk := ⟨0, 0, 0, 0⟩
theorem link_c (rk : List Int) (ls : List Lk) (a b : Int) (hl : ls.length ≤ 1000000) (hr : rk.length ≤ 1000000) :
  ACalls Try.prog G 68 [.agg [intsA rk, lksA ls], .int .i64 a, .int .i64 b]
   (.tup [.agg (lkA (if MayP rk ls ∧ 0 ≤ posL ls a b then ls.getD (posL ls a b).toNat default else lk0)), .sb (decide (MayP rk ls ∧ 0 ≤ posL ls a b))]) := by
 refine ACalls.of_WA ttok Try.func68 rfl rfl _ rfl ?_
 conv => whnf
 repeat' (first | refine sq ?_ | refine bk ?_ | ((first | refine rg ttok ?_ | refine dw ttok mixed ?_ | refine cd ?_ | refine sk ?_ | refine xt ?_ | refine rt ?_); conv => whnf) | (refine And.intro (fun h => ?_) (fun h => ?_) <;> (try simp only [brsA] at h) <;> conv => whnf) | (refine Or.inl ?_; (conv => whnf); refine ⟨_, may_c rk ls hl hr, ?_⟩; conv => whnf) | ((first | refine wf ?_ | refine wp' ?_ | refine ai ?_ | refine And.intro rfl ?_ | refine an ?_ | fail); conv => whnf))
 ·rw [if_neg (fun hh => h hh.1), decide_eq_false (fun hh => h hh.1)]
  conv => whnf
  repeat (first | exact fa | ((first | refine fb ?_ | (refine And.intro ?_ ?_; rotate_left)); conv => whnf))
 ·have hS := h.2.2.2.1
  have hM := h
  have q1 := posL_ok hS (a := a) (b := b)
  refine Or.inl ?_
  conv => whnf
  refine Exists.intro _ (And.intro (find_s hS _ _ hl) ?_)
  conv => whnf
  repeat' (first | refine sq ?_ | refine bk ?_ | ((first | refine rg ttok ?_ | refine dw ttok mixed ?_ | refine cd ?_ | refine sk ?_ | refine xt ?_ | refine rt ?_); conv => whnf) | (refine And.intro (fun h => ?_) (fun h => ?_) <;> (try simp only [brsA] at h) <;> conv => whnf) | ((first | refine wf ?_ | refine wp' ?_ | refine ai ?_ | refine And.intro rfl ?_ | refine an ?_ | fail); conv => whnf))
  ·rw [if_neg (fun hh => h hh.2), decide_eq_false (fun hh => h hh.2)]
   conv => whnf
   repeat (first | exact fa | ((first | refine fb ?_ | (refine And.intro ?_ ?_; rotate_left)); conv => whnf))
  ·obtain ⟨e1, e2, e3⟩ := q1 h
   rw [if_pos ⟨hM, h⟩, decide_eq_true (show MayP rk ls ∧ 0 ≤ posL ls a b from ⟨hM, h⟩)]
   rw [show (posL ls a b).toNat = bsL ls a b by omega]
   conv => whnf
   repeat (first | exact fa | ((first | refine fb ?_ | (refine And.intro ?_ ?_; rotate_left)); conv => whnf))
end Go.Proofs.Ytnkbkfjgbejhfaa
namespace Go.Proofs.Ytnkbkfjgbejhfaa
open Go.Proofs.Ytnkbkfjgbejhfaa.Am
variable [Inhabited DRT]
/-! ### Links, unpacked: plain laws -/
def lkP (ls : List Lk) (a b : Int) : Lk := ls.getD (posL ls a b).toNat default
def tL (ls : List Lk) : Nat → Int → Int → List Int
 | 0, _, b => [b]
 | d + 1, a, b => if (lkP ls a b).m = -1 then [b] else tL ls d a (lkP ls a b).m ++ tL ls d (lkP ls a b).m b
def tD (ls : List Lk) : Nat → Int → Int → Int
 | 0, _, _ => 1
 | d + 1, a, b => if (lkP ls a b).m = -1 then 1 else max (tD ls d a (lkP ls a b).m + 1) (tD ls d (lkP ls a b).m b)
def tN (ls : List Lk) : Nat → Int → Int → Nat
 | 0, _, _ => 1
 | d + 1, a, b => if (lkP ls a b).m = -1 then 1 else 1 + tN ls d a (lkP ls a b).m + tN ls d (lkP ls a b).m b
def nuL (rk : List Int) (a b : Int) : Nat := (min (rk.getD a.toNat 0) (rk.getD b.toNat 0)).toNat
structure LinkF (rk : List Int) (ls : List Lk) (a b : Int) : Prop where
 f : (lkP ls a b).f = a
 t : (lkP ls a b).t = b
 ok : okL rk.length (lkP ls a b)
 mid : (lkP ls a b).m = -1 ∨ ((0 ≤ (lkP ls a b).m ∧ (lkP ls a b).m < rk.length) ∧ rk.getD (lkP ls a b).m.toNat 0 < rk.getD a.toNat 0 ∧ rk.getD (lkP ls a b).m.toNat 0 < rk.getD b.toNat 0 ∧ 0 ≤ posL ls a (lkP ls a b).m ∧ 0 ≤ posL ls (lkP ls a b).m b)
theorem linkF {rk : List Int} {ls : List Lk} (hM : MayP rk ls) {a b : Int} (h : 0 ≤ posL ls a b) : LinkF rk ls a b := by
 rcases posL_cases ls a b with ⟨h1, _⟩ | ⟨j, h1, h2, h3, h4⟩
 ·omega
 ·have e : lkP ls a b = ls.getD j default := by unfold lkP; rw [h1]; rfl
  have hok := (hM.2.2.2.1 j h2).1
  refine ⟨by rw [e]; exact h3, by rw [e]; exact h4, by rw [e]; exact hok, ?_⟩
  rw [e]
  rcases hM.2.2.2.2 j h2 with h5 | h5
  ·exact .inl h5
  ·obtain ⟨j1, j2, j3, j4, j5, _⟩ := h5
   rw [h3] at j2 j4
   rw [h4] at j3 j5
   exact .inr ⟨j1, j2, j3, j4, j5⟩
theorem nu_down {rk : List Int} {ls : List Lk} (hM : MayP rk ls) {a b : Int} (h : 0 ≤ posL ls a b) (hm : (lkP ls a b).m ≠ -1) :
  nuL rk a (lkP ls a b).m < nuL rk a b ∧ nuL rk (lkP ls a b).m b < nuL rk a b := by
 have hl := linkF hM h
 rcases hl.mid with h1 | ⟨h1, h2, h3, _⟩
 ·exact absurd h1 hm
 ·have hR := (hM.2.2.1 (lkP ls a b).m.toNat (by omega)).1
  unfold nuL
  omega
theorem nu_lt {rk : List Int} {ls : List Lk} (hM : MayP rk ls) {a b : Int} (h : 0 ≤ posL ls a b) : nuL rk a b < rk.length := by
 have hl := linkF hM h
 have ho := hl.ok
 obtain ⟨h1, h2, _⟩ := ho
 rw [hl.f] at h1
 rw [hl.t] at h2
 have r1 := (hM.2.2.1 a.toNat (by omega)).1
 have r2 := (hM.2.2.1 b.toNat (by omega)).1
 unfold nuL; omega
theorem t_fuel {rk : List Int} {ls : List Lk} (hM : MayP rk ls) : ∀ (d e : Nat) (a b : Int), 0 ≤ posL ls a b → nuL rk a b < d → nuL rk a b < e → tL ls d a b = tL ls e a b ∧ tD ls d a b = tD ls e a b ∧ tN ls d a b = tN ls e a b
 | 0, _, a, b, _, h, _ => by omega
 | _, 0, a, b, _, _, h => by omega
 | d + 1, e + 1, a, b, hp, h1, h2 => by
  simp only [tL, tD, tN]
  by_cases hm : (lkP ls a b).m = -1
  ·simp only [if_pos hm]; exact ⟨trivial, trivial, trivial⟩
  ·simp only [if_neg hm]
   have hl := linkF hM hp
   obtain ⟨n1, n2⟩ := nu_down hM hp hm
   rcases hl.mid with h3 | ⟨_, _, _, p1, p2⟩
   ·exact absurd h3 hm
   ·obtain ⟨a1, a2, a3⟩ := t_fuel hM d e a (lkP ls a b).m p1 (by omega) (by omega)
    obtain ⟨b1, b2, b3⟩ := t_fuel hM d e (lkP ls a b).m b p2 (by omega) (by omega)
    rw [a1, a2, a3, b1, b2, b3]; exact ⟨rfl, rfl, rfl⟩
abbrev TL (rk : List Int) (ls : List Lk) (a b : Int) := tL ls rk.length a b
abbrev TD (rk : List Int) (ls : List Lk) (a b : Int) := tD ls rk.length a b
abbrev TN (rk : List Int) (ls : List Lk) (a b : Int) := tN ls rk.length a b
theorem T_leaf {rk : List Int} {ls : List Lk} (hM : MayP rk ls) {a b : Int} (h : 0 ≤ posL ls a b) (hm : (lkP ls a b).m = -1) : TL rk ls a b = [b] ∧ TD rk ls a b = 1 ∧ TN rk ls a b = 1 := by
 have := nu_lt hM h
 cases hn : rk.length with
 | zero => omega
 | succ d => simp only [TL, TD, TN, hn, tL, tD, tN, if_pos hm]; exact ⟨trivial, trivial, trivial⟩
theorem T_node {rk : List Int} {ls : List Lk} (hM : MayP rk ls) {a b : Int} (h : 0 ≤ posL ls a b) (hm : (lkP ls a b).m ≠ -1) :
  TL rk ls a b = TL rk ls a (lkP ls a b).m ++ TL rk ls (lkP ls a b).m b ∧ TD rk ls a b = max (TD rk ls a (lkP ls a b).m + 1) (TD rk ls (lkP ls a b).m b) ∧ TN rk ls a b = 1 + TN rk ls a (lkP ls a b).m + TN rk ls (lkP ls a b).m b := by
 have h0 := nu_lt hM h
 have hl := linkF hM h
 obtain ⟨n1, n2⟩ := nu_down hM h hm
 rcases hl.mid with h3 | ⟨_, _, _, p1, p2⟩
 ·exact absurd h3 hm
 ·have f := t_fuel hM rk.length (rk.length + 1) a b h h0 (by omega)
  obtain ⟨f1, f2, f3⟩ := f
  refine ⟨f1.trans ?_, f2.trans ?_, f3.trans ?_⟩
  ·simp only [tL, if_neg hm]
  ·simp only [tD, if_neg hm]
  ·simp only [tN, if_neg hm]
theorem TL_pos (ls : List Lk) : ∀ (d : Nat) (a b : Int), 0 < (tL ls d a b).length
 | 0, _, _ => by simp [tL]
 | d + 1, a, b => by
  simp only [tL]
  split
  ·simp
  ·have := TL_pos ls d a (lkP ls a b).m
   simp; omega
theorem TD_pos (ls : List Lk) : ∀ (d : Nat) (a b : Int), 1 ≤ tD ls d a b
 | 0, _, _ => by simp [tD]
 | d + 1, a, b => by
  simp only [tD]
  split
  ·omega
  ·have := TD_pos ls d a (lkP ls a b).m; omega
theorem TDp (rk : List Int) (ls : List Lk) (a b : Int) : 1 ≤ TD rk ls a b := TD_pos ls rk.length a b
end Go.Proofs.Ytnkbkfjgbejhfaa
namespace Go.Proofs.Ytnkbkfjgbejhfaa
open Go.Proofs.Ytnkbkfjgbejhfaa.Am
variable [Inhabited DRT]
variable {G : GInv}
/-- Each link's Mid, by its ends: the last one tells. -/
def midO : List Lk → Int → Int → Option Int
 | [], _, _ => none
 | x :: l, a, b => match midO l a b with
  | some m => some m
  | none => if x.f = a ∧ x.t = b then some x.m else none
theorem midO_snoc (l : List Lk) (x : Lk) (a b : Int) : midO (l ++ [x]) a b = if x.f = a ∧ x.t = b then some x.m else midO l a b := by
 induction l with
 | nil => simp [midO]
 | cons y l ih =>
  simp only [List.cons_append, midO, ih]
  by_cases h : x.f = a ∧ x.t = b
  ·simp only [if_pos h]
  ·simp only [if_neg h]
theorem midO_none (l : List Lk) (a b : Int) (h : ∀ k, k < l.length → ¬ ((l.getD k default).f = a ∧ (l.getD k default).t = b)) : midO l a b = none := by
 induction l with
 | nil => rfl
 | cons y l ih =>
  simp only [midO, ih (fun k hk => by simpa using h (k + 1) (by simpa using hk))]
  rw [if_neg (by simpa using h 0 (by simp))]
theorem midO_some (l : List Lk) (a b : Int) (j : Nat) (hj : j < l.length) (h : (l.getD j default).f = a ∧ (l.getD j default).t = b)
  (hu : ∀ k, k < l.length → (l.getD k default).f = a ∧ (l.getD k default).t = b → k = j) : midO l a b = some (l.getD j default).m := by
 induction l generalizing j with
 | nil => simp at hj
 | cons y l ih =>
  simp only [midO]
  cases j with
  | zero =>
   rw [midO_none l a b (fun k hk hh => by have := hu (k + 1) (by simpa using hk) (by simpa using hh); omega)]
   simp only
   rw [if_pos (by simpa using h)]; rfl
  | succ j =>
   rw [ih j (by simpa using hj) (by simpa using h) (fun k hk hh => by have := hu (k + 1) (by simpa using hk) (by simpa using hh); omega)]
   simp
theorem uniq {n : Nat} {ls : List Lk} (hS : SortedP n ls) {i j : Nat} (hi : i < ls.length) (hj : j < ls.length) (h1 : (ls.getD i default).f = (ls.getD j default).f) (h2 : (ls.getD i default).t = (ls.getD j default).t) : i = j := by
 have key : ∀ i j, i < j → j < ls.length → (ls.getD i default).f = (ls.getD j default).f → (ls.getD i default).t = (ls.getD j default).t → False := by
  intro i j hij hj h1 h2
  have := rising hS i (j - i - 1) (by omega)
  rw [show i + (j - i - 1 + 1) = j by omega] at this
  unfold lexLt at this
  omega
 rcases Nat.lt_trichotomy i j with h | h | h
 ·exact (key i j h hj h1 h2).elim
 ·exact h
 ·exact (key j i h hi h1.symm h2.symm).elim
theorem midO_pos {n : Nat} {ls : List Lk} (hS : SortedP n ls) (a b : Int) : midO ls a b = if 0 ≤ posL ls a b then some (lkP ls a b).m else none := by
 rcases posL_cases ls a b with ⟨h1, h2⟩ | ⟨j, h1, h2, h3, h4⟩
 ·rw [if_neg (by omega)]; exact midO_none ls a b h2
 ·rw [if_pos (by omega)]
  have e : lkP ls a b = ls.getD j default := by unfold lkP; rw [h1]; rfl
  rw [e]
  exact midO_some ls a b j h2 ⟨h3, h4⟩ (fun k hk hh => uniq hS hk h2 (by omega) (by omega))
def mHas (l : List Lk) : List KC → Bool
 | [.int a, .int b] => (midO l a b).isSome
 | _ => false
def mVal (l : List Lk) : List KC → A
 | [.int a, .int b] => .int .i64 ((midO l a b).getD 0)
 | _ => .junk
def midsA (l : List Lk) : A := .mv true [.int .i64, .int .i64] (mHas l) (mVal l)
theorem mHas_put (l : List Lk) (x : Lk) (k : List KC) : putH (mHas l) [.int x.f, .int x.t] true k = mHas (l ++ [x]) k := by
 unfold putH
 by_cases h : k = [.int x.f, .int x.t]
 ·subst h; simp [mHas, midO_snoc]
 ·rw [if_neg h]
  unfold mHas
  split
  ·rename_i a b
   rw [midO_snoc, if_neg (fun hh => h (by rw [hh.1, hh.2]))]
  ·rfl
theorem mVal_put (l : List Lk) (x : Lk) (k : List KC) (hk : putH (mHas l) [.int x.f, .int x.t] true k = true) : putV (mVal l) [.int x.f, .int x.t] (.int .i64 x.m) k = mVal (l ++ [x]) k := by
 unfold putV
 by_cases h : k = [.int x.f, .int x.t]
 ·subst h; simp [mVal, midO_snoc]
 ·rw [if_neg h]
  unfold mVal
  split
  ·rename_i a b
   rw [midO_snoc, if_neg (fun hh => h (by rw [hh.1, hh.2]))]
  ·rfl
theorem mids_c (rk : List Int) (ls : List Lk) (hl : ls.length ≤ 1000000) : ACalls Try.prog G 49 [.agg [intsA rk, lksA ls]] (midsA ls) := by
 refine ACalls.of_WA ttok Try.func49 rfl rfl _ rfl ?_
 conv => whnf
 repeat' (first | refine sq ?_ | refine bk ?_ | ((first | refine rg ttok ?_ | refine dw ttok mixed ?_ | refine cd ?_ | refine sk ?_ | refine xt ?_ | refine rt ?_); conv => whnf) | (refine And.intro (fun h => ?_) (fun h => ?_) <;> (try simp only [brsA] at h) <;> conv => whnf) | ((first | refine wf ?_ | refine wp' ?_ | refine ai ?_ | refine And.intro rfl ?_ | refine an ?_ | fail); conv => whnf))
 refine WA_loopI (fun i : Nat => i ≤ ls.length) (fun i => [(10, .int .i64 (i : Int))]) (fun i => [.box 29 [intsA rk, lksA ls], .mapb true [.int .i64, .int .i64] (mHas (ls.take i)) (mVal (ls.take i))]) (fun i => ls.length - i) 0 (by omega) ?_ ?_
 ·conv => whnf
  repeat (first | exact fa | ((first | refine fb ?_ | (refine And.intro ?_ ?_; rotate_left)); conv => whnf))
  ·intro k h; cases h
  ·intro k; simp only [List.take_zero]; unfold mHas; split <;> rfl
 ·intro i hi
  conv => whnf
  repeat' (first | refine sq ?_ | refine bk ?_ | ((first | refine rg ttok ?_ | refine dw ttok mixed ?_ | refine cd ?_ | refine sk ?_ | refine xt ?_ | refine rt ?_); conv => whnf) | (refine And.intro (fun h => ?_) (fun h => ?_) <;> (try simp only [brsA] at h) <;> conv => whnf) | ((first | refine wf ?_ | refine wp' ?_ | refine ai ?_ | refine And.intro rfl ?_ | refine an ?_ | fail); conv => whnf))
  ·have e : ls.take (i + 1) = ls.take i ++ [ls.getD i default] := by
    rw [List.take_add_one, List.getElem?_eq_getElem (by omega)]
    simp [List.getD_eq_getElem?_getD, show i < ls.length by omega]
   refine ⟨i + 1, (by show i + 1 ≤ ls.length; omega), (by show ls.length - (i + 1) < ls.length - i; omega), ?_⟩
   conv => whnf
   repeat (first | exact fa | ((first | refine fb ?_ | (refine And.intro ?_ ?_; rotate_left)); conv => whnf))
   ·intro k hk; rw [e]; exact mVal_put _ _ k hk
   ·intro k; rw [e]; exact mHas_put _ _ k
  ·rw [List.take_of_length_le (by omega)]
  ·rw [List.take_of_length_le (by omega)]; exact fun _ => rfl
end Go.Proofs.Ytnkbkfjgbejhfaa
namespace Go.Proofs.Ytnkbkfjgbejhfaa
open Go.Proofs.Ytnkbkfjgbejhfaa.Am
variable [Inhabited DRT]
variable {G : GInv}
theorem rowCat_app {α : Type} (e : α → List A) (d : α) (l l2 : List α) (r : Nat → List A) (hr : ∀ j, j < l2.length → r j = e (l2.getD j d)) (i : Nat) (hi : i < l.length + l2.length) :
  rowCat l.length (fun i => e (l.getD i d)) r i = e ((l ++ l2).getD i d) := by
 unfold rowCat
 split
 ·rename_i h
  have h : i < l.length := Nat.le_of_ble_eq_true h
  simp only [List.getD_eq_getElem?_getD, List.getElem?_append_left h]
 ·rename_i h
  have h : ¬ i < l.length := fun h' => by rw [show Nat.blt i l.length = true from Nat.ble_eq_true_of_le h'] at h; cases h
  rw [hr (i - l.length) (by omega)]
  simp only [List.getD_eq_getElem?_getD, List.getElem?_append_right (show l.length ≤ i by omega)]
def flatT (rk : List Int) (ls : List Lk) : List (Int × Int) → List Int
 | [] => []
 | e :: es => flatT rk ls es ++ TL rk ls e.1 e.2
theorem flatT_snoc (rk : List Int) (ls : List Lk) (e : Int × Int) : ∀ st, flatT rk ls (st ++ [e]) = TL rk ls e.1 e.2 ++ flatT rk ls st
 | [] => by simp [flatT]
 | x :: st => by simp only [List.cons_append, flatT, flatT_snoc rk ls e st, List.append_assoc]
def hmT (rk : List Int) (ls : List Lk) : Nat → List (Int × Int) → Int
 | _, [] => 0
 | i, e :: es => max (i + TD rk ls e.1 e.2) (hmT rk ls (i + 1) es)
theorem hmT_snoc (rk : List Int) (ls : List Lk) (e : Int × Int) : ∀ (st : List (Int × Int)) (i : Nat), hmT rk ls i (st ++ [e]) = max (hmT rk ls i st) (i + st.length + TD rk ls e.1 e.2)
 | [], i => by
  have := TDp rk ls e.1 e.2
  simp only [List.nil_append, hmT, List.length_nil]; omega
 | x :: st, i => by
  simp only [List.cons_append, hmT, hmT_snoc rk ls e st (i + 1), List.length_cons]
  omega
theorem hmT_len (rk : List Int) (ls : List Lk) (st : List (Int × Int)) : (st.length : Int) ≤ hmT rk ls 0 st := by
 rcases List.eq_nil_or_concat st with rfl | ⟨st', e, rfl⟩
 ·simp [hmT]
 ·rw [List.concat_eq_append, hmT_snoc]
  have := TDp rk ls e.1 e.2
  simp only [List.length_append, List.length_cons, List.length_nil]
  omega
def szT (rk : List Int) (ls : List Lk) : List (Int × Int) → Nat
 | [] => 0
 | e :: es => TN rk ls e.1 e.2 + szT rk ls es
theorem szT_app (rk : List Int) (ls : List Lk) (l2 : List (Int × Int)) : ∀ st, szT rk ls (st ++ l2) = szT rk ls st + szT rk ls l2
 | [] => by simp [szT]
 | x :: st => by simp only [List.cons_append, szT, szT_app rk ls l2 st]; omega
structure RunI (rk : List Int) (ls : List Lk) (a b : Int) (st : List (Int × Int)) (out : List Int) (dp : Int) : Prop where
 pos : ∀ e ∈ st, 0 ≤ posL ls e.1 e.2
 out : out ++ flatT rk ls st = TL rk ls a b
 dep : max dp (hmT rk ls 0 st) = TD rk ls a b
 dp0 : 0 ≤ dp
def stR (l : List (Int × Int)) : Nat → List A := fun i => [.int .i64 (l.getD i (0, 0)).1, .int .i64 (l.getD i (0, 0)).2]
def inR (l : List Int) : Nat → List A := fun i => [.int .i64 (l.getD i 0)]
theorem RunI.leaf {rk : List Int} {ls : List Lk} (hM : MayP rk ls) {a b : Int} {st : List (Int × Int)} {e : Int × Int} {out : List Int} {dp : Int} (h : RunI rk ls a b (st ++ [e]) out dp) (hm : (lkP ls e.1 e.2).m = -1) :
  RunI rk ls a b st (out ++ [e.2]) (max dp (st.length + 1)) := by
 have hp := h.pos e (by simp)
 obtain ⟨t1, t2, _⟩ := T_leaf hM hp hm
 refine ⟨fun x hx => h.pos x (by simp [hx]), ?_, ?_, by have := h.dp0; omega⟩
 ·have := h.out; rw [flatT_snoc, t1] at this; rw [← this]; simp
 ·have := h.dep; rw [hmT_snoc, t2] at this; rw [← this]; omega
theorem RunI.node {rk : List Int} {ls : List Lk} (hM : MayP rk ls) {a b : Int} {st : List (Int × Int)} {e : Int × Int} {out : List Int} {dp : Int} (h : RunI rk ls a b (st ++ [e]) out dp) (hm : (lkP ls e.1 e.2).m ≠ -1) :
  RunI rk ls a b (st ++ [((lkP ls e.1 e.2).m, e.2), (e.1, (lkP ls e.1 e.2).m)]) out (max dp (st.length + 1)) := by
 have hp := h.pos e (by simp)
 obtain ⟨t1, t2, _⟩ := T_node hM hp hm
 have hl := linkF hM hp
 rcases hl.mid with h3 | ⟨_, _, _, p1, p2⟩
 ·exact absurd h3 hm
 refine ⟨fun x hx => ?_, ?_, ?_, by have := h.dp0; omega⟩
 ·simp only [List.mem_append, List.mem_cons, List.not_mem_nil, or_false] at hx
  rcases hx with hx | rfl | rfl
  ·exact h.pos x (by simp [hx])
  ·exact p2
  ·exact p1
 ·have := h.out; rw [flatT_snoc, t1] at this
  rw [← this, show st ++ [((lkP ls e.1 e.2).m, e.2), (e.1, (lkP ls e.1 e.2).m)] = (st ++ [((lkP ls e.1 e.2).m, e.2)]) ++ [(e.1, (lkP ls e.1 e.2).m)] by simp, flatT_snoc, flatT_snoc]
  simp
 ·have := h.dep; rw [hmT_snoc, t2] at this
  rw [← this, show st ++ [((lkP ls e.1 e.2).m, e.2), (e.1, (lkP ls e.1 e.2).m)] = (st ++ [((lkP ls e.1 e.2).m, e.2)]) ++ [(e.1, (lkP ls e.1 e.2).m)] by simp, hmT_snoc, hmT_snoc]
  have d1 := TDp rk ls e.1 (lkP ls e.1 e.2).m
  have d2 := TDp rk ls (lkP ls e.1 e.2).m e.2
  simp only [List.length_append, List.length_cons, List.length_nil]
  omega
theorem stack_fit (st : List (Int × Int)) (e : Int × Int) (l2 : List (Int × Int)) (r : Nat → List A) (hr : ∀ j, j < l2.length → r j = stR l2 j) (n : Nat) (hn : n = st.length) (i : Nat) (hi : i < n + l2.length) :
  rowCat n (stR (st ++ [e])) r i = stR (st ++ l2) i := by
 subst hn
 unfold rowCat
 split
 ·rename_i h
  have h : i < st.length := Nat.le_of_ble_eq_true h
  simp only [stR, List.getD_eq_getElem?_getD, List.getElem?_append_left h]
 ·rename_i h
  have h : ¬ i < st.length := fun h' => by rw [show Nat.blt i st.length = true from Nat.ble_eq_true_of_le h'] at h; cases h
  rw [hr (i - st.length) (by omega)]
  simp only [stR, List.getD_eq_getElem?_getD, List.getElem?_append_right (show st.length ≤ i by omega)]
theorem pop_fit (st : List (Int × Int)) (e : Int × Int) (i : Nat) (hi : i < st.length) : stR (st ++ [e]) i = stR st i := by
 simp only [stR, List.getD_eq_getElem?_getD, List.getElem?_append_left hi]
theorem run_c (rk : List Int) (ls : List Lk) (hM : MayP rk ls) (a b : Int) (hp : 0 ≤ posL ls a b) (room : Int) (h1 : ((TL rk ls a b).length : Int) ≤ room) (h2 : (TL rk ls a b).length ≤ 1000000) (h3 : TD rk ls a b ≤ 1000000) :
  ACalls Try.prog G 50 [midsA ls, .agg [.int .i64 a, .int .i64 b], .int .i64 room] (.tup [intsA (TL rk ls a b), .int .i64 (TD rk ls a b), .bool true]) := by
 refine ACalls.of_WA ttok Try.func50 rfl rfl _ rfl ?_
 conv => whnf
 repeat' (first | refine sq ?_ | refine bk ?_ | ((first | refine rg ttok ?_ | refine dw ttok mixed ?_ | refine cd ?_ | refine sk ?_ | refine xt ?_ | refine rt ?_); conv => whnf) | (refine And.intro (fun h => ?_) (fun h => ?_) <;> (try simp only [brsA] at h) <;> conv => whnf) | ((first | refine wf ?_ | refine wp' ?_ | refine ai ?_ | refine And.intro rfl ?_ | refine an ?_ | fail); conv => whnf))
 refine WA_nil 6 3 1 rfl ?_
 conv => whnf
 refine WA_loopI (ι := List (Int × Int) × List Int × Int) (fun x => RunI rk ls a b x.1 x.2.1 x.2.2) (fun x => match x with | (st, out, dp) => [(9, .own 1), (13, .junk), (6, .own 2), (7, .int .i64 dp)]) (fun x => match x with | (st, out, dp) => [.box 84 [.int .i64 a, .int .i64 b], .row 84 2 st.length (stR st), .row 3 1 out.length (inR out)])
  (fun x => szT rk ls x.1) ([(a, b)], [], 0) ⟨?_, ?_, ?_, ?_⟩ ?_ ?_
 ·intro e he; simp at he; subst he; exact hp
 ·simp [flatT]
 ·simp only [hmT]; have := TDp rk ls a b; omega
 ·show (0 : Int) ≤ 0; omega
 ·conv => whnf
  repeat (first | exact fa | ((first | refine fb ?_ | (refine And.intro ?_ ?_; rotate_left)); conv => whnf))
  all_goals (refine Or.inl fun i hi => ?_; rcases i with _ | _ | _ | _ | i <;> first | rfl | omega)
 ·rintro ⟨st, out, dp⟩ hI
  have hI : RunI rk ls a b st out dp := hI
  rcases List.eq_nil_or_concat st with rfl | ⟨st, e, rfl⟩
  ·have ho := hI.out
   have hd := hI.dep
   simp only [flatT, List.append_nil] at ho
   simp only [hmT] at hd
   have hd0 := hI.dp0
   have hdp : dp = TD rk ls a b := by omega
   subst ho; subst hdp
   conv => whnf
   repeat' (first | refine sq ?_ | refine bk ?_ | ((first | refine rg ttok ?_ | refine dw ttok mixed ?_ | refine cd ?_ | refine sk ?_ | refine xt ?_ | refine rt ?_); conv => whnf) | (refine And.intro (fun h => ?_) (fun h => ?_) <;> (try simp only [brsA] at h) <;> conv => whnf) | ((first | refine wf ?_ | refine wp' ?_ | refine ai ?_ | refine And.intro rfl ?_ | refine an ?_ | fail); conv => whnf))
   ·simp at h
   ·repeat (first | exact fa | ((first | refine fb ?_ | (refine And.intro ?_ ?_; rotate_left)); conv => whnf))
  ·rw [List.concat_eq_append] at hI ⊢
   have hlen : (st ++ [e]).length = st.length + 1 := by simp
   have hx : (st ++ [e]).getD ((((st ++ [e]).length : Nat) : Int) - 1).toNat (0, 0) = e := by
    rw [show ((((st ++ [e]).length : Nat) : Int) - 1).toNat = st.length by omega]; simp [List.getD_eq_getElem?_getD]
   have hpe := hI.pos e (by simp)
   have hmid := midO_pos hM.2.2.2.1 e.1 e.2
   rw [if_pos hpe] at hmid
   have hsl : ((st ++ [e]).length : Int) ≤ 1000000 := by
    have := hmT_len rk ls (st ++ [e])
    have := hI.dep
    omega
   have hol : out.length < (TL rk ls a b).length := by
    rw [← hI.out, flatT_snoc]
    have : 0 < (TL rk ls e.1 e.2).length := TL_pos ls rk.length e.1 e.2
    simp only [List.length_append]
    omega
   conv => whnf
   repeat' (first | refine sq ?_ | refine bk ?_ | ((first | refine rg ttok ?_ | refine dw ttok mixed ?_ | refine cd ?_ | refine sk ?_ | refine xt ?_ | refine rt ?_); conv => whnf) | (refine And.intro (fun h => ?_) (fun h => ?_) <;> (try simp only [brsA] at h) <;> conv => whnf) | ((first | refine wf ?_ | refine wp' ?_ | refine ai ?_ | refine And.intro rfl ?_ | refine an ?_ | fail); conv => whnf))
   ·simp only [hx, hmid, Option.getD_some] at h ⊢
    have hm : (lkP ls e.1 e.2).m ≠ -1 := by omega
    refine ⟨(st ++ [((lkP ls e.1 e.2).m, e.2), (e.1, (lkP ls e.1 e.2).m)], out, max dp (st.length + 1)), hI.node hM hm, ?_, ?_⟩
    ·show szT rk ls (st ++ [((lkP ls e.1 e.2).m, e.2), (e.1, (lkP ls e.1 e.2).m)]) < szT rk ls (st ++ [e])
     rw [szT_app, szT_app]
     have := (T_node hM hpe hm).2.2
     simp only [szT]; omega
    ·conv => whnf
     repeat (first | exact fa | ((first | refine fb ?_ | (refine And.intro ?_ ?_; rotate_left)); conv => whnf))
     ·show (if dp < ((st ++ [e]).length : Int) then ((st ++ [e]).length : Int) else dp) = max dp (st.length + 1)
      split <;> omega
     ·show ((((st ++ [e]).length : Nat) : Int) - 1).toNat + 2 = (st ++ [((lkP ls e.1 e.2).m, e.2), (e.1, (lkP ls e.1 e.2).m)]).length
      rw [List.length_append, List.length_append]; simp
     ·refine Or.inl fun i hi => ?_
      refine stack_fit st e [((lkP ls e.1 e.2).m, e.2), (e.1, (lkP ls e.1 e.2).m)] _ ?_ _ (by omega) i hi
      intro j hj
      rcases j with _ | _ | j <;> first | rfl | (simp at hj; omega)
   ·omega
   ·simp only [hx, hmid, Option.getD_some] at h ⊢
    rename_i hm
    rw [hx, hmid, Option.getD_some] at hm
    have hm : (lkP ls e.1 e.2).m = -1 := by
     rcases (linkF hM hpe).mid with h5 | ⟨h5, _⟩
     ·exact h5
     ·omega
    refine ⟨(st, out ++ [e.2], max dp (st.length + 1)), hI.leaf hM hm, ?_, ?_⟩
    ·show szT rk ls st < szT rk ls (st ++ [e])
     rw [szT_app]
     have := (T_leaf hM hpe hm).2.2
     simp only [szT]; omega
    ·conv => whnf
     repeat (first | exact fa | ((first | refine fb ?_ | (refine And.intro ?_ ?_; rotate_left)); conv => whnf))
     ·refine Or.inl fun i hi => ?_
      exact rowCat_app (fun y : Int => [A.int .i64 y]) 0 out [e.2] _ (fun j hj => by
       have : j = 0 := by simp at hj; omega
       subst this; rfl) i (by simpa using hi)
     ·show (if dp < ((st ++ [e]).length : Int) then ((st ++ [e]).length : Int) else dp) = max dp (st.length + 1)
      split <;> omega
     ·show ((((st ++ [e]).length : Nat) : Int) - 1).toNat = st.length
      omega
     ·exact Or.inl fun i hi => pop_fit st e i (by omega)
     ·show out.length + 1 = (out ++ [e.2]).length
      simp
   all_goals (simp only [hx, mHas, hmid, Option.isSome_some] at *; first | omega | contradiction | (simp at *))
end Go.Proofs.Ytnkbkfjgbejhfaa
namespace Go.Proofs.Ytnkbkfjgbejhfaa
open Go.Proofs.Ytnkbkfjgbejhfaa.Am Go.HeapL
variable [Inhabited DRT]
variable {G : GInv}
theorem tL_len (ls : List Lk) : ∀ (d : Nat) (a b : Int), (tL ls d a b).length ≤ 2 ^ d ∧ tD ls d a b ≤ d + 1
 | 0, _, _ => by simp [tL, tD]
 | d + 1, a, b => by
  simp only [tL, tD]
  have h1 := tL_len ls d a (lkP ls a b).m
  have h2 := tL_len ls d (lkP ls a b).m b
  have := Nat.one_le_two_pow (n := d)
  split
  ·simp only [List.length_singleton, Nat.pow_succ]; omega
  ·simp only [List.length_append, Nat.pow_succ]; omega
theorem TL_small {rk : List Int} {ls : List Lk} (hr : rk.length ≤ 13) (a b : Int) : (TL rk ls a b).length ≤ 8192 ∧ TD rk ls a b ≤ 14 := by
 have := tL_len ls rk.length a b
 exact ⟨Nat.le_trans this.1 (Nat.le_trans (Nat.pow_le_pow_right (by omega) hr) (by decide)), by have := this.2; unfold TD; omega⟩
/-- A way, unpacked so far. -/
def wayL (rk : List Int) (ls : List Lk) (l : List Int) : Nat → List Int
 | 0 => [l.getD 0 0]
 | k + 1 => wayL rk ls l k ++ TL rk ls (l.getD k 0) (l.getD (k + 1) 0)
theorem wayL_len {rk : List Int} {ls : List Lk} (hr : rk.length ≤ 13) (l : List Int) : ∀ k, 1 ≤ (wayL rk ls l k).length ∧ (wayL rk ls l k).length ≤ 1 + 8192 * k
 | 0 => by simp [wayL]
 | k + 1 => by
  have ih := wayL_len (ls := ls) hr l k
  have := (TL_small (ls := ls) hr (l.getD k 0) (l.getD (k + 1) 0)).1
  unfold wayL
  rw [List.length_append]; omega
theorem mHas_pos {n : Nat} {ls : List Lk} (hS : SortedP n ls) (a b : Int) : mHas ls [.int a, .int b] = decide (0 ≤ posL ls a b) := by
 show (midO ls a b).isSome = _
 rw [midO_pos hS a b]
 by_cases h : 0 ≤ posL ls a b
 ·rw [if_pos h, decide_eq_true h]; rfl
 ·rw [if_neg h, decide_eq_false h]; rfl
/-- The first vertices of a way are there, and so are its links. -/
def WayP (rk : List Int) (ls : List Lk) (l : List Int) (k : Nat) : Prop := ∀ i, i < k → (0 ≤ l.getD i 0 ∧ l.getD i 0 < rk.length) ∧ (0 < i → 0 ≤ posL ls (l.getD (i - 1) 0) (l.getD i 0))
theorem way_ok (rk : List Int) (ls : List Lk) (hl : ls.length ≤ 1000000) (hr : rk.length ≤ 13) (hM : MayP rk ls) (l : List Int) (h0 : 0 < l.length) (h12 : l.length ≤ 12) (hW : WayP rk ls l l.length) :
  ACalls Try.prog G 23 [.agg [intsA rk, lksA ls], intsA l] (.tup [intsA (wayL rk ls l (l.length - 1)), .int .i64 0]) := by
 have hmy := may_c (G := G) rk ls hl (by omega)
 rw [decide_eq_true hM] at hmy
 have hmd := mids_c (G := G) rk ls hl
 refine ACalls.of_WA ttok Try.func23 rfl rfl _ rfl ?_
 conv => whnf
 repeat' (first | ((exfalso; exact h trivial)) | (exact Bool.noConfusion h) | refine sq ?_ | refine bk ?_ | ((first | refine rg ttok ?_ | refine dw ttok mixed ?_ | refine cd ?_ | refine sk ?_ | refine xt ?_ | refine rt ?_); conv => whnf) | (refine And.intro (fun h => ?_) (fun h => ?_) <;> (try simp only [brsA] at h) <;> first | (exfalso; omega) | (conv => whnf)) | (refine Or.inl ?_; (conv => whnf); (first | refine ⟨_, hmy, ?_⟩ | refine ⟨_, hmd, ?_⟩); conv => whnf) | ((first | refine wf ?_ | refine wp' ?_ | refine ai ?_ | refine And.intro rfl ?_ | refine an ?_ | fail); conv => whnf))
 refine WA_loopI (fun i : Nat => i ≤ l.length) (fun i => [(29, .int .i64 (i : Int)), (7, .junk), (8, .junk), (9, .junk), (10, .junk)]) (fun i => [.box 29 [intsA rk, lksA ls]]) (fun i => l.length - i) 0 (Nat.zero_le _) ?_ ?_
 ·conv => whnf
  repeat (first | exact fa | ((first | refine fb ?_ | (refine And.intro ?_ ?_; rotate_left)); conv => whnf))
 ·intro i hi
  have hi : i ≤ l.length := hi
  have hv : (i : Int) < l.length → 0 ≤ l.getD (i : Int).toNat 0 ∧ l.getD (i : Int).toNat 0 < rk.length := fun h => (hW i (by omega)).1
  have hp : (i : Int) < l.length → (i : Int) ≠ 0 → mHas ls [.int (l.getD ((i : Int) - 1).toNat 0), .int (l.getD (i : Int).toNat 0)] = true := fun h h1 => by
   rw [mHas_pos hM.2.2.2.1, show ((i : Int) - 1).toNat = i - 1 by omega]
   exact decide_eq_true ((hW i (by omega)).2 (by omega))
  conv => whnf
  repeat' (first | refine sq ?_ | refine bk ?_ | ((first | refine rg ttok ?_ | refine dw ttok mixed ?_ | refine cd ?_ | refine sk ?_ | refine xt ?_ | refine rt ?_); conv => whnf) | (refine And.intro (fun h => ?_) (fun h => ?_) <;> (try simp only [brsA] at h) <;> first | (exfalso; omega) | (conv => whnf)) | ((first | refine wf ?_ | refine wp' ?_ | refine ai ?_ | refine And.intro rfl ?_ | refine an ?_ | fail); conv => whnf))
  ·refine ⟨i + 1, (by show i + 1 ≤ l.length; omega), (by show l.length - (i + 1) < l.length - i; omega), ?_⟩
   conv => whnf
   repeat (first | exact fa | ((first | refine fb ?_ | (refine And.intro ?_ ?_; rotate_left)); conv => whnf))
  ·refine ⟨i + 1, (by show i + 1 ≤ l.length; omega), (by show l.length - (i + 1) < l.length - i; omega), ?_⟩
   conv => whnf
   repeat (first | exact fa | ((first | refine fb ?_ | (refine And.intro ?_ ?_; rotate_left)); conv => whnf))
  ·have hp := hp (by omega) (by assumption)
   rw [h] at hp; cases hp
  ·have hb := fun k => wayL_len (ls := ls) hr l k
   have hT := fun a b => TL_small (ls := ls) hr a b
   refine WA_loopI (ι := Nat) (fun k => k ≤ l.length - 1) (fun k => [(67, .int .i64 (k : Int)), (11, .own 1), (63, .junk), (12, .junk), (13, .junk), (14, .junk), (15, .junk), (16, .junk)]) (fun k => [.box 29 [intsA rk, lksA ls], .row 3 1 (wayL rk ls l k).length (inR (wayL rk ls l k))]) (fun k => l.length - 1 - k) 0 (Nat.zero_le _) ?_ ?_
   ·conv => whnf
    repeat (first | exact fa | ((first | refine fb ?_ | (refine And.intro ?_ ?_; rotate_left)); conv => whnf))
    (refine Or.inl fun i hi => ?_; rcases i with _ | _ | _ | _ | i <;> first | rfl | omega)
   ·intro k hk
    have hk : k ≤ l.length - 1 := hk
    have hbk := hb k
    have hTk := hT (l.getD (k : Int).toNat 0) (l.getD (Int.toNat 1 + (k : Int).toNat) 0)
    have hpk : (k : Int) < ((l.length - Int.toNat 1 : Nat) : Int) → 0 ≤ posL ls (l.getD (k : Int).toNat 0) (l.getD (Int.toNat 1 + (k : Int).toNat) 0) := fun h => by
     have := (hW (k + 1) (by omega)).2 (by omega)
     rw [show Int.toNat 1 + (k : Int).toNat = k + 1 by omega]
     exact this
    have hrun := fun (h : (k : Int) < ((l.length - Int.toNat 1 : Nat) : Int)) (room : Int) (h1 : 8192 ≤ room) => run_c (G := G) rk ls hM _ _ (hpk h) room (by omega) (by omega) (by omega)
    conv => whnf
    repeat' (first | refine sq ?_ | refine bk ?_ | ((first | refine rg ttok ?_ | refine dw ttok mixed ?_ | refine cd ?_ | refine sk ?_ | refine xt ?_ | refine rt ?_); conv => whnf) | (refine And.intro (fun h => ?_) (fun h => ?_) <;> (try simp only [brsA] at h) <;> conv => whnf) | (refine Or.inl ?_; (conv => whnf); refine ⟨_, hrun (by omega) _ (by omega), ?_⟩; conv => whnf) | ((first | refine wf ?_ | refine wp' ?_ | refine ai ?_ | refine And.intro rfl ?_ | refine an ?_ | fail); conv => whnf))
    ·have e1 : wayL rk ls l (k + 1) = wayL rk ls l k ++ TL rk ls (l.getD (k : Int).toNat 0) (l.getD (Int.toNat 1 + (k : Int).toNat) 0) := by
      rw [show Int.toNat 1 + (k : Int).toNat = k + 1 by omega]; rfl
     refine ⟨k + 1, (by show k + 1 ≤ l.length - 1; omega), (by show l.length - 1 - (k + 1) < l.length - 1 - k; omega), ?_⟩
     conv => whnf
     repeat (first | exact fa | ((first | refine fb ?_ | (refine And.intro ?_ ?_; rotate_left)); conv => whnf))
     all_goals first
      | exact Or.inl fun i hi => (rowCat_app (fun y : Int => [A.int .i64 y]) 0 (wayL rk ls l k) (TL rk ls (l.getD (k : Int).toNat 0) (l.getD (Int.toNat 1 + (k : Int).toNat) 0)) _ (fun j _ => rfl) i hi).trans (by rw [← e1]; rfl)
      | (rw [e1, List.length_append])
      | skip
    ·have e : k = l.length - 1 := by omega
     subst e
     exact ⟨rfl, Or.inl fun _ _ => rfl, rfl⟩
theorem way_nil (rk : List Int) (ls : List Lk) (hl : ls.length ≤ 1000000) (hr : rk.length ≤ 13) (hM : MayP rk ls) (l : List Int) (h0 : l.length = 0) :
  ACalls Try.prog G 23 [.agg [intsA rk, lksA ls], intsA l] (.tup [.nils, .int .i64 1]) := by
 have hmy := may_c (G := G) rk ls hl (by omega)
 rw [decide_eq_true hM] at hmy
 refine ACalls.of_WA ttok Try.func23 rfl rfl _ rfl ?_
 conv => whnf
 repeat' (first | ((exfalso; exact h trivial)) | (exact Bool.noConfusion h) | refine sq ?_ | refine bk ?_ | ((first | refine rg ttok ?_ | refine dw ttok mixed ?_ | refine cd ?_ | refine sk ?_ | refine xt ?_ | refine rt ?_); conv => whnf) | (refine And.intro (fun h => ?_) (fun h => ?_) <;> (try simp only [brsA] at h) <;> first | (exfalso; omega) | (conv => whnf)) | (refine Or.inl ?_; (conv => whnf); refine ⟨_, hmy, ?_⟩; conv => whnf) | ((first | refine wf ?_ | refine wp' ?_ | refine ai ?_ | refine And.intro rfl ?_ | refine an ?_ | fail); conv => whnf))
theorem way_none (rk : List Int) (ls : List Lk) (hl : ls.length ≤ 1000000) (hr : rk.length ≤ 13) (hM : MayP rk ls) (l : List Int) (h0 : 0 < l.length) (h12 : l.length ≤ 12) (hW : ¬ WayP rk ls l l.length) :
  ACalls Try.prog G 23 [.agg [intsA rk, lksA ls], intsA l] (.tup [.nils, .int .i64 3]) := by
 have hmy := may_c (G := G) rk ls hl (by omega)
 rw [decide_eq_true hM] at hmy
 have hmd := mids_c (G := G) rk ls hl
 refine ACalls.of_WA ttok Try.func23 rfl rfl _ rfl ?_
 conv => whnf
 repeat' (first | ((exfalso; exact h trivial)) | (exact Bool.noConfusion h) | refine sq ?_ | refine bk ?_ | ((first | refine rg ttok ?_ | refine dw ttok mixed ?_ | refine cd ?_ | refine sk ?_ | refine xt ?_ | refine rt ?_); conv => whnf) | (refine And.intro (fun h => ?_) (fun h => ?_) <;> (try simp only [brsA] at h) <;> first | (exfalso; omega) | (conv => whnf)) | (refine Or.inl ?_; (conv => whnf); (first | refine ⟨_, hmy, ?_⟩ | refine ⟨_, hmd, ?_⟩); conv => whnf) | ((first | refine wf ?_ | refine wp' ?_ | refine ai ?_ | refine And.intro rfl ?_ | refine an ?_ | fail); conv => whnf))
 refine WA_loopI (fun i : Nat => i ≤ l.length ∧ WayP rk ls l i) (fun i => [(29, .int .i64 (i : Int)), (7, .junk), (8, .junk), (9, .junk), (10, .junk)]) (fun i => [.box 29 [intsA rk, lksA ls]]) (fun i => l.length - i) 0 ⟨Nat.zero_le _, fun i hi => by omega⟩ ?_ ?_
 ·conv => whnf
  repeat (first | exact fa | ((first | refine fb ?_ | (refine And.intro ?_ ?_; rotate_left)); conv => whnf))
 ·rintro i ⟨hi, hI⟩
  have hi : i ≤ l.length := hi
  conv => whnf
  repeat' (first | ((exact absurd (by rw [show l.length = i by omega]; exact hI) hW)) | refine sq ?_ | refine bk ?_ | ((first | refine rg ttok ?_ | refine dw ttok mixed ?_ | refine cd ?_ | refine sk ?_ | refine xt ?_ | refine rt ?_); conv => whnf) | (refine And.intro (fun h => ?_) (fun h => ?_) <;> (try simp only [brsA] at h) <;> conv => whnf) | ((first | refine wf ?_ | refine wp' ?_ | refine ai ?_ | refine And.intro rfl ?_ | refine an ?_ | fail); conv => whnf))
  ·refine ⟨i + 1, ⟨by omega, fun j hj => ?_⟩, (by show l.length - (i + 1) < l.length - i; omega), ?_⟩
   ·by_cases e : j = i
    ·subst e
     have g1 : ¬ l.getD j 0 < 0 := by assumption
     have g2 : ¬ (rk.length : Int) ≤ l.getD j 0 := by assumption
     exact ⟨by omega, fun h1 => by omega⟩
    ·exact hI j (by omega)
   ·conv => whnf
    repeat (first | exact fa | ((first | refine fb ?_ | (refine And.intro ?_ ?_; rotate_left)); conv => whnf))
  ·refine ⟨i + 1, ⟨by omega, fun j hj => ?_⟩, (by show l.length - (i + 1) < l.length - i; omega), ?_⟩
   ·by_cases e : j = i
    ·subst e
     have g1 : ¬ l.getD j 0 < 0 := by assumption
     have g2 : ¬ (rk.length : Int) ≤ l.getD j 0 := by assumption
     rw [mHas_pos hM.2.2.2.1, decide_eq_true_iff, show ((j : Int) - 1).toNat = j - 1 by omega] at h
     exact ⟨by omega, fun _ => h⟩
    ·exact hI j (by omega)
   ·conv => whnf
    repeat (first | exact fa | ((first | refine fb ?_ | (refine And.intro ?_ ?_; rotate_left)); conv => whnf))
end Go.Proofs.Ytnkbkfjgbejhfaa
namespace Go.Proofs.Ytnkbkfjgbejhfaa
open Go.Proofs.Ytnkbkfjgbejhfaa.Am Go.HeapL
variable [Inhabited DRT]
variable {G : GInv}
/-! ### A way unpacked is a walk by arcs -/
def arA (g : Gr) : Int → List Int → Prop
 | _, [] => True
 | a, x :: l => 0 ≤ arcW g a x ∧ arA g x l
def csA (g : Gr) : Int → List Int → Int
 | _, [] => 0
 | a, x :: l => arcW g a x + csA g x l
def enA : Int → List Int → Int
 | a, [] => a
 | _, x :: l => enA x l
theorem enA_app (m : List Int) : ∀ (a : Int) (l : List Int), enA a (l ++ m) = enA (enA a l) m
 | _, [] => rfl
 | _, x :: l => enA_app m x l
theorem arA_app {g : Gr} (m : List Int) : ∀ (a : Int) (l : List Int), arA g a l → arA g (enA a l) m → arA g a (l ++ m)
 | _, [], _, h => h
 | _, x :: l, h, k => ⟨h.1, arA_app m x l h.2 k⟩
theorem csA_app {g : Gr} (m : List Int) : ∀ (a : Int) (l : List Int), csA g a (l ++ m) = csA g a l + csA g (enA a l) m
 | _, [] => (Int.zero_add _).symm
 | a, x :: l => by
  show arcW g a x + csA g x (l ++ m) = arcW g a x + csA g x l + csA g (enA x l) m
  rw [csA_app m x l]; omega
section
variable {g : Gr}
theorem lkP_mem {n : Nat} {ls : List Lk} (hS : SortedP n ls) {a b : Int} (h : 0 ≤ posL ls a b) : lkP ls a b ∈ ls := mem_gd (by have := (posL_in hS a b h).1; omega)
theorem TL_walk (h : GrOK g) (hn : g.n ≤ 28) : ∀ (d : Nat) (a b : Int), 0 ≤ posL (lsB g) a b → nuL (ofB g).rk a b < d →
  arA g a (TL (ofB g).rk (lsB g) a b) ∧ csA g a (TL (ofB g).rk (lsB g) a b) = (lkP (lsB g) a b).w ∧ enA a (TL (ofB g).rk (lsB g) a b) = b
 | 0, a, b, hp, hd => by omega
 | d + 1, a, b, hp, hd => by
  have hM := fin_may h hn
  have hS := fin_sorted h hn
  have hl := linkF hM hp
  have hx := lkP_mem hS hp
  by_cases hm : (lkP (lsB g) a b).m = -1
  ·have ha := arcW_of h (fin_arc h hn hx hm)
   rw [hl.f, hl.t] at ha
   have hw := hl.ok.2.2.2.1
   rw [(T_leaf hM hp hm).1]
   refine ⟨⟨by rw [ha]; exact hw, trivial⟩, ?_, rfl⟩
   show arcW g a b + 0 = _
   rw [ha]; exact Int.add_zero _
  ·obtain ⟨n1, n2⟩ := nu_down hM hp hm
   rcases hl.mid with h3 | ⟨_, _, _, p1, p2⟩
   ·exact absurd h3 hm
   ·obtain ⟨a1, a2, a3⟩ := TL_walk h hn d _ _ p1 (by omega)
    obtain ⟨b1, b2, b3⟩ := TL_walk h hn d _ _ p2 (by omega)
    have hj := (fin_join h hn hx hm).2.2.2.2.2
    rw [hl.f, hl.t] at hj
    rw [(T_node hM hp hm).1]
    refine ⟨arA_app _ _ _ a1 (by rw [a3]; exact b1), ?_, by rw [enA_app, a3, b3]⟩
    rw [csA_app, a3, a2, b2]
    exact hj
/-- What the links of a way weigh. -/
def wayS (ls : List Lk) (l : List Int) : Nat → Int
 | 0 => 0
 | k + 1 => wayS ls l k + (lkP ls (l.getD k 0) (l.getD (k + 1) 0)).w
theorem wayL_walk (h : GrOK g) (hn : g.n ≤ 28) {l : List Int} (hW : WayP (ofB g).rk (lsB g) l l.length) : ∀ k, k < l.length →
  ∃ m, wayL (ofB g).rk (lsB g) l k = l.getD 0 0 :: m ∧ arA g (l.getD 0 0) m ∧ csA g (l.getD 0 0) m = wayS (lsB g) l k ∧ enA (l.getD 0 0) m = l.getD k 0
 | 0, _ => ⟨[], rfl, trivial, rfl, rfl⟩
 | k + 1, hk => by
  obtain ⟨m, e1, e2, e3, e4⟩ := wayL_walk h hn hW k (by omega)
  have hp : 0 ≤ posL (lsB g) (l.getD k 0) (l.getD (k + 1) 0) := (hW (k + 1) hk).2 (by omega)
  obtain ⟨a1, a2, a3⟩ := TL_walk h hn _ _ _ hp (Nat.lt_succ_self _)
  refine ⟨m ++ TL (ofB g).rk (lsB g) (l.getD k 0) (l.getD (k + 1) 0), ?_, arA_app _ _ _ e2 (by rw [e4]; exact a1), ?_, ?_⟩
  ·show wayL (ofB g).rk (lsB g) l k ++ _ = _
   rw [e1]; rfl
  ·rw [csA_app, e4, e3, a2]; rfl
  ·rw [enA_app, e4, a3]
end
end Go.Proofs.Ytnkbkfjgbejhfaa
namespace Go.Proofs.Ytnkbkfjgbejhfaa
open Go.Proofs.Ytnkbkfjgbejhfaa.Am Go.HeapL
variable [Inhabited DRT]
variable {G : GInv}
/-! The example. -/
def lu : List Lk := [⟨0, 2, 4, -1⟩, ⟨1, 0, 3, -1⟩, ⟨1, 2, 7, 0⟩]
theorem may_lu : MayP [0, 1, 2] lu := by decide
theorem pos_lu : 0 ≤ posL lu 1 2 := by decide
theorem way_lu : WayP [0, 1, 2] lu [1, 2] ([1, 2] : List Int).length := by
 intro i hi
 have hi : i < 2 := hi
 obtain rfl | rfl : i = 0 ∨ i = 1 := by omega
 ·exact ⟨by decide, fun h => by omega⟩
 ·exact ⟨by decide, fun _ => by decide⟩
theorem wayL_lu : wayL [0, 1, 2] lu [1, 2] 1 = [1, 0, 2] := by decide
theorem TL_lu : TL [0, 1, 2] lu 1 2 = [0, 2] := by decide
theorem TD_lu : TD [0, 1, 2] lu 1 2 = 2 := by decide
theorem mh_lu : mHas lu [.int 1, .int 2] = true := by rw [mHas_pos may_lu.2.2.2.1]; exact decide_eq_true pos_lu
theorem lit_w : andL (fitA.fitL 6 0 [A.agg [intsA [0, 1, 2], lksA lu], .sl 2 1 fun i => takeL 1 (List.drop (i * 1) [A.int .i64 1, A.int .i64 2])] [.agg [intsA [0, 1, 2], lksA lu], intsA [1, 2]]) := by
 conv => whnf
 repeat (first | exact fa | ((first | refine fb ?_ | (refine And.intro ?_ ?_; rotate_left)); conv => whnf))
 all_goals (refine Or.inl fun i hi => ?_; rcases i with _ | _ | _ | _ | i <;> first | rfl | omega)
theorem lit_u : andL (fitA.fitL 6 0 [A.agg [.sl 3 1 fun i => takeL 1 (List.drop (i * 1) [A.int .i64 0, A.int .i64 1, A.int .i64 2]), .sl 3 4 fun i => takeL 4 (List.drop (i * 4) [A.int .i64 0, A.int .i64 2, A.int .i64 4, A.int .i64 (-1), A.int .i64 1, A.int .i64 0, A.int .i64 3, A.int .i64 (-1), A.int .i64 1, A.int .i64 2, A.int .i64 7, A.int .i64 0])], .int .i64 1, .int .i64 2] [.agg [intsA [0, 1, 2], lksA lu], .int .i64 1, .int .i64 2]) := by
 conv => whnf
 repeat (first | exact fa | ((first | refine fb ?_ | (refine And.intro ?_ ?_; rotate_left)); conv => whnf))
 all_goals (refine Or.inl fun i hi => ?_; rcases i with _ | _ | _ | _ | i <;> first | rfl | omega)
theorem ulink_lu : ACalls Try.prog G 47 [.agg [intsA [0, 1, 2], lksA lu], .int .i64 1, .int .i64 2] (.tup [intsA [1, 0, 2], .int .i64 0]) := by
 have h1 := link_c (G := G) [0, 1, 2] lu 1 2 (by decide) (by decide)
 rw [decide_eq_true ⟨may_lu, pos_lu⟩] at h1
 have h2 := way_ok (G := G) [0, 1, 2] lu (by decide) (by decide) may_lu [1, 2] (by decide) (by decide) way_lu
 rw [show ([1, 2] : List Int).length - 1 = 1 from rfl, wayL_lu] at h2
 refine ACalls.of_WA ttok Try.func47 rfl rfl _ rfl ?_
 conv => whnf
 repeat' (first | ((exfalso; exact h trivial)) | (exact Bool.noConfusion h) | refine sq ?_ | refine bk ?_ | ((first | refine rg ttok ?_ | refine dw ttok mixed ?_ | refine cd ?_ | refine sk ?_ | refine xt ?_ | refine rt ?_); conv => whnf) | (refine And.intro (fun h => ?_) (fun h => ?_) <;> (try simp only [brsA] at h) <;> first | (exfalso; omega) | (conv => whnf)) | (refine Or.inl ?_; (conv => whnf); refine ⟨_, h1, ?_⟩; conv => whnf) | (refine Or.inr (Or.inr (Or.inl ?_)); (conv => whnf); refine ⟨_, h2.fit lit_w, ?_⟩; conv => whnf) | ((first | refine wf ?_ | refine wp' ?_ | refine ai ?_ | refine And.intro rfl ?_ | refine an ?_ | fail); conv => whnf))
 exact ⟨Or.inl fun _ _ => rfl, rfl⟩
theorem depth_lu : ACalls Try.prog G 48 [.agg [intsA [0, 1, 2], lksA lu], .int .i64 1, .int .i64 2] (.tup [.int .i64 2, .int .i64 0]) := by
 have hmy := may_c (G := G) [0, 1, 2] lu (by decide) (by decide)
 rw [decide_eq_true may_lu] at hmy
 have hmd := mids_c (G := G) [0, 1, 2] lu (by decide)
 have hr := run_c (G := G) [0, 1, 2] lu may_lu 1 2 pos_lu 100000 (by rw [TL_lu]; decide) (by rw [TL_lu]; decide) (by rw [TD_lu]; decide)
 rw [TD_lu] at hr
 have hm := mh_lu
 refine ACalls.of_WA ttok Try.func48 rfl rfl _ rfl ?_
 conv => whnf
 repeat' (first | ((exfalso; exact h trivial)) | (exact Bool.noConfusion h) | refine sq ?_ | refine bk ?_ | ((first | refine rg ttok ?_ | refine dw ttok mixed ?_ | refine cd ?_ | refine sk ?_ | refine xt ?_ | refine rt ?_); conv => whnf) | (refine And.intro (fun h => ?_) (fun h => ?_) <;> (try simp only [brsA] at h) <;> first | (exfalso; omega) | (conv => whnf)) | (refine Or.inl ?_; (conv => whnf); (first | refine ⟨_, hmy, ?_⟩ | refine ⟨_, hmd, ?_⟩ | refine ⟨_, hr, ?_⟩); conv => whnf) | ((first | refine wf ?_ | refine wp' ?_ | refine ai ?_ | refine And.intro rfl ?_ | refine an ?_ | fail); conv => whnf))
 all_goals first | rfl | (exact absurd trivial ‹¬ True›) | (exfalso; exact h rfl)
theorem awake27_c : ACalls Try.prog G 22 [] (.bool true) := by
 have h1 := ulink_lu (G := G)
 have h2 := depth_lu (G := G)
 refine ACalls.of_WA ttok Try.func22 rfl rfl _ rfl ?_
 conv => whnf
 iterate 4 (first | refine sq ?_ | refine bk ?_ | ((first | refine rg ttok ?_ | refine dw ttok mixed ?_ | refine cd ?_ | refine sk ?_ | refine xt ?_ | refine rt ?_); conv => whnf))
 refine WA_freeze 0 ?_
 conv => whnf
 refine WA_freeze 1 ?_
 conv => whnf
 repeat' (first | refine sq ?_ | refine bk ?_ | ((first | refine rg ttok ?_ | refine dw ttok mixed ?_ | refine cd ?_ | refine sk ?_ | refine xt ?_ | refine rt ?_); conv => whnf) | (refine And.intro (fun h => ?_) (fun h => ?_) <;> (try simp only [brsA] at h) <;> conv => whnf) | (refine Or.inl ?_; (conv => whnf); (first | refine ⟨_, h1.fit lit_u, ?_⟩ | refine ⟨_, h2.fit lit_u, ?_⟩); conv => whnf) | ((first | refine wf ?_ | refine wp' ?_ | refine ai ?_ | refine And.intro rfl ?_ | refine an ?_ | fail); conv => whnf))
 all_goals first | rfl | (exact absurd trivial ‹¬ True›) | (exfalso; exact h rfl)
end Go.Proofs.Ytnkbkfjgbejhfaa

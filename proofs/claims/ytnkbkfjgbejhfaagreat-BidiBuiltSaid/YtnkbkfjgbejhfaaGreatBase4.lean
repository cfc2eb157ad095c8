/-
  The walks and plain laws, part 4.
-/
import Derived.Test.YtnkbkfjgbejhfaaGreatBase1
import Derived.Test.YtnkbkfjgbejhfaaGreatShelf
import Derived.Test.YtnkbkfjgbejhfaaGreatBm4
set_option linter.unusedSimpArgs false
set_option linter.unusedSectionVars false
set_option linter.unusedVariables false
set_option maxRecDepth 100000
set_option maxHeartbeats 4000000
namespace Go.Proofs.YtnkbkfjgbejhfaaGreat
open Go.Proofs.YtnkbkfjgbejhfaaGreat.Am Go.HeapL
variable [Inhabited DRT]
variable {G : GInv}
/-! ### Maps of steps, and what is reckoned of a vertex -/
def mH (m : Mp) : List KC → Bool
 | [.int u] => (m u).isSome
 | _ => false
def mV (m : Mp) : List KC → A
 | [.int u] => .agg [.int .i64 ((m u).getD (0, 0)).1, .int .i64 ((m u).getD (0, 0)).2]
 | _ => .junk
abbrev mpA (m : Mp) : A := .mv false [.int .i64] (mH m) (mV m)
theorem limits_c (n : Nat) (h : n ≤ 50) : ACalls Tryz.prog G 51 [.int .i64 (n : Int)] (.tup [.int .i64 ((n : Int) + 1), .int .i64 ((n : Int) + 1)]) := by
 refine ACalls.of_WA ttok Tryz.func51 rfl rfl _ rfl ?_
 conv => whnf
 repeat' (first | refine sq ?_ | refine bk ?_ | ((first | refine rg ttok ?_ | refine dw ttok mixed ?_ | refine cd ?_ | refine sk ?_ | refine xt ?_ | refine rt ?_); conv => whnf) | (refine And.intro (fun h => ?_) (fun h => ?_) <;> (try simp only [brsA] at h) <;> conv => whnf) | ((first | refine wf ?_ | refine wp' ?_ | refine ai ?_ | refine And.intro rfl ?_ | refine an ?_ | fail); conv => whnf))
 ·rw [if_neg (by omega)]
 ·omega
theorem prio_bad {a b c : Int} (h : a < 0 ∨ 1000000 < a ∨ b < 0 ∨ 1000000 < b ∨ c < 0 ∨ 1000000 < c) : prio a b c = 0 := by
 unfold prio
 split
 ·rfl
 ·rename_i hd
  simp only [Bool.or_eq_false_iff, decide_eq_false_iff_not] at hd
  omega
theorem prio_good {a b c : Int} (h1 : ¬ a < 0 ∧ ¬ 1000000 < a) (h2 : ¬ b < 0 ∧ ¬ 1000000 < b) (h3 : ¬ c < 0 ∧ ¬ 1000000 < c) : prio a b c = 2 * a - b + c := by
 unfold prio
 split
 ·rename_i hd
  simp only [Bool.or_eq_true, decide_eq_true_eq] at hd
  omega
 ·rfl
theorem priority0_c (a b c : Int) (h : -1000000000 ≤ a ∧ a ≤ 1000000000) (h' : -1000000000 ≤ b ∧ b ≤ 1000000000) (h'' : -1000000000 ≤ c ∧ c ≤ 1000000000) : ACalls Tryz.prog G 34 [.int .i64 a, .int .i64 b, .int .i64 c] (.int .i64 (prio a b c)) := by
 refine ACalls.of_WA ttok Tryz.func34 rfl rfl _ rfl ?_
 conv => whnf
 repeat' (first | refine sq ?_ | refine bk ?_ | ((first | refine rg ttok ?_ | refine dw ttok mixed ?_ | refine cd ?_ | refine sk ?_ | refine xt ?_ | refine rt ?_); conv => whnf) | (refine And.intro (fun h => ?_) (fun h => ?_) <;> (try simp only [brsA] at h) <;> conv => whnf) | ((first | refine wf ?_ | refine wp' ?_ | refine ai ?_ | refine And.intro rfl ?_ | refine an ?_ | fail); conv => whnf))
 refine WA_freeze 0 ?_
 conv => whnf
 refine WA_loopI (fun i : Nat => i ≤ 3 ∧ (0 < i → ¬ a < 0 ∧ ¬ 1000000 < a) ∧ (1 < i → ¬ b < 0 ∧ ¬ 1000000 < b) ∧ (2 < i → ¬ c < 0 ∧ ¬ 1000000 < c)) (fun i => [(14, .int .i64 (i : Int))]) (fun _ => []) (fun i => 3 - i) 0 ⟨by omega, by omega, by omega, by omega⟩ ?_ ?_
 ·conv => whnf
  repeat (first | exact fa | ((first | refine fb ?_ | (refine And.intro ?_ ?_; rotate_left)); conv => whnf))
 ·rintro i ⟨hi, h1, h2, h3⟩
  rcases i with _ | _ | _ | _ | i
  ·conv => whnf
   repeat' (first | refine sq ?_ | refine bk ?_ | ((first | refine rg ttok ?_ | refine dw ttok mixed ?_ | refine cd ?_ | refine sk ?_ | refine xt ?_ | refine rt ?_); conv => whnf) | (refine And.intro (fun h => ?_) (fun h => ?_) <;> (try simp only [brsA] at h) <;> conv => whnf) | ((first | refine wf ?_ | refine wp' ?_ | refine ai ?_ | refine And.intro rfl ?_ | refine an ?_ | fail); conv => whnf))
   all_goals first
    | (exfalso; omega)
    | exact (prio_bad (by omega)).symm
    | refine ⟨1, ⟨by omega, fun _ => ⟨by assumption, by assumption⟩, by omega, by omega⟩, by decide, ?_⟩
   conv => whnf
   repeat (first | exact fa | ((first | refine fb ?_ | (refine And.intro ?_ ?_; rotate_left)); conv => whnf))
  ·have h1 := h1 (by omega)
   conv => whnf
   repeat' (first | refine sq ?_ | refine bk ?_ | ((first | refine rg ttok ?_ | refine dw ttok mixed ?_ | refine cd ?_ | refine sk ?_ | refine xt ?_ | refine rt ?_); conv => whnf) | (refine And.intro (fun h => ?_) (fun h => ?_) <;> (try simp only [brsA] at h) <;> conv => whnf) | ((first | refine wf ?_ | refine wp' ?_ | refine ai ?_ | refine And.intro rfl ?_ | refine an ?_ | fail); conv => whnf))
   all_goals first
    | (exfalso; omega)
    | exact (prio_bad (by omega)).symm
    | refine ⟨2, ⟨by omega, fun _ => h1, fun _ => ⟨by assumption, by assumption⟩, by omega⟩, by decide, ?_⟩
   conv => whnf
   repeat (first | exact fa | ((first | refine fb ?_ | (refine And.intro ?_ ?_; rotate_left)); conv => whnf))
  ·have h1 := h1 (by omega)
   have h2 := h2 (by omega)
   conv => whnf
   repeat' (first | refine sq ?_ | refine bk ?_ | ((first | refine rg ttok ?_ | refine dw ttok mixed ?_ | refine cd ?_ | refine sk ?_ | refine xt ?_ | refine rt ?_); conv => whnf) | (refine And.intro (fun h => ?_) (fun h => ?_) <;> (try simp only [brsA] at h) <;> conv => whnf) | ((first | refine wf ?_ | refine wp' ?_ | refine ai ?_ | refine And.intro rfl ?_ | refine an ?_ | fail); conv => whnf))
   all_goals first
    | (exfalso; omega)
    | exact (prio_bad (by omega)).symm
    | refine ⟨3, ⟨by omega, fun _ => h1, fun _ => h2, fun _ => ⟨by assumption, by assumption⟩⟩, by decide, ?_⟩
   conv => whnf
   repeat (first | exact fa | ((first | refine fb ?_ | (refine And.intro ?_ ?_; rotate_left)); conv => whnf))
  ·have h1 := h1 (by omega)
   have h2 := h2 (by omega)
   have h3 := h3 (by omega)
   conv => whnf
   repeat' (first | refine sq ?_ | refine bk ?_ | ((first | refine rg ttok ?_ | refine dw ttok mixed ?_ | refine cd ?_ | refine sk ?_ | refine xt ?_ | refine rt ?_); conv => whnf) | (refine And.intro (fun h => ?_) (fun h => ?_) <;> (try simp only [brsA] at h) <;> conv => whnf) | ((first | refine wf ?_ | refine wp' ?_ | refine ai ?_ | refine And.intro rfl ?_ | refine an ?_ | fail); conv => whnf))
   ·omega
   ·rw [prio_good h1 h2 h3]
  ·omega
/-- Where something is found first. -/
def fidx (p : It → Bool) (l : List It) : Int := match l.findIdx? p with
 | some i => (i : Int)
 | none => -1
theorem fidx_at {p : It → Bool} {l : List It} {i : Nat} (h : i < l.length) (hp : p (l.getD i (0, 0)) = true) (hn : ∀ j, j < i → p (l.getD j (0, 0)) = false) : fidx p l = i := by
 have : l.findIdx? p = some i := by
  rw [List.findIdx?_eq_some_iff_getElem]
  refine ⟨h, by simpa [List.getD_eq_getElem?_getD, h] using hp, fun j hj => ?_⟩
  have := hn j hj
  rw [List.getD_eq_getElem?_getD, List.getElem?_eq_getElem (by omega)] at this
  simpa using this
 unfold fidx; rw [this]
theorem fidx_none {p : It → Bool} {l : List It} (hn : ∀ j, j < l.length → p (l.getD j (0, 0)) = false) : fidx p l = -1 := by
 have : l.findIdx? p = none := by
  rw [List.findIdx?_eq_none_iff]
  intro x hx
  obtain ⟨j, hj, rfl⟩ := List.getElem_of_mem hx
  have := hn j hj
  rw [List.getD_eq_getElem?_getD, List.getElem?_eq_getElem hj] at this
  exact this
 unfold fidx; rw [this]
theorem fidx_any (p : It → Bool) (l : List It) : decide (0 ≤ fidx p l) = l.any p := by
 unfold fidx
 cases h : l.findIdx? p with
 | none =>
  rw [List.findIdx?_eq_none_iff] at h
  have : l.any p = false := by rw [List.any_eq_false]; exact fun x hx => by rw [h x hx]; exact Bool.noConfusion
  rw [this]; rfl
 | some i =>
  rw [List.findIdx?_eq_some_iff_getElem] at h
  obtain ⟨hi, hp, _⟩ := h
  have : l.any p = true := List.any_eq_true.2 ⟨_, List.getElem_mem hi, hp⟩
  rw [this]; exact decide_eq_true (by show (0 : Int) ≤ (i : Int); omega)
theorem itIdx0_c (l : List It) (f : Nat) (p : It → Bool) (hl : l.length ≤ 1000000)
  (hp : ∀ i, i < l.length → ACalls Tryz.prog G f [.agg [.int .i64 (l.getD i (0, 0)).1, .int .i64 (l.getD i (0, 0)).2]] (.sb (p (l.getD i (0, 0))))) :
  ACalls Tryz.prog G 86 [.sl l.length 2 (itR l), .fn f []] (.int .i64 (fidx p l)) := by
 refine ACalls.of_WA ttok Tryz.func86 rfl rfl _ rfl ?_
 conv => whnf
 repeat' (first | refine sq ?_ | refine bk ?_ | ((first | refine rg ttok ?_ | refine dw ttok mixed ?_ | refine cd ?_ | refine sk ?_ | refine xt ?_ | refine rt ?_); conv => whnf) | (refine And.intro (fun h => ?_) (fun h => ?_) <;> (try simp only [brsA] at h) <;> conv => whnf) | ((first | refine wf ?_ | refine wp' ?_ | refine ai ?_ | refine And.intro rfl ?_ | refine an ?_ | fail); conv => whnf))
 refine WA_loopI (fun i : Nat => i ≤ l.length ∧ ∀ j, j < i → p (l.getD j (0, 0)) = false) (fun i => [(8, .int .i64 (i : Int))]) (fun _ => []) (fun i => l.length - i) 0 ⟨by omega, fun j hj => by omega⟩ ?_ ?_
 ·conv => whnf
  repeat (first | exact fa | ((first | refine fb ?_ | (refine And.intro ?_ ?_; rotate_left)); conv => whnf))
 ·rintro i ⟨hi, he⟩
  conv => whnf
  repeat' (first | refine sq ?_ | refine bk ?_ | ((first | refine rg ttok ?_ | refine dw ttok mixed ?_ | refine cd ?_ | refine sk ?_ | refine xt ?_ | refine rt ?_); conv => whnf) | (refine And.intro (fun h => ?_) (fun h => ?_) <;> (try simp only [brsA] at h) <;> conv => whnf) | (refine Or.inl ?_; (conv => whnf); refine ⟨_, hp i (by omega), ?_⟩; conv => whnf) | ((first | refine wf ?_ | refine wp' ?_ | refine ai ?_ | refine And.intro rfl ?_ | refine an ?_ | fail); conv => whnf))
  ·rw [fidx_at (show i < l.length by omega) h he]
  ·refine ⟨i + 1, ⟨by omega, fun j hj => ?_⟩, (by show l.length - (i + 1) < l.length - i; omega), ?_⟩
   ·rcases Nat.lt_or_ge j i with hj' | hj'
    ·exact he j hj'
    ·have : j = i := by omega
     subst this; exact h
   ·conv => whnf
    repeat (first | exact fa | ((first | refine fb ?_ | (refine And.intro ?_ ?_; rotate_left)); conv => whnf))
  ·rw [fidx_none (fun j hj => he j (by omega))]
theorem itIdx1_c (l : List It) (f : Nat) (t : Int) (p : It → Bool) (hl : l.length ≤ 1000000)
  (hp : ∀ i, i < l.length → ACalls Tryz.prog G f [.agg [.int .i64 (l.getD i (0, 0)).1, .int .i64 (l.getD i (0, 0)).2], .bref [.int .i64 t] 0] (.sb (p (l.getD i (0, 0))))) :
  ACalls Tryz.prog G 86 [.sl l.length 2 (itR l), .fn f [.bref [.int .i64 t] 0]] (.int .i64 (fidx p l)) := by
 refine ACalls.of_WA ttok Tryz.func86 rfl rfl _ rfl ?_
 conv => whnf
 repeat' (first | refine sq ?_ | refine bk ?_ | ((first | refine rg ttok ?_ | refine dw ttok mixed ?_ | refine cd ?_ | refine sk ?_ | refine xt ?_ | refine rt ?_); conv => whnf) | (refine And.intro (fun h => ?_) (fun h => ?_) <;> (try simp only [brsA] at h) <;> conv => whnf) | ((first | refine wf ?_ | refine wp' ?_ | refine ai ?_ | refine And.intro rfl ?_ | refine an ?_ | fail); conv => whnf))
 refine WA_loopI (fun i : Nat => i ≤ l.length ∧ ∀ j, j < i → p (l.getD j (0, 0)) = false) (fun i => [(8, .int .i64 (i : Int))]) (fun _ => []) (fun i => l.length - i) 0 ⟨by omega, fun j hj => by omega⟩ ?_ ?_
 ·conv => whnf
  repeat (first | exact fa | ((first | refine fb ?_ | (refine And.intro ?_ ?_; rotate_left)); conv => whnf))
 ·rintro i ⟨hi, he⟩
  conv => whnf
  repeat' (first | refine sq ?_ | refine bk ?_ | ((first | refine rg ttok ?_ | refine dw ttok mixed ?_ | refine cd ?_ | refine sk ?_ | refine xt ?_ | refine rt ?_); conv => whnf) | (refine And.intro (fun h => ?_) (fun h => ?_) <;> (try simp only [brsA] at h) <;> conv => whnf) | (refine Or.inl ?_; (conv => whnf); refine ⟨_, hp i (by omega), ?_⟩; conv => whnf) | ((first | refine wf ?_ | refine wp' ?_ | refine ai ?_ | refine And.intro rfl ?_ | refine an ?_ | fail); conv => whnf))
  ·rw [fidx_at (show i < l.length by omega) h he]
  ·refine ⟨i + 1, ⟨by omega, fun j hj => ?_⟩, (by show l.length - (i + 1) < l.length - i; omega), ?_⟩
   ·rcases Nat.lt_or_ge j i with hj' | hj'
    ·exact he j hj'
    ·have : j = i := by omega
     subst this; exact h
   ·conv => whnf
    repeat (first | exact fa | ((first | refine fb ?_ | (refine And.intro ?_ ?_; rotate_left)); conv => whnf))
  ·rw [fidx_none (fun j hj => he j (by omega))]
def badI (x : It) : Bool := decide (x.1 < 0) || decide (mxC < x.1)
theorem rmay1_c (x : It) : ACalls Tryz.prog G 98 [.agg [.int .i64 x.1, .int .i64 x.2]] (.sb (badI x)) := by
 refine ACalls.of_WA ttok Tryz.func98 rfl rfl _ rfl ?_
 conv => whnf
 repeat' (first | refine sq ?_ | refine bk ?_ | ((first | refine rg ttok ?_ | refine dw ttok mixed ?_ | refine cd ?_ | refine sk ?_ | refine xt ?_ | refine rt ?_); conv => whnf) | (refine And.intro (fun h => ?_) (fun h => ?_) <;> (try simp only [brsA] at h) <;> conv => whnf) | ((first | refine wf ?_ | refine wp' ?_ | refine ai ?_ | refine And.intro rfl ?_ | refine an ?_ | fail); conv => whnf))
 ·unfold badI; rw [decide_eq_false h]; rfl
 ·unfold badI; rw [decide_eq_true h]; rfl
theorem itHas0_c (l : List It) (f : Nat) (p : It → Bool) (hl : l.length ≤ 1000000)
  (hp : ∀ i, i < l.length → ACalls Tryz.prog G f [.agg [.int .i64 (l.getD i (0, 0)).1, .int .i64 (l.getD i (0, 0)).2]] (.sb (p (l.getD i (0, 0))))) :
  ACalls Tryz.prog G 77 [.sl l.length 2 (itR l), .fn f []] (.sb (l.any p)) := by
 have h1 := itIdx0_c (G := G) l f p hl hp
 rw [← fidx_any]
 refine ACalls.of_WA ttok Tryz.func77 rfl rfl _ rfl ?_
 conv => whnf
 repeat' (first | refine sq ?_ | refine bk ?_ | ((first | refine rg ttok ?_ | refine dw ttok mixed ?_ | refine cd ?_ | refine sk ?_ | refine xt ?_ | refine rt ?_); conv => whnf) | (refine And.intro (fun h => ?_) (fun h => ?_) <;> (try simp only [brsA] at h) <;> conv => whnf) | (refine Or.inl ?_; (conv => whnf); refine ⟨_, h1, ?_⟩; conv => whnf) | ((first | refine wf ?_ | refine wp' ?_ | refine ai ?_ | refine And.intro rfl ?_ | refine an ?_ | fail); conv => whnf))
theorem bdI_any (l : List It) : bdI l = (decide (l.length ≤ 500) && !l.any badI) := by
 unfold bdI
 rw [show l.all (fun x => decide (0 ≤ x.1) && decide (x.1 ≤ mxC)) = !l.any badI by
  rw [Bool.eq_iff_iff]
  simp only [List.all_eq_true, Bool.and_eq_true, decide_eq_true_eq, Bool.not_eq_true', List.any_eq_false, badI, Bool.or_eq_true]
  constructor
  ·intro h x hx; have := h x hx; omega
  ·intro h x hx; have := h x hx; omega]
theorem rmay_c (l : List It) (hl : l.length ≤ 1000000) : ACalls Tryz.prog G 82 [.sl l.length 2 (itR l)] (.sb (bdI l)) := by
 have h1 := itHas0_c (G := G) l 98 badI hl fun i _ => rmay1_c _
 rw [bdI_any]
 refine ACalls.of_WA ttok Tryz.func82 rfl rfl _ rfl ?_
 conv => whnf
 repeat' (first | refine sq ?_ | refine bk ?_ | ((first | refine rg ttok ?_ | refine dw ttok mixed ?_ | refine cd ?_ | refine sk ?_ | refine xt ?_ | refine rt ?_); conv => whnf) | (refine And.intro (fun h => ?_) (fun h => ?_) <;> (try simp only [brsA] at h) <;> conv => whnf) | (refine Or.inl ?_; (conv => whnf); refine ⟨_, h1, ?_⟩; conv => whnf) | ((first | refine wf ?_ | refine wp' ?_ | refine ai ?_ | refine And.intro rfl ?_ | refine an ?_ | fail); conv => whnf))
 ·rw [show decide (l.length ≤ 500) = true from decide_eq_true (by omega)]; rfl
 ·rw [show decide (l.length ≤ 500) = false from decide_eq_false (by omega)]; rfl
theorem found1_c (x : It) (t : Int) : ACalls Tryz.prog G 87 [.agg [.int .i64 x.1, .int .i64 x.2], .bref [.int .i64 t] 0] (.sb (x.2 == t)) := by
 refine ACalls.of_WA ttok Tryz.func87 rfl rfl _ rfl ?_
 conv => whnf
 repeat' (first | refine sq ?_ | refine bk ?_ | ((first | refine rg ttok ?_ | refine dw ttok mixed ?_ | refine cd ?_ | refine sk ?_ | refine xt ?_ | refine rt ?_); conv => whnf) | (refine And.intro (fun h => ?_) (fun h => ?_) <;> (try simp only [brsA] at h) <;> conv => whnf) | ((first | refine wf ?_ | refine wp' ?_ | refine ai ?_ | refine And.intro rfl ?_ | refine an ?_ | fail); conv => whnf))
theorem found_c (l : List It) (t : Int) (hl : l.length ≤ 1000000) : ACalls Tryz.prog G 57 [.sl l.length 2 (itR l), .int .i64 t] (.tup [.junk, .sb (l.any fun x => x.2 == t)]) := by
 have h1 := itIdx1_c (G := G) l 87 t (fun x => x.2 == t) hl fun i _ => found1_c _ t
 rw [← fidx_any]
 have hf : fidx (fun x => x.2 == t) l < l.length := by
  unfold fidx
  split
  ·rename_i i e
   rw [List.findIdx?_eq_some_iff_getElem] at e
   obtain ⟨hi, _⟩ := e
   omega
  ·omega
 refine ACalls.of_WA ttok Tryz.func57 rfl rfl _ rfl ?_
 conv => whnf
 repeat' (first | refine sq ?_ | refine bk ?_ | ((first | refine rg ttok ?_ | refine dw ttok mixed ?_ | refine cd ?_ | refine sk ?_ | refine xt ?_ | refine rt ?_); conv => whnf) | (refine And.intro (fun h => ?_) (fun h => ?_) <;> (try simp only [brsA] at h) <;> conv => whnf) | (refine Or.inl ?_; (conv => whnf); refine ⟨_, h1, ?_⟩; conv => whnf) | ((first | refine wf ?_ | refine wp' ?_ | refine ai ?_ | refine And.intro rfl ?_ | refine an ?_ | fail); conv => whnf))
 ·exact (decide_eq_false (by omega)).symm
 ·exact (decide_eq_true (by omega)).symm
end Go.Proofs.YtnkbkfjgbejhfaaGreat
namespace Go.Proofs.YtnkbkfjgbejhfaaGreat
open Go.Proofs.YtnkbkfjgbejhfaaGreat.Am Go.HeapL
variable [Inhabited DRT]
variable {G : GInv}
/-! ### Short searches -/
abbrev mpB (m : Mp) : Blk := .mapb false [.int .i64] (mH m) (mV m)
theorem put_mH (m : Mp) (v : Int) (s : Int × Int) (key : List KC) : putH (mH m) [.int v] true key = mH (fun x => if x = v then some s else m x) key := by
 unfold putH
 split
 ·rename_i e; subst e
  show true = (if v = v then some s else m v).isSome
  rw [if_pos rfl]; rfl
 ·rename_i hne
  unfold mH
  split
  ·rename_i x
   have : x ≠ v := fun e => hne (by rw [e])
   show (m x).isSome = (if x = v then some s else m x).isSome
   rw [if_neg this]
  ·rfl
theorem put_mV (m : Mp) (v : Int) (s : Int × Int) (key : List KC) : putV (mV m) [.int v] (.agg [.int .i64 s.1, .int .i64 s.2]) key = mV (fun x => if x = v then some s else m x) key := by
 unfold putV
 split
 ·rename_i e; subst e
  show _ = A.agg [.int .i64 ((if v = v then some s else m v).getD (0, 0)).1, .int .i64 ((if v = v then some s else m v).getD (0, 0)).2]
  rw [if_pos rfl]; rfl
 ·rename_i hne
  unfold mV
  split
  ·rename_i x
   have : x ≠ v := fun e => hne (by rw [e])
   show A.agg [.int .i64 ((m x).getD (0, 0)).1, .int .i64 ((m x).getD (0, 0)).2] = A.agg [.int .i64 ((if x = v then some s else m x).getD (0, 0)).1, .int .i64 ((if x = v then some s else m x).getD (0, 0)).2]
   rw [if_neg this]
  ·rfl
theorem wset_c (L : List It) (x : It) (hn : Nd L) (hl : L.length ≤ 100000) :
  MCalls Tryz.prog G 16 [.ref 1 0, .agg [.int .i64 x.1, .int .i64 x.2]] (gh2 :: hBs L) .junk (gh2 :: hBs (hset L x)) := by
 cases h : hasL L x.2 with
 | true => exact set_old L x hn h (by omega)
 | false => exact set_new L x hn h hl
theorem pop_no (L : List It) (h : L.length = 0) : MCalls Tryz.prog G 38 [.ref 1 0] (gh1 :: hBs L) (.tup [.agg [.int .i64 0, .int .i64 0], .bool false]) (gh1 :: hBs L) := by
 have h1 := least_no (G := G) L h
 refine MCalls.of_WA ttok Tryz.func38 rfl rfl _ rfl ?_
 conv => whnf
 repeat' (first | refine sq ?_ | refine bk ?_ | ((first | refine rg ttok ?_ | refine dw ttok mixed ?_ | refine cd ?_ | refine sk ?_ | refine xt ?_ | refine rt ?_); conv => whnf) | (refine And.intro (fun h => ?_) (fun h => ?_) <;> (try simp only [brsA] at h) <;> conv => whnf) | (refine Or.inr (Or.inl ?_); (conv => whnf); refine ⟨_, _, h1, ?_⟩; conv => whnf) | ((first | refine wf ?_ | refine wp' ?_ | refine ai ?_ | refine And.intro rfl ?_ | refine an ?_ | fail); conv => whnf))
 repeat (first | exact fa | ((first | refine fb ?_ | (refine And.intro ?_ ?_; rotate_left)); conv => whnf))
theorem wkp_yes {past most : Int} {S : WS} {v cost : Int} (h : v = past ∨ most < cost ∨ ((S.c v).isSome = true ∧ ((S.c v).getD (0, 0)).1 ≤ cost)) : wkp past most S v cost = true := by
 unfold wkp
 rw [Bool.or_eq_true, Bool.or_eq_true, decide_eq_true_eq, decide_eq_true_eq]
 rcases h with h | h | ⟨h1, h2⟩
 ·exact .inl h
 ·exact .inr (.inl h)
 ·cases e : S.c v with
  | none => rw [e] at h1; cases h1
  | some k => rw [e] at h2; exact .inr (.inr (decide_eq_true h2))
theorem wkp_no {past most : Int} {S : WS} {v cost : Int} (h : v ≠ past) (h0 : ¬ most < cost) (h' : (S.c v).isSome = true → ¬ ((S.c v).getD (0, 0)).1 ≤ cost) : wkp past most S v cost = false := by
 unfold wkp
 rw [Bool.or_eq_false_iff, Bool.or_eq_false_iff, decide_eq_false_iff_not, decide_eq_false_iff_not]
 refine ⟨h, h0, ?_⟩
 cases e : S.c v with
 | none => rfl
 | some k => rw [e] at h'; exact decide_eq_false (h' rfl)
abbrev sgs : Blk := .ghost [.junk, .junk, .junk, .junk, .ref 1 0, .ref 2 0, .junk, .omap 4, .omap 5]
abbrev sBs (fr past most H cnt : Int) (S : WS) : List Blk := [.box 145 [.int .i64 fr, .int .i64 past, .int .i64 most, .int .i64 H, .int .i64 cnt, .ref 2 0, .omap 5], .box 81 [.own 3, .omap 4], .row 41 2 S.L.length (itR S.L), atB S.L, mpB S.c]
theorem wreach_c (fr past most H cnt : Int) (S : WS) (v cost hops : Int) (hn : Nd S.L) (hl : S.L.length ≤ 100000) :
  MCalls Tryz.prog G 85 [.ref 1 0, .int .i64 v, .int .i64 cost, .int .i64 hops] (sgs :: sBs fr past most H cnt S) (.tup []) (sgs :: sBs fr past most H cnt (wrch past most S v cost hops)) := by
 have h1 : MCalls Tryz.prog G 16 [.ref 1 0, .agg [.int .i64 cost, .int .i64 v]] (gh2 :: hBs S.L) .junk (gh2 :: hBs (hset S.L (cost, v))) := wset_c (G := G) S.L (cost, v) hn hl
 cases hkp : wkp past most S v cost with
 | true =>
  have e : wrch past most S v cost hops = S := by unfold wrch; rw [hkp]
  rw [e]
  refine MCalls.of_WA ttok Tryz.func85 rfl rfl _ rfl ?_
  conv => whnf
  repeat' (first | refine sq ?_ | refine bk ?_ | ((first | refine rg ttok ?_ | refine dw ttok mixed ?_ | refine cd ?_ | refine sk ?_ | refine xt ?_ | refine rt ?_); conv => whnf) | (refine And.intro (fun h => ?_) (fun h => ?_) <;> (try simp only [brsA] at h) <;> conv => whnf) | ((first | refine wf ?_ | refine wp' ?_ | refine ai ?_ | refine And.intro rfl ?_ | refine an ?_ | fail); conv => whnf))
  all_goals first
   | exact absurd hkp (by rw [wkp_no (by assumption) (by assumption) (fun _ => by assumption)]; exact Bool.noConfusion)
   | exact absurd hkp (by rw [wkp_no (by assumption) (by assumption) (fun h' => absurd h' (by rw [show (S.c v).isSome = false by assumption]; exact Bool.noConfusion))]; exact Bool.noConfusion)
   | skip
  all_goals repeat (first | exact fa | ((first | refine fb ?_ | (refine And.intro ?_ ?_; rotate_left)); conv => whnf))
 | false =>
  have e : wrch past most S v cost hops = wupd S v cost hops := by unfold wrch; rw [hkp]
  rw [e]
  refine MCalls.of_WA ttok Tryz.func85 rfl rfl _ rfl ?_
  conv => whnf
  repeat' (first | refine sq ?_ | refine bk ?_ | ((first | refine rg ttok ?_ | refine dw ttok mixed ?_ | refine cd ?_ | refine sk ?_ | refine xt ?_ | refine rt ?_); conv => whnf) | (refine And.intro (fun h => ?_) (fun h => ?_) <;> (try simp only [brsA] at h) <;> conv => whnf) | (refine Or.inr (Or.inl ?_); (conv => whnf); refine ⟨_, _, h1, ?_⟩; conv => whnf) | ((first | refine wf ?_ | refine wp' ?_ | refine ai ?_ | refine And.intro rfl ?_ | refine an ?_ | fail); conv => whnf))
  all_goals first
   | exact absurd hkp (by rw [wkp_yes (.inl (by assumption))]; exact Bool.noConfusion)
   | exact absurd hkp (by rw [wkp_yes (.inr (.inl (by assumption)))]; exact Bool.noConfusion)
   | exact absurd hkp (by rw [wkp_yes (.inr (.inr ⟨by assumption, by assumption⟩))]; exact Bool.noConfusion)
   | skip
  all_goals
   repeat (first | exact fa | ((first | refine fb ?_ | (refine And.intro ?_ ?_; rotate_left)); conv => whnf))
   all_goals first
    | exact fun key => put_mH S.c v (cost, hops) key
    | exact fun key _ => put_mV S.c v (cost, hops) key
    | skip
end Go.Proofs.YtnkbkfjgbejhfaaGreat
namespace Go.Proofs.YtnkbkfjgbejhfaaGreat
open Go.Proofs.YtnkbkfjgbejhfaaGreat.Am Go.HeapL
open Go.Proofs Go.Shelf Go.Maps Go.Sort Go.WideElems Go.MapKept
variable [Inhabited DRT]
variable {G : GInv}
/-! ### The keys of a map, sorted: raw -/
theorem sortsI (m : Nat) : AnyZI.SortsIn Tryz.prog Tryz.laySorted_ren Fence.wide m :=
 ⟨fun blk off cap ss W hH hblk hsz => callsIn_wide.2 (AnyM.slices_Sort_int Tryz.laySortI blk off cap ss W hH hblk hsz),
  fun p cap W => callsIn_wide.2 (AnyM.slices_Sort_int_none Tryz.laySortI p cap W)⟩
abbrev ksM (n : Nat) (m : Mp) : List Int := (itM n m).map (·.2)
theorem ksM_mem {n : Nat} {m : Mp} {u : Int} : u ∈ ksM n m ↔ 0 ≤ u ∧ u < n ∧ (m u).isSome = true := by
 constructor
 ·intro h
  obtain ⟨⟨w, x⟩, hx, e⟩ := List.mem_map.1 h
  obtain ⟨h1, h2, s, hs, _⟩ := itM_mem.1 hx
  simp only at e; subst e
  exact ⟨h1, h2, by rw [hs]; rfl⟩
 ·rintro ⟨h1, h2, h3⟩
  obtain ⟨s, hs⟩ := Option.isSome_iff_exists.1 h3
  exact List.mem_map.2 ⟨(s.1, u), itM_mem.2 ⟨h1, h2, s, hs, rfl⟩, rfl⟩
theorem ksM_lt (n : Nat) (m : Mp) : (ksM n m).Pairwise (· < ·) := by
 unfold ksM itM
 rw [List.map_filterMap]
 refine List.Pairwise.filterMap _ (S := fun (a b : Int) => a < b) (R := fun (a b : Nat) => a < b) ?_ List.pairwise_lt_range
 intro a b hab x hx y hy
 cases ha : m (a : Int) with
 | none => rw [ha] at hx; cases hx
 | some s =>
  cases hb : m (b : Int) with
  | none => rw [hb] at hy; cases hy
  | some t =>
   rw [ha] at hx; rw [hb] at hy
   simp at hx hy
   omega
theorem ksM_sort {n : Nat} {m : Mp} {ss : List Int} (hn : ss.Nodup) (hm : ∀ u, u ∈ ss ↔ u ∈ ksM n m) : ss.mergeSort (fun x y => decide (x ≤ y)) = ksM n m := by
 have hp : ss.Perm (ksM n m) := (List.perm_ext_iff_of_nodup hn ((ksM_lt n m).imp fun h => by omega)).2 hm
 rw [mergeSort_of_perm_i hp]
 refine List.mergeSort_of_pairwise ?_
 exact (ksM_lt n m).imp fun h => by simp; omega
theorem i64_min : IntKind.i64.min = -9223372036854775808 := by decide
theorem i64_max : IntKind.i64.max = 9223372036854775807 := by decide
theorem key_u {n : Nat} {m : Mp} (hm : ∀ u s, m u = some s → 0 ≤ u ∧ u < n) {k : List KC} (h : kOk [.int .i64] k) (hh : mH m k = true) : ∃ u, k = [.int u] ∧ 0 ≤ u ∧ u < n ∧ (m u).isSome = true := by
 match k, h with
 | [.int u], _ =>
  have hh : (m u).isSome = true := hh
  obtain ⟨s, hs⟩ := Option.isSome_iff_exists.1 hh
  exact ⟨u, rfl, (hm u s hs).1, (hm u s hs).2, hh⟩
theorem sortedKeys_c (hns : (default : DRT).ns) (n : Nat) (m : Mp) (hm : ∀ u s, m u = some s → 0 ≤ u ∧ u < n) (hn : n ≤ 50) :
  MCalls Tryz.prog G 83 [.fn 101 [.ref 1 0]] [.ghost [.junk, .ref 1 0], .box 75 [mpA m]]
   (.sl (ksM n m).length 1 fun i => [.int .i64 ((ksM n m).getD i 0)]) [.ghost [.junk, .ref 1 0], .box 75 [mpA m]] := by
 refine ⟨⟨_, _, Tryz.func83, rfl, rfl⟩, ?_⟩
 intro im w vs gs ids hG hs
 have hvl : vs.length = 1 := by have := hs.len; simpa using this
 match vs, hvl with
 | [v], _ =>
 have h0 := hs.slots 0 (by simp) (by simp)
 simp only [List.getElem_cons_zero, List.getElem_toArray] at h0
 obtain ⟨us, rfl, hu2, hu3⟩ := h0.fn_inv
 match us, hu2 with
 | [u], _ =>
 have hu := hu3 0 (by simp) (by simp)
 simp only [List.getElem_cons_zero] at hu
 obtain ⟨p, hid, rfl⟩ := hs.ref_at hu (by simp)
 have hil : ids.length = 2 := hs.mlen
 have hB := hs.blks 1 (by simp) (by omega)
 have hi1 : ids[1]'(by omega) = .lv p := by
  rw [List.getElem?_eq_getElem (by omega)] at hid
  exact Option.some.inj hid
 rw [hi1] at hB
 simp only [List.getElem_cons_succ, List.getElem_cons_zero] at hB
 obtain ⟨cs, c1, c2, c3, c4⟩ := hB
 have hk1 : p.k = 1 := c3.symm
 have hr := (c4 0 (by simp) (by omega)).1
 have hcell : w.cell? ⟨p.blk, 0, none⟩ = some (cs[0]'(by omega)) := by
  rw [cell_of_row w p.blk _ cs _ (0, 0) c1]; simp [c2, hk1]
 simp only [List.getElem_cons_zero] at hr
 generalize cs[0]'(by omega) = x at hr hcell
 cases hr with | imm hr =>
 cases hr with | mv _ _ _ _ r es clock f hb hh hk hd hc hv hbn hbu =>
 have hg : ∀ i, i < es.size → ∃ u : Int, f i = [.int u] ∧ 0 ≤ u ∧ u < n ∧ (m u).isSome = true := fun i hi => key_u hm (hk i hi).1 (hk i hi).2.2
 let g : Nat → Int := fun i => match f i with
  | [.int u] => u
  | _ => 0
 have hg1 : ∀ i, i < es.size → f i = [.int (g i)] ∧ 0 ≤ g i ∧ g i < n ∧ (m (g i)).isSome = true := fun i hi => by
  obtain ⟨u, e, h1, h2, h3⟩ := hg i hi
  have : g i = u := by show (match f i with | [.int u] => u | _ => 0) = u; rw [e]
  rw [this]; exact ⟨e, h1, h2, h3⟩
 have hkey : ∀ i (h : i < es.size), es[i].key = .int .i64 (g i) := fun i hi => by
  rw [(hk i hi).2.1, (hg1 i hi).1]; rfl
 have hgi : ∀ i j, i < es.size → j < es.size → g i = g j → i = j := fun i j hi hj e => hd i j hi hj (by rw [(hg1 i hi).1, (hg1 j hj).1, e])
 have hndr : ((List.range es.size).map g).Nodup := by
  rw [List.nodup_iff_pairwise_ne, List.pairwise_map]
  refine List.Pairwise.imp_of_mem ?_ (List.nodup_range (n := es.size))
  intro a b ha hb hne e
  exact hne (hgi a b (List.mem_range.1 ha) (List.mem_range.1 hb) e)
 have hsz : es.size ≤ 50 := by
  have := nd_leI n ((List.range es.size).map g) hndr (fun x hx => by
   obtain ⟨i, hi, rfl⟩ := List.mem_map.1 hx
   have := hg1 i (List.mem_range.1 hi); omega)
  simp at this; omega
 have hes : es.toList = (List.range es.size).map fun i => es.getD i default := by
  apply List.ext_getElem
  ·simp
  ·intro i h1 h2
   simp at h1
   simp [Array.getD_eq_getD_getElem?, h1]
 have hkl : ∀ i, i < es.size → keyOf Tryz.prog 3 (es.getD i default).key = some (.int .i64 (g i)) := fun i hi => by
  have e : es.getD i default = es[i] := by simp [Array.getD_eq_getD_getElem?, hi]
  rw [e, hkey i hi]
  have hw : (Lit.int .i64 (g i)).wf = true := by
   have := hg1 i hi
   simp only [Lit.wf, Bool.and_eq_true, decide_eq_true_eq, i64_min, i64_max]; omega
  unfold keyOf mapKey
  rw [Tryz.underlying3]
  simp [hw]
 let R : Value → Option (DataW Unit × List MemPlace) := fun _ => some (.nil, [])
 have hrd : ∀ i, i < es.size → rg Tryz.prog 3 R (es.getD i default) = (.int .i64 (g i), .nil) := fun i hi => by
  have := rd_mk (P := Tryz.prog) (k := 3) (R := R) (val := (es.getD i default).val) (born := (es.getD i default).born) (hkl i hi) (yv := (.nil, [])) rfl
  exact rg_of this
 let D0 : DataW Unit := .map ((es.toList.map (rg Tryz.prog 3 R)).foldr DataW.insert [])
 have hownm : w.ownsMap Tryz.prog 3 R r es.size D0 := by
  refine ⟨es, clock, hh, ⟨by unfold maxLen; omega, ⟨fun x hx => ?_, ?_, ?_⟩, fun x hx => ?_⟩, Nat.le_refl _, rfl⟩
  ·obtain ⟨i, hi, rfl⟩ := List.getElem_of_mem hx
   simp at hi
   have := hbn i hi; simpa using this
  ·rw [List.nodup_iff_pairwise_ne, List.pairwise_iff_getElem]
   intro i j hi hj hij e
   simp at hi hj e
   have := hbu i j hi hj e; omega
  ·rw [List.nodup_iff_pairwise_ne, List.pairwise_iff_getElem]
   intro i j hi hj hij e
   simp at hi hj e
   rw [hkey i hi, hkey j hj] at e
   have := hgi i j hi hj (by injection e); omega
  ·obtain ⟨i, hi, rfl⟩ := List.getElem_of_mem hx
   simp at hi
   have := rd_mk (P := Tryz.prog) (k := 3) (R := R) (val := (es.getD i default).val) (born := (es.getD i default).born) (hkl i hi) (yv := (.nil, [])) rfl
   refine ⟨(.int .i64 (g i), .nil), ?_⟩
   rw [show es.toList[i] = ⟨(es.getD i default).key, (es.getD i default).val, (es.getD i default).born⟩ by simp [Array.getD_eq_getD_getElem?, hi]]
   exact this
 have hperm : (intKeys D0).Perm ((List.range es.size).map g) := by
  show (intKeys (DataW.map ((es.toList.map (rg Tryz.prog 3 R)).foldr DataW.insert []))).Perm _
  unfold intKeys
  refine ((Go.WideShapes.sorted_perm _).map _).trans ?_
  rw [List.map_map, hes, List.map_map]
  refine List.Perm.of_eq (List.map_congr_left fun i hi => ?_)
  simp only [Function.comp_apply]
  rw [hrd i (List.mem_range.1 hi)]; rfl
 have hsize : Go.Maps.size D0 = es.size := by
  show ((es.toList.map (rg Tryz.prog 3 R)).foldr DataW.insert []).length = es.size
  rw [(Go.WideShapes.sorted_perm _).length_eq]; simp
 have hpl : p.blk < w.heap.size := (hs.fresh p (List.mem_of_getElem? hid)).2
 have hseq : SeqGives Fence.wide 2 Tryz.prog 101 #[.pointer (some ⟨p.blk, 0, none⟩)] encZ (fun ss => ss.Perm (intKeys D0)) (Go.Maps.size D0) w :=
  AnyZI.keys_gives (ρ := Tryz.layKeys_ren) { Tryz.layKeys with } Fence.wide _ trivial rfl (by omega) p.blk r es.size D0 w hpl hcell hownm
 have cS := AnyZI.sorted_in Tryz.laySorted Fence.wide 5 trivial trivial trivial trivial rfl (by omega) (sortsI _) (enters_of Tryz.func100 (by kernel_rfl) rfl) 101 #[.pointer (some ⟨p.blk, 0, none⟩)] trivial (enters_of Tryz.func101 (by kernel_rfl) rfl) _ _ (by rw [hsize]; unfold maxLen; omega) (by rw [hsize]; omega) _ hseq
 change CallsIn _ _ Tryz.prog 83 _ _ _ at cS
 refine Calls_mono ((callsIn_wide (n := 5)).1 cS) ?_
 rintro e w' ⟨v', ss, rfl, hS, hrow, hnil, hbe⟩
 have hS2 := hS.trans hperm
 have hss : ss.mergeSort (fun x y => decide (x ≤ y)) = ksM n m := by
  refine ksM_sort (hS2.nodup_iff.2 hndr) fun u => ?_
  rw [hS2.mem_iff, ksM_mem, List.mem_map]
  constructor
  ·rintro ⟨i, hi, rfl⟩
   have := hg1 i (List.mem_range.1 hi); exact ⟨this.2.1, this.2.2.1, this.2.2.2⟩
  ·rintro ⟨h1, h2, h3⟩
   obtain ⟨i, hi, e⟩ := hc [.int u] trivial h3
   refine ⟨i, List.mem_range.2 hi, ?_⟩
   rw [(hg1 i hi).1] at e
   cases e; rfl
 rw [hss] at hrow
 have hbw : Bw w.heap.size w w' := ⟨hbe.os, hbe.tape, hbe.output, hbe.size, hbe.block, .inl hns⟩
 have hg2 := hs.grow hbw [] [] rfl (fun i h => absurd h (Nat.not_lt_zero _)) (fun p h => by cases h) (fun vs h => by cases h) (fun i j p q x h => by simp at h)
 rw [List.append_nil, List.append_nil] at hg2
 refine ⟨v', ids, rfl, ⟨rfl, rfl, fun i h1 h2 => ?_, hg2.mlen, hg2.blks, hg2.distinctX, hg2.freshX, hg2.frame, hg2.im0lt, hg2.gho⟩⟩
 have : i = 0 := by simp at h1; omega
 subst this
 simp only [List.getElem_cons_zero, List.getElem_toArray]
 obtain ⟨hlen, hcase⟩ := hrow
 have hlen2 : (ksM n m).length = ss.length := by rw [List.length_map, Nat.mul_one] at hlen; exact hlen
 rw [hlen2]
 rcases hcase with ⟨rfl, h0⟩ | ⟨q, cap, cur, rfl, q1, q2, q3, q4, q5, q6⟩
 ·rw [h0]; exact .imm (.sl0 1 _)
 ·refine .imm (.sl ss.length 1 _ q 0 cap (fun i j => .int .i64 ((ksM n m).getD i 0)) ?_ q3 (fun _ _ => rfl) ?_ (fun _ _ _ _ => rfl) ?_)
  ·refine .inr ⟨.inl q1, (Array.getElem?_eq_some_iff.1 q2).1, fun p' hp' hx => ?_⟩
   have := (hs.freshX p' hp' q hx).2; omega
  ·intro i j hi hj
   have hj0 : j = 0 := by omega
   subst hj0
   rw [cell_of_row w' q _ cur _ (0, 0) q2]
   simp only [Nat.zero_add, Nat.mul_one, Nat.add_zero]
   have hi2 : i < (ksM n m).length := by omega
   have e1 : (cur.toList.take (ss.length * 1))[i]? = some (.int .i64 ((ksM n m).getD i 0)) := by
    rw [q6, List.getElem?_map, List.getElem?_eq_getElem hi2, List.getD_eq_getElem?_getD, List.getElem?_eq_getElem hi2]
    rfl
   rw [List.getElem?_take] at e1
   split at e1
   ·simpa using e1
   ·cases e1
  ·intro i j hi hj
   have hj0 : j = 0 := by simp at hj; omega
   subst hj0
   exact .int _ _
end Go.Proofs.YtnkbkfjgbejhfaaGreat
namespace Go.Proofs.YtnkbkfjgbejhfaaGreat
open Go.Proofs.YtnkbkfjgbejhfaaGreat.Am Go.HeapL
variable [Inhabited DRT]
variable {G : GInv}
/-- A graph's work, as it is read. -/
structure QZ where
 l : Nat
 r : Nat → List A
 h : List KC → Bool
 v : List KC → A
abbrev wkA (n : Nat) (r1 r2 r3 : Nat → List A) (z : QZ) : A := .bref [.int .i64 (n : Int), .sl n 1 r1, .sl n 1 r2, .sl n 1 r3, .bref [.sl z.l 2 z.r, .mv false [.int .i64] z.h z.v] 0, .junk] 0
abbrev rBs (fr past most H cnt : Int) (S : WS) (l : List It) : List Blk := [.box 112 [.int .i64 fr, .int .i64 past, .int .i64 most, .int .i64 H, .int .i64 cnt], .box 81 [.own 2, .omap 3], .row 41 2 S.L.length (itR S.L), atB S.L, mpB S.c, .box 145 [.int .i64 fr, .int .i64 past, .int .i64 most, .int .i64 H, .int .i64 cnt, .ref 1 0, .omap 4], .row 41 2 l.length (itR l)]
theorem _root_.Go.HeapL.WI.len {n : Nat} {P : Int → Int → Prop} {H : Int} {S : WS} (h : WI n P H S) : S.L.length ≤ n := by
 have := nd_leI n (S.L.map fun x : It => x.2) h.nd (fun x hx => by
  obtain ⟨⟨k, v⟩, hm, rfl⟩ := List.mem_map.1 hx
  exact (h.el hm).2)
 simpa using this
theorem itR_app (L : List It) (x : It) (r : Nat → List A) (hr : r 0 = [.int .i64 x.1, .int .i64 x.2]) (j : Nat) (h : j < L.length + 1) : rowCat L.length (itR L) r j = itR (L ++ [x]) j :=
 rowCat_snoc (fun x : It => [.int .i64 x.1, .int .i64 x.2]) (0, 0) L x r hr j h
theorem whp_some {S : WS} {v : Int} (h : (S.c v).isSome = true) : whp S v = ((S.c v).getD (0, 0)).2 := by
 unfold whp
 cases e : S.c v with
 | none => rw [e] at h; cases h
 | some k => rfl
theorem whp_none {S : WS} {v : Int} (h : (S.c v).isSome = false) : whp S v = 0 := by
 unfold whp
 cases e : S.c v with
 | none => rfl
 | some k => rw [e] at h; cases h
theorem wrlx_take {past most key hops : Int} {S : WS} {l : List It} {j : Nat} (h : j < l.length) : wrlx past most key hops (l.take (j + 1)) S = wst1 past most key hops (wrlx past most key hops (l.take j) S) (l.getD j (0, 0)) := by
 unfold wrlx
 rw [List.take_add_one, List.foldl_append, List.getElem?_eq_getElem h]
 simp [List.getD_eq_getElem?_getD, h]
theorem _root_.Go.HeapL.WI.hops {n : Nat} {P : Int → Int → Prop} {H : Int} {S : WS} (h : WI n P H S) {v : Int} (hh : ¬ whp S v = H) (hH : 0 < H) : 0 ≤ whp S v ∧ whp S v < H := by
 unfold whp at hh ⊢
 split
 ·rename_i k e
  rw [e] at hh
  have := h.ch e
  simp only at hh
  omega
 ·omega
theorem none_mH (key : List KC) : false = mH (fun _ => none) key := by
 unfold mH; split <;> rfl
theorem wreach_0 (fr past most H cnt : Int) (v cost hops : Int) :
  MCalls Tryz.prog G 85 [.ref 1 0, .int .i64 v, .int .i64 cost, .int .i64 hops] [sgs, .box 145 [.int .i64 fr, .int .i64 past, .int .i64 most, .int .i64 H, .int .i64 cnt, .ref 2 0, .omap 5], .box 81 [.own 3, .omap 4], .row 41 2 0 (itR []), atB [], .mapb false [.int .i64] (fun _ => false) (fun _ => .junk)] (.tup []) (sgs :: sBs fr past most H cnt (wrch past most ws0 v cost hops)) := by
 refine MCalls.fit (wreach_c fr past most H cnt ws0 v cost hops List.nodup_nil (by show 0 ≤ 100000; omega)) rfl ?_
 conv => whnf
 repeat (first | exact fa | ((first | refine fb ?_ | (refine And.intro ?_ ?_; rotate_left)); conv => whnf))
 all_goals first
  | exact fun key => none_mH key
  | exact fun key h => by cases h
theorem run_yes (n : Nat) (r1 r2 r3 : Nat → List A) (z : QZ) (P : Int → Int → Prop) (fr past most H : Int) (cnt : Nat) (lk : Int → List It) (hI : LkI n P past most lk) (hm : 0 ≤ most ∧ most ≤ 4611686018427387904) (hf : 0 ≤ fr ∧ fr < n) (hfp : fr ≠ past) (hn : n ≤ 50) (hH : 1 ≤ H ∧ H ≤ 1000) (hc : 1 ≤ cnt ∧ cnt ≤ 1000)
  (hP : ∀ v k, P v k → 0 ≤ k ∧ k ≤ most) (hP0 : P fr 0)
  (hl : ∀ u : Int, 0 ≤ u → u < n → (lk u).length ≤ 1000000 ∧ ∀ a ∈ lk u, 0 ≤ a.1 ∧ a.1 ≤ 2305843009213693952)
  (hout : ∀ u k : Int, P u k → 0 ≤ u → u < n → ACalls Tryz.prog G 56 [.int .i64 u, .bref [wkA n r1 r2 r3 z] 0] (.sl (lk u).length 2 (itR (lk u)))) :
  ACalls Tryz.prog G 55 [.agg [.int .i64 fr, .int .i64 past, .int .i64 most, .int .i64 H, .int .i64 (cnt : Int)], .fn 56 [.bref [wkA n r1 r2 r3 z] 0]]
   (.sl (wrun past most H lk cnt (wrch past most ws0 fr 0 0) []).length 2 (itR (wrun past most H lk cnt (wrch past most ws0 fr 0 0) []))) := by
 have h0 := new_c (G := G)
 have hr0 := wreach_0 (G := G) fr past most H cnt fr 0 0
 refine ACalls.of_WA ttok Tryz.func55 rfl rfl _ rfl ?_
 conv => whnf
 repeat' (first | (refine WA_drawR (id := 3) [(1,3)] ttok mixed ?_; conv => whnf) | ((exfalso; omega)) | (exact absurd (show fr = past by assumption) hfp) | refine sq ?_ | refine bk ?_ | ((first | refine rg ttok ?_ | refine dw ttok mixed ?_ | refine cd ?_ | refine sk ?_ | refine xt ?_ | refine rt ?_); conv => whnf) | (refine And.intro (fun h => ?_) (fun h => ?_) <;> (try simp only [brsA] at h) <;> conv => whnf) | (refine Or.inr (Or.inl ?_); (conv => whnf); refine ⟨_, _, hr0, ?_⟩; conv => whnf) | ((first | refine Or.inr (Or.inr (Or.inr ?_)) | refine Or.inr ?_); (conv => whnf); refine ⟨_, _, h0, ?_⟩; conv => whnf) | ((first | refine wf ?_ | refine wp' ?_ | refine ai ?_ | refine And.intro rfl ?_ | refine an ?_ | fail); conv => whnf))
 generalize hR0 : wrun past most H lk cnt (wrch past most ws0 fr 0 0) [] = R0
 have hI0 : WI n P H (wrch past most ws0 fr 0 0) := wrch_WI (ws0_WI _ _ _) (fun _ _ => hP0) hf (by omega)
 generalize wrch past most ws0 fr 0 0 = S0 at *
 refine WA_nil 6 41 2 rfl ?_
 conv => whnf
 refine WA_loopI (ι := WS × List It × Nat) (fun x => WI n P H x.1 ∧ x.2.1.length + x.2.2 = cnt ∧ wrun past most H lk x.2.2 x.1 x.2.1 = R0) (fun _ => [(6, .own 6)]) (fun x => match x with | (S, l, _) => rBs fr past most H cnt S l) (fun x => x.2.2) (S0, [], cnt) ⟨hI0, by simp, hR0⟩ ?_ ?_
 ·conv => whnf
  repeat (first | exact fa | ((first | refine fb ?_ | (refine And.intro ?_ ?_; rotate_left)); conv => whnf))
 ·rintro ⟨S, l, k⟩ ⟨hI, hlen, hR⟩
  have hI : WI n P H S := hI
  have hlen : l.length + k = cnt := hlen
  have hR : wrun past most H lk k S l = R0 := hR
  have hSl := hI.len
  rcases k with _ | k
  ·have hR : l = R0 := hR
   subst hR
   have hpopn := fun h => pop_no (G := G) S.L h
   conv => whnf
   repeat' (first | ((exfalso; omega)) | refine sq ?_ | refine bk ?_ | ((first | refine rg ttok ?_ | refine dw ttok mixed ?_ | refine cd ?_ | refine sk ?_ | refine xt ?_ | refine rt ?_); conv => whnf) | (refine And.intro (fun h => ?_) (fun h => ?_) <;> (try simp only [brsA] at h) <;> conv => whnf) | ((first | refine wf ?_ | refine wp' ?_ | refine ai ?_ | refine And.intro rfl ?_ | refine an ?_ | fail); conv => whnf))
   repeat (first | exact fa | ((first | refine fb ?_ | (refine And.intro ?_ ?_; rotate_left)); conv => whnf))
  ·by_cases h0 : 0 < S.L.length
   ·have hpop := pop_c (G := G) S.L hI.nd h0 (by omega)
    have ht := hI.el (mem_gt h0)
    have hk := hout (gt S.L 0).2 (gt S.L 0).1 ht.1 ht.2.1 ht.2.2
    have hlk := hl (gt S.L 0).2 ht.2.1 ht.2.2
    have hW := wstep_WI ‹LkI n P past most lk› (by omega) hI h0
    have hRk : wrun past most H lk k (wstep past most H lk S) (l ++ [gt S.L 0]) = R0 := by
     rw [← hR, wrun, decide_eq_true h0]
    conv => whnf
    repeat' (first | refine sq ?_ | refine bk ?_ | ((first | refine rg ttok ?_ | refine dw ttok mixed ?_ | refine cd ?_ | refine sk ?_ | refine xt ?_ | refine rt ?_); conv => whnf) | (refine And.intro (fun h => ?_) (fun h => ?_) <;> (try simp only [brsA] at h) <;> conv => whnf) | (refine Or.inl ?_; (conv => whnf); refine ⟨_, hk, ?_⟩; conv => whnf) | (refine Or.inr (Or.inl ?_); (conv => whnf); refine ⟨_, _, hpop, ?_⟩; conv => whnf) | ((first | refine wf ?_ | refine wp' ?_ | refine ai ?_ | refine And.intro rfl ?_ | refine an ?_ | fail); conv => whnf))
    ·have hh : whp S (gt S.L 0).2 = H := (whp_some (by assumption)).trans h
     refine ⟨(wpop S, l ++ [gt S.L 0], k), ⟨wpop_WI hI h0, (by show (l ++ [gt S.L 0]).length + k = cnt; simp; omega), ?_⟩, (by show k < k + 1; omega), ?_⟩
     ·rw [wstep, decide_eq_true hh] at hRk; exact hRk
     ·conv => whnf
      repeat (first | exact fa | ((first | refine fb ?_ | (refine And.intro ?_ ?_; rotate_left)); conv => whnf))
      all_goals first
       | exact Or.inl fun j hj => itR_app l _ _ rfl j hj
       | simp
    ·have hh : ¬ whp S (gt S.L 0).2 = H := fun e => h ((whp_some (by assumption)).symm.trans e)
     have hv := whp_some (S := S) (v := (gt S.L 0).2) (by assumption)
     generalize ((S.c (gt S.L 0).2).getD (0, 0)).2 = hv0 at *
     have hv1 : 0 ≤ whp S (gt S.L 0).2 ∧ whp S (gt S.L 0).2 < H := hI.hops hh (by omega)
     rw [wstep, decide_eq_false hh, hv] at hRk
     rw [hv] at hv1
     have hj : ∀ j, j ≤ (lk (gt S.L 0).2).length → WI n P H (wrlx past most (gt S.L 0).1 hv0 ((lk (gt S.L 0).2).take j) (wpop S)) := fun j hj => wrlx_WI hv1 _ (wpop_WI hI h0) fun a ha => ‹LkI n P past most lk›.go ht.1 ht.2.1 ht.2.2 (List.mem_of_mem_take ha)
     have hkey : 0 ≤ (gt S.L 0).1 ∧ (gt S.L 0).1 ≤ most := hP _ _ ht.1
     refine WA_loopI (ι := Nat × WS) (fun x => x.1 ≤ (lk (gt S.L 0).2).length ∧ x.2 = wrlx past most (gt S.L 0).1 hv0 ((lk (gt S.L 0).2).take x.1) (wpop S)) (fun x => match x with | (j, _) => [(82, .int .i64 (j : Int)), (63, .junk)]) (fun x => match x with | (_, T) => rBs fr past most H cnt T (l ++ [gt S.L 0]) ++ [.box 41 [.int .i64 (gt S.L 0).1, .int .i64 (gt S.L 0).2]]) (fun x => (lk (gt S.L 0).2).length - x.1) (0, wpop S) ⟨Nat.zero_le _, rfl⟩ ?_ ?_
     ·conv => whnf
      repeat (first | exact fa | ((first | refine fb ?_ | (refine And.intro ?_ ?_; rotate_left)); conv => whnf))
      all_goals first
       | exact Or.inl fun j hj => itR_app l _ _ rfl j hj
       | rfl
       | simp
     ·rintro ⟨j, T⟩ ⟨hjl, hTe⟩
      have hjl : j ≤ (lk (gt S.L 0).2).length := hjl
      have hTe : T = _ := hTe
      have hja : j < (lk (gt S.L 0).2).length → 0 ≤ ((lk (gt S.L 0).2).getD (j : Int).toNat (0, 0)).1 ∧ ((lk (gt S.L 0).2).getD (j : Int).toNat (0, 0)).1 ≤ 2305843009213693952 := fun h => hlk.2 _ (by
       rw [show (j : Int).toNat = j from rfl, List.getD_eq_getElem?_getD, List.getElem?_eq_getElem h]; exact List.getElem_mem h)
      have hWj : WI n P H T := hTe ▸ hj j hjl
      have hWl := hWj.len
      have hre := wreach_c (G := G) fr past most H cnt T ((lk (gt S.L 0).2).getD j (0, 0)).2 ((gt S.L 0).1 + ((lk (gt S.L 0).2).getD j (0, 0)).1) (hv0 + 1) hWj.nd (by omega)
      have hst : j < (lk (gt S.L 0).2).length → _ := fun h => wrlx_take (past := past) (most := most) (key := (gt S.L 0).1) (hops := hv0) (S := wpop S) h
      unfold wst1 at hst
      simp only [← hTe] at hst
      have hkey : 0 ≤ (gt S.L 0).1 ∧ (gt S.L 0).1 ≤ most := hkey
      conv => whnf
      repeat' (first | refine sq ?_ | refine bk ?_ | ((first | refine rg ttok ?_ | refine dw ttok mixed ?_ | refine cd ?_ | refine sk ?_ | refine xt ?_ | refine rt ?_); conv => whnf) | (refine And.intro (fun h => ?_) (fun h => ?_) <;> (try simp only [brsA] at h) <;> conv => whnf) | (refine Or.inr (Or.inl ?_); (conv => whnf); refine ⟨_, _, hre, ?_⟩; conv => whnf) | ((first | refine wf ?_ | refine wp' ?_ | refine ai ?_ | refine And.intro rfl ?_ | refine an ?_ | fail); conv => whnf))
      ·rw [decide_eq_true (show ((lk (gt S.L 0).2).getD j (0, 0)).1 ≤ most - (gt S.L 0).1 from h)] at hst
       refine ⟨(j + 1, _), ⟨(by show j + 1 ≤ (lk (gt S.L 0).2).length; omega), (hst (by omega)).symm⟩, (by show (lk (gt S.L 0).2).length - (j + 1) < (lk (gt S.L 0).2).length - j; omega), ?_⟩
       conv => whnf
       repeat (first | exact fa | ((first | refine fb ?_ | (refine And.intro ?_ ?_; rotate_left)); conv => whnf))
      ·rw [decide_eq_false (show ¬ ((lk (gt S.L 0).2).getD j (0, 0)).1 ≤ most - (gt S.L 0).1 from h)] at hst
       refine ⟨(j + 1, _), ⟨(by show j + 1 ≤ (lk (gt S.L 0).2).length; omega), (hst (by omega)).symm⟩, (by show (lk (gt S.L 0).2).length - (j + 1) < (lk (gt S.L 0).2).length - j; omega), ?_⟩
       conv => whnf
       repeat (first | exact fa | ((first | refine fb ?_ | (refine And.intro ?_ ?_; rotate_left)); conv => whnf))
      ·have e : j = (lk (gt S.L 0).2).length := by omega
       subst e
       rw [List.take_length] at hTe
       refine ⟨(T, l ++ [gt S.L 0], k), ⟨hWj, (by show (l ++ [gt S.L 0]).length + k = cnt; simp; omega), (by rw [hTe]; exact hRk)⟩, (by show k < k + 1; omega), ?_⟩
       conv => whnf
       repeat (first | exact fa | ((first | refine fb ?_ | (refine And.intro ?_ ?_; rotate_left)); conv => whnf))

    ·have hh : whp S (gt S.L 0).2 = H := (whp_none (by assumption)).trans h
     refine ⟨(wpop S, l ++ [gt S.L 0], k), ⟨wpop_WI hI h0, (by show (l ++ [gt S.L 0]).length + k = cnt; simp; omega), ?_⟩, (by show k < k + 1; omega), ?_⟩
     ·rw [wstep, decide_eq_true hh] at hRk; exact hRk
     ·conv => whnf
      repeat (first | exact fa | ((first | refine fb ?_ | (refine And.intro ?_ ?_; rotate_left)); conv => whnf))
      all_goals first
       | exact Or.inl fun j hj => itR_app l _ _ rfl j hj
       | simp
    ·have hh : ¬ whp S (gt S.L 0).2 = H := fun e => h ((whp_none (by assumption)).symm.trans e)
     have hv := whp_none (S := S) (v := (gt S.L 0).2) (by assumption)
     have hv1 : 0 ≤ whp S (gt S.L 0).2 ∧ whp S (gt S.L 0).2 < H := hI.hops hh (by omega)
     rw [wstep, decide_eq_false hh, hv] at hRk
     rw [hv] at hv1
     have hj : ∀ j, j ≤ (lk (gt S.L 0).2).length → WI n P H (wrlx past most (gt S.L 0).1 0 ((lk (gt S.L 0).2).take j) (wpop S)) := fun j hj => wrlx_WI hv1 _ (wpop_WI hI h0) fun a ha => ‹LkI n P past most lk›.go ht.1 ht.2.1 ht.2.2 (List.mem_of_mem_take ha)
     have hkey : 0 ≤ (gt S.L 0).1 ∧ (gt S.L 0).1 ≤ most := hP _ _ ht.1
     refine WA_loopI (ι := Nat × WS) (fun x => x.1 ≤ (lk (gt S.L 0).2).length ∧ x.2 = wrlx past most (gt S.L 0).1 0 ((lk (gt S.L 0).2).take x.1) (wpop S)) (fun x => match x with | (j, _) => [(82, .int .i64 (j : Int)), (63, .junk)]) (fun x => match x with | (_, T) => rBs fr past most H cnt T (l ++ [gt S.L 0]) ++ [.box 41 [.int .i64 (gt S.L 0).1, .int .i64 (gt S.L 0).2]]) (fun x => (lk (gt S.L 0).2).length - x.1) (0, wpop S) ⟨Nat.zero_le _, rfl⟩ ?_ ?_
     ·conv => whnf
      repeat (first | exact fa | ((first | refine fb ?_ | (refine And.intro ?_ ?_; rotate_left)); conv => whnf))
      all_goals first
       | exact Or.inl fun j hj => itR_app l _ _ rfl j hj
       | rfl
       | simp
     ·rintro ⟨j, T⟩ ⟨hjl, hTe⟩
      have hjl : j ≤ (lk (gt S.L 0).2).length := hjl
      have hTe : T = _ := hTe
      have hja : j < (lk (gt S.L 0).2).length → 0 ≤ ((lk (gt S.L 0).2).getD (j : Int).toNat (0, 0)).1 ∧ ((lk (gt S.L 0).2).getD (j : Int).toNat (0, 0)).1 ≤ 2305843009213693952 := fun h => hlk.2 _ (by
       rw [show (j : Int).toNat = j from rfl, List.getD_eq_getElem?_getD, List.getElem?_eq_getElem h]; exact List.getElem_mem h)
      have hWj : WI n P H T := hTe ▸ hj j hjl
      have hWl := hWj.len
      have hre := wreach_c (G := G) fr past most H cnt T ((lk (gt S.L 0).2).getD j (0, 0)).2 ((gt S.L 0).1 + ((lk (gt S.L 0).2).getD j (0, 0)).1) (0 + 1) hWj.nd (by omega)
      have hst : j < (lk (gt S.L 0).2).length → _ := fun h => wrlx_take (past := past) (most := most) (key := (gt S.L 0).1) (hops := 0) (S := wpop S) h
      unfold wst1 at hst
      simp only [← hTe] at hst
      have hkey : 0 ≤ (gt S.L 0).1 ∧ (gt S.L 0).1 ≤ most := hkey
      conv => whnf
      repeat' (first | refine sq ?_ | refine bk ?_ | ((first | refine rg ttok ?_ | refine dw ttok mixed ?_ | refine cd ?_ | refine sk ?_ | refine xt ?_ | refine rt ?_); conv => whnf) | (refine And.intro (fun h => ?_) (fun h => ?_) <;> (try simp only [brsA] at h) <;> conv => whnf) | (refine Or.inr (Or.inl ?_); (conv => whnf); refine ⟨_, _, hre, ?_⟩; conv => whnf) | ((first | refine wf ?_ | refine wp' ?_ | refine ai ?_ | refine And.intro rfl ?_ | refine an ?_ | fail); conv => whnf))
      ·rw [decide_eq_true (show ((lk (gt S.L 0).2).getD j (0, 0)).1 ≤ most - (gt S.L 0).1 from h)] at hst
       refine ⟨(j + 1, _), ⟨(by show j + 1 ≤ (lk (gt S.L 0).2).length; omega), (hst (by omega)).symm⟩, (by show (lk (gt S.L 0).2).length - (j + 1) < (lk (gt S.L 0).2).length - j; omega), ?_⟩
       conv => whnf
       repeat (first | exact fa | ((first | refine fb ?_ | (refine And.intro ?_ ?_; rotate_left)); conv => whnf))
      ·rw [decide_eq_false (show ¬ ((lk (gt S.L 0).2).getD j (0, 0)).1 ≤ most - (gt S.L 0).1 from h)] at hst
       refine ⟨(j + 1, _), ⟨(by show j + 1 ≤ (lk (gt S.L 0).2).length; omega), (hst (by omega)).symm⟩, (by show (lk (gt S.L 0).2).length - (j + 1) < (lk (gt S.L 0).2).length - j; omega), ?_⟩
       conv => whnf
       repeat (first | exact fa | ((first | refine fb ?_ | (refine And.intro ?_ ?_; rotate_left)); conv => whnf))
      ·have e : j = (lk (gt S.L 0).2).length := by omega
       subst e
       rw [List.take_length] at hTe
       refine ⟨(T, l ++ [gt S.L 0], k), ⟨hWj, (by show (l ++ [gt S.L 0]).length + k = cnt; simp; omega), (by rw [hTe]; exact hRk)⟩, (by show k < k + 1; omega), ?_⟩
       conv => whnf
       repeat (first | exact fa | ((first | refine fb ?_ | (refine And.intro ?_ ?_; rotate_left)); conv => whnf))

    ·exfalso; omega
   ·have hpop := pop_no (G := G) S.L (by omega)
    have hRk : l = R0 := by rw [← hR, wrun, decide_eq_false h0]
    conv => whnf
    repeat' (first | refine sq ?_ | refine bk ?_ | ((first | refine rg ttok ?_ | refine dw ttok mixed ?_ | refine cd ?_ | refine sk ?_ | refine xt ?_ | refine rt ?_); conv => whnf) | (refine And.intro (fun h => ?_) (fun h => ?_) <;> (try simp only [brsA] at h) <;> conv => whnf) | (refine Or.inr (Or.inl ?_); (conv => whnf); refine ⟨_, _, hpop, ?_⟩; conv => whnf) | ((first | refine wf ?_ | refine wp' ?_ | refine ai ?_ | refine And.intro rfl ?_ | refine an ?_ | fail); conv => whnf))
    ·subst hRk
     repeat (first | exact fa | ((first | refine fb ?_ | (refine And.intro ?_ ?_; rotate_left)); conv => whnf))
    ·exfalso; omega
end Go.Proofs.YtnkbkfjgbejhfaaGreat
namespace Go.Proofs.YtnkbkfjgbejhfaaGreat
open Go.Proofs.YtnkbkfjgbejhfaaGreat.Am Go.HeapL
variable [Inhabited DRT]
variable {G : GInv}
theorem keys_c (m : Mp) : MCalls Tryz.prog G 84 [mpA m] [] (.fn 101 [.ref 0 0]) [.box 75 [mpA m]] := by
 refine MCalls.of_WA ttok Tryz.func84 rfl rfl _ rfl ?_
 conv => whnf
 repeat' (first | refine sq ?_ | refine bk ?_ | ((first | refine rg ttok ?_ | refine dw ttok mixed ?_ | refine cd ?_ | refine sk ?_ | refine xt ?_ | refine rt ?_); conv => whnf) | (refine And.intro (fun h => ?_) (fun h => ?_) <;> (try simp only [brsA] at h) <;> conv => whnf) | ((first | refine wf ?_ | refine wp' ?_ | refine ai ?_ | refine And.intro rfl ?_ | refine an ?_ | fail); conv => whnf))
 repeat (first | exact fa | ((first | refine fb ?_ | (refine And.intro ?_ ?_; rotate_left)); conv => whnf))
theorem itM_at {n : Nat} {m : Mp} {i : Nat} (h : i < (itM n m).length) : mH m [.int ((ksM n m).getD i 0)] = true ∧ (itM n m).getD i (0, 0) = (((m ((ksM n m).getD i 0)).getD (0, 0)).1, (ksM n m).getD i 0) := by
 have e : (ksM n m).getD i 0 = ((itM n m).getD i (0, 0)).2 := by
  simp [List.getD_eq_getElem?_getD, h]
 have hm : (itM n m).getD i (0, 0) ∈ itM n m := by
  rw [List.getD_eq_getElem?_getD, List.getElem?_eq_getElem h]; exact List.getElem_mem h
 rw [e]
 generalize (itM n m).getD i (0, 0) = x at hm ⊢
 obtain ⟨w, u⟩ := x
 obtain ⟨_, _, s, hs, e⟩ := itM_mem.1 hm
 simp only at hs e ⊢
 refine ⟨by show (m u).isSome = true; rw [hs]; rfl, ?_⟩
 rw [hs, ← e]; rfl
theorem itR_cat (L : List It) (i : Nat) (r : Nat → List A) (hr : r 0 = [.int .i64 (L.getD i (0, 0)).1, .int .i64 (L.getD i (0, 0)).2]) (j : Nat) (h : j < i + 1) : rowCat i (itR L) r j = itR L j := by
 unfold rowCat
 split
 ·rfl
 ·rename_i hj
  have : j = i := by
   rcases Nat.lt_or_ge j i with h' | h'
   ·rw [show Nat.blt j i = true from Nat.ble_eq_true_of_le h'] at hj; cases hj
   ·omega
  subst this
  rw [Nat.sub_self, hr]; rfl
theorem items_c (hns : (default : DRT).ns) (n : Nat) (m : Mp) (hm : ∀ u s, m u = some s → 0 ≤ u ∧ u < n) (hn : n ≤ 50) :
  ACalls Tryz.prog G 53 [mpA m] (.sl (itM n m).length 2 (itR (itM n m))) := by
 have h1 := keys_c (G := G) m
 have h2 := sortedKeys_c (G := G) hns n m hm hn
 have hkl : (ksM n m).length = (itM n m).length := by simp
 have hil := itM_len n m
 refine ACalls.of_WA ttok Tryz.func53 rfl rfl _ rfl ?_
 conv => whnf
 repeat' (first | refine sq ?_ | refine bk ?_ | ((first | refine rg ttok ?_ | refine dw ttok mixed ?_ | refine cd ?_ | refine sk ?_ | refine xt ?_ | refine rt ?_); conv => whnf) | (refine And.intro (fun h => ?_) (fun h => ?_) <;> (try simp only [brsA] at h) <;> conv => whnf) | (refine Or.inr (Or.inl ?_); (conv => whnf); refine ⟨_, _, h2, ?_⟩; conv => whnf) | ((first | refine Or.inr (Or.inr (Or.inr ?_)) | refine Or.inr ?_); (conv => whnf); refine ⟨_, _, h1, ?_⟩; conv => whnf) | ((first | refine wf ?_ | refine wp' ?_ | refine ai ?_ | refine And.intro rfl ?_ | refine an ?_ | fail); conv => whnf))
 refine WA_nil 3 41 2 rfl ?_
 conv => whnf
 refine WA_loopI (fun i : Nat => i ≤ (itM n m).length) (fun i => [(10, .int .i64 (i : Int)), (3, .own 1)]) (fun i => [.box 75 [mpA m], .row 41 2 i (itR (itM n m))]) (fun i => (itM n m).length - i) 0 (Nat.zero_le _) ?_ ?_
 ·conv => whnf
  repeat (first | exact fa | ((first | refine fb ?_ | (refine And.intro ?_ ?_; rotate_left)); conv => whnf))
 ·intro i hi
  have hi : i ≤ (itM n m).length := hi
  rcases Nat.lt_or_ge i (itM n m).length with hil2 | hil2
  ·obtain ⟨a1, a2⟩ := itM_at hil2
   conv => whnf
   repeat' (first | (exact absurd a1 (by rw [show mH m [.int ((ksM n m).getD i 0)] = false from h]; exact Bool.noConfusion)) | ((exfalso; omega)) | refine sq ?_ | refine bk ?_ | ((first | refine rg ttok ?_ | refine dw ttok mixed ?_ | refine cd ?_ | refine sk ?_ | refine xt ?_ | refine rt ?_); conv => whnf) | (refine And.intro (fun h => ?_) (fun h => ?_) <;> (try simp only [brsA] at h) <;> conv => whnf) | ((first | refine wf ?_ | refine wp' ?_ | refine ai ?_ | refine And.intro rfl ?_ | refine an ?_ | fail); conv => whnf))
   refine ⟨i + 1, (by show i + 1 ≤ (itM n m).length; omega), (by show (itM n m).length - (i + 1) < (itM n m).length - i; omega), ?_⟩
   conv => whnf
   repeat (first | exact fa | ((first | refine fb ?_ | (refine And.intro ?_ ?_; rotate_left)); conv => whnf))
   exact Or.inl fun j hj => itR_cat _ i _ (by show [A.int .i64 ((m ((ksM n m).getD i 0)).getD (0, 0)).1, A.int .i64 ((ksM n m).getD i 0)] = _; rw [a2]) j hj
  ·have e : i = (itM n m).length := by omega
   conv => whnf
   repeat' (first | ((exfalso; omega)) | refine sq ?_ | refine bk ?_ | ((first | refine rg ttok ?_ | refine dw ttok mixed ?_ | refine cd ?_ | refine sk ?_ | refine xt ?_ | refine rt ?_); conv => whnf) | (refine And.intro (fun h => ?_) (fun h => ?_) <;> (try simp only [brsA] at h) <;> conv => whnf) | ((first | refine wf ?_ | refine wp' ?_ | refine ai ?_ | refine And.intro rfl ?_ | refine an ?_ | fail); conv => whnf))
   subst e
   repeat (first | exact fa | ((first | refine fb ?_ | (refine And.intro ?_ ?_; rotate_left)); conv => whnf))
end Go.Proofs.YtnkbkfjgbejhfaaGreat
namespace Go.Proofs.YtnkbkfjgbejhfaaGreat
open Go.Proofs.YtnkbkfjgbejhfaaGreat.Am Go.HeapL
variable [Inhabited DRT]
variable {G : GInv}
/-! ### The shortcuts that are needed -/
theorem wrun_len {past most H : Int} {lk : Int → List It} : ∀ (k : Nat) (S : WS) (l : List It), (wrun past most H lk k S l).length ≤ l.length + k
 | 0, S, l => by unfold wrun; omega
 | k + 1, S, l => by
  unfold wrun
  split
  ·have := wrun_len (past := past) (most := most) (H := H) (lk := lk) k (wstep past most H lk S) (l ++ [gt S.L 0])
   simp at this; omega
  ·omega
theorem lkI_live {n : Nat} {L : Int → Prop} {B : Int} {o : OE} (hO : OI n L B o) (fr past most : Int) : LkI n (fun v k => WP o fr past most v k ∧ L v) past most (fun u => itM n (o u)) := by
 refine ⟨fun {u key a} hP h0 h1 ha => ?_⟩
 have := (lkI_it hO fr past most).go hP.1 h0 h1 ha
 refine ⟨fun h2 h3 => ⟨this.1 h2 h3, ?_⟩, this.2⟩
 obtain ⟨w, x⟩ := a
 obtain ⟨_, _, s, hs, _⟩ := itM_mem.1 ha
 exact (hO.dom hs).2.1.2.2
abbrev capA (v h c : Int) (n : Nat) (r1 r2 r3 : Nat → List A) (z : QZ) : List A := [.bref [.int .i64 v] 0, .bref [.int .i64 h] 0, .bref [.int .i64 c] 0, .bref [wkA n r1 r2 r3 z] 0]
theorem out11_c (hns : (default : DRT).ns) (n : Nat) (r1 r2 r3 : Nat → List A) (z : QZ) (m : Mp) (u : Int) (hu : 0 ≤ u ∧ u < n) (hr : r1 u.toNat = [mpA m]) (hm : ∀ u s, m u = some s → 0 ≤ u ∧ u < n) (hn : n ≤ 50) :
  ACalls Tryz.prog G 56 [.int .i64 u, .bref [wkA n r1 r2 r3 z] 0] (.sl (itM n m).length 2 (itR (itM n m))) := by
 have h1 := items_c (G := G) hns n m hm hn
 refine ACalls.of_WA ttok Tryz.func56 rfl rfl _ rfl ?_
 conv => whnf
 repeat' (first | ((rw [hr]; conv => whnf)) | refine sq ?_ | refine bk ?_ | ((first | refine rg ttok ?_ | refine dw ttok mixed ?_ | refine cd ?_ | refine sk ?_ | refine xt ?_ | refine rt ?_); conv => whnf) | (refine And.intro (fun h => ?_) (fun h => ?_) <;> (try simp only [brsA] at h) <;> conv => whnf) | (refine Or.inl ?_; (conv => whnf); refine ⟨_, h1, ?_⟩; conv => whnf) | ((first | refine wf ?_ | refine wp' ?_ | refine ai ?_ | refine And.intro rfl ?_ | refine an ?_ | fail); conv => whnf))
 repeat (first | exact fa | ((first | refine fb ?_ | (refine And.intro ?_ ?_; rotate_left)); conv => whnf))
theorem oth_c (hns : (default : DRT).ns) (n : Nat) (L : Int → Prop) (B : Int) (o : OE) (r1 r2 r3 : Nat → List A) (z : QZ) (hO : OI n L B o) (hB : B ≤ mxC) (hn : n ≤ 50) (hr : ∀ u : Int, 0 ≤ u → u < n → L u → r1 u.toNat = [mpA (o u)])
  (v a b c : Int) (ha : 0 ≤ a ∧ a < n ∧ L a) (hav : a ≠ v) (hc : 0 ≤ c ∧ c ≤ 4611686018427387904) :
  ACalls Tryz.prog G 54 ([.int .i64 a, .int .i64 b, .int .i64 c] ++ capA v ((n : Int) + 1) ((n : Int) + 1) n r1 r2 r3 z) (.sb (othM n o v a b c)) := by
 have hit : ∀ u s t, o u s = some t → 0 ≤ s ∧ s < n := fun u s t h => by have := (hO.dom h).2.1; omega
 have hlen := itM_len n
 have h1 := run_yes (G := G) n r1 r2 r3 z (fun u k => WP o a v c u k ∧ L u) a v c ((n : Int) + 1) (n + 1) (fun u => itM n (o u)) (lkI_live hO a v c) hc ⟨ha.1, ha.2.1⟩ hav hn (by omega) (by omega)
  (fun u k h => ⟨h.1.2.1, h.1.2.2.1⟩) ⟨⟨hav, Int.le_refl _, hc.1, .nil _⟩, ha.2.2⟩ (fun u h0 h2 => ⟨by have := hlen (o u); omega, fun x hx => by
   obtain ⟨w, x⟩ := x
   obtain ⟨_, _, s, hs, e⟩ := itM_mem.1 hx
   have := hO.wt hs
   unfold mxC at hB
   simp only; omega⟩) (fun u k h h0 h2 => out11_c hns n r1 r2 r3 z (o u) u ⟨h0, h2⟩ (hr u h0 h2 h.2) (fun s t => hit u s t) hn)
 have e : othM n o v a b c = ((wrun v c ((n : Int) + 1) (fun u => itM n (o u)) (n + 1) (wrch v c ws0 a 0 0) []).any fun x => x.2 == b) := by
  unfold othM witM
  rw [show (decide (c < 0) || decide (a = v)) = false by rw [decide_eq_false (by omega), decide_eq_false hav]; rfl]
  rw [show limM n = (n : Int) + 1 by unfold limM; rw [if_pos hn], show cntM n = n + 1 by unfold cntM; rw [if_pos hn]]
 rw [e]
 have hRl := wrun_len (past := v) (most := c) (H := (n : Int) + 1) (lk := fun u => itM n (o u)) (n + 1) (wrch v c ws0 a 0 0) []
 simp only [List.length_nil] at hRl
 generalize wrun v c ((n : Int) + 1) (fun u => itM n (o u)) (n + 1) (wrch v c ws0 a 0 0) [] = R at h1 hRl
 have h2 := found_c (G := G) R b (by omega)
 rw [show ((n + 1 : Nat) : Int) = (n : Int) + 1 by omega] at h1
 refine ACalls.of_WA ttok Tryz.func54 rfl rfl _ rfl ?_
 conv => whnf
 repeat' (first | refine sq ?_ | refine bk ?_ | ((first | refine rg ttok ?_ | refine dw ttok mixed ?_ | refine cd ?_ | refine sk ?_ | refine xt ?_ | refine rt ?_); conv => whnf) | (refine And.intro (fun h => ?_) (fun h => ?_) <;> (try simp only [brsA] at h) <;> conv => whnf) | (refine Or.inl ?_; (conv => whnf); (first | refine ⟨_, h1, ?_⟩ | refine ⟨_, h2, ?_⟩); conv => whnf) | ((first | refine wf ?_ | refine wp' ?_ | refine ai ?_ | refine And.intro rfl ?_ | refine an ?_ | fail); conv => whnf))
end Go.Proofs.YtnkbkfjgbejhfaaGreat
namespace Go.Proofs.YtnkbkfjgbejhfaaGreat
open Go.Proofs.YtnkbkfjgbejhfaaGreat.Am Go.HeapL
variable [Inhabited DRT]
variable {G : GInv}
/-! ### Links in a row of ours -/
def lkR (L : List Lk) : Nat → List A := fun i => [.int .i64 (L.getD i default).f, .int .i64 (L.getD i default).t, .int .i64 (L.getD i default).w, .int .i64 (L.getD i default).m]
theorem lkR_app (L : List Lk) (x : Lk) (r : Nat → List A) (hr : r 0 = [.int .i64 x.f, .int .i64 x.t, .int .i64 x.w, .int .i64 x.m]) (j : Nat) (h : j < L.length + 1) : rowCat L.length (lkR L) r j = lkR (L ++ [x]) j :=
 rowCat_snoc (fun x : Lk => [.int .i64 x.f, .int .i64 x.t, .int .i64 x.w, .int .i64 x.m]) default L x r hr j h
theorem flat_step {α β : Type} (f : α → List β) (l : List α) (i : Nat) (d : α) (h : i < l.length) : (l.take (i + 1)).flatMap f = (l.take i).flatMap f ++ f (l.getD i d) := by
 rw [List.take_add_one, List.flatMap_append, List.getElem?_eq_getElem h]
 simp [List.getD_eq_getElem?_getD, h]
theorem need1_out {v : Int} {oth : Int → Int → Int → Bool} {a b : It} (h : a.2 = b.2 ∨ oth a.2 b.2 (a.1 + b.1) = true) : need1 v oth a b = [] := by
 unfold need1
 rw [show (decide (a.2 = b.2) || oth a.2 b.2 (a.1 + b.1)) = true by simpa using h]
theorem need1_in {v : Int} {oth : Int → Int → Int → Bool} {a b : It} (h : ¬ a.2 = b.2) (h' : oth a.2 b.2 (a.1 + b.1) = false) : need1 v oth a b = [⟨a.2, b.2, a.1 + b.1, v⟩] := by
 unfold need1
 rw [show (decide (a.2 = b.2) || oth a.2 b.2 (a.1 + b.1)) = false by simp [h, h']]
theorem Needed_c (v hp c : Int) (n : Nat) (r1 r2 r3 : Nat → List A) (z : QZ) (ins outs : List It) (oth : Int → Int → Int → Bool) (hb1 : bdI ins = true) (hb2 : bdI outs = true)
  (ho : ∀ i j, i < ins.length → j < outs.length → (ins.getD i (0, 0)).2 ≠ (outs.getD j (0, 0)).2 → ACalls Tryz.prog G 54 ([.int .i64 (ins.getD i (0, 0)).2, .int .i64 (outs.getD j (0, 0)).2, .int .i64 ((ins.getD i (0, 0)).1 + (outs.getD j (0, 0)).1)] ++ capA v hp c n r1 r2 r3 z) (.sb (oth (ins.getD i (0, 0)).2 (outs.getD j (0, 0)).2 ((ins.getD i (0, 0)).1 + (outs.getD j (0, 0)).1)))) :
  MCalls Tryz.prog G 52 [.int .i64 v, .sl ins.length 2 (itR ins), .sl outs.length 2 (itR outs), .fn 54 (capA v hp c n r1 r2 r3 z)] [] (.own 0) [.row 44 4 (needL v oth ins outs).length (lkR (needL v oth ins outs))] := by
 have e : needL v oth ins outs = ins.flatMap fun a => outs.flatMap fun b => need1 v oth a b := by unfold needL; rw [hb1, hb2]; rfl
 rw [e]
 have hl1 : ins.length ≤ 500 := by unfold bdI at hb1; simp at hb1; exact hb1.1
 have hl2 : outs.length ≤ 500 := by unfold bdI at hb2; simp at hb2; exact hb2.1
 have hw1 : ∀ i, i < ins.length → 0 ≤ (ins.getD (i : Int).toNat (0, 0)).1 ∧ (ins.getD (i : Int).toNat (0, 0)).1 ≤ 1152921504606846976 := fun i hi => by
  unfold bdI mxC at hb1; simp only [Bool.and_eq_true, decide_eq_true_eq, List.all_eq_true] at hb1
  exact hb1.2 _ (by rw [show (i : Int).toNat = i from rfl, List.getD_eq_getElem?_getD, List.getElem?_eq_getElem hi]; exact List.getElem_mem hi)
 have hw2 : ∀ i, i < outs.length → 0 ≤ (outs.getD (i : Int).toNat (0, 0)).1 ∧ (outs.getD (i : Int).toNat (0, 0)).1 ≤ 1152921504606846976 := fun i hi => by
  unfold bdI mxC at hb2; simp only [Bool.and_eq_true, decide_eq_true_eq, List.all_eq_true] at hb2
  exact hb2.2 _ (by rw [show (i : Int).toNat = i from rfl, List.getD_eq_getElem?_getD, List.getElem?_eq_getElem hi]; exact List.getElem_mem hi)
 have m1 := rmay_c (G := G) ins (by omega)
 have m2 := rmay_c (G := G) outs (by omega)
 rw [hb1] at m1
 rw [hb2] at m2
 refine MCalls.of_WA ttok Tryz.func52 rfl rfl _ rfl ?_
 conv => whnf
 repeat' (first | (exact absurd (show true = false from h) Bool.noConfusion) | refine sq ?_ | refine bk ?_ | ((first | refine rg ttok ?_ | refine dw ttok mixed ?_ | refine cd ?_ | refine sk ?_ | refine xt ?_ | refine rt ?_); conv => whnf) | (refine And.intro (fun h => ?_) (fun h => ?_) <;> (try simp only [brsA] at h) <;> conv => whnf) | (refine Or.inl ?_; (conv => whnf); (first | refine ⟨_, m1, ?_⟩ | refine ⟨_, m2, ?_⟩); conv => whnf) | ((first | refine wf ?_ | refine wp' ?_ | refine ai ?_ | refine And.intro rfl ?_ | refine an ?_ | fail); conv => whnf))
 refine WA_nil 9 44 4 rfl ?_
 conv => whnf
 refine WA_loopI (ι := Nat × List Lk) (fun x => x.1 ≤ ins.length ∧ x.2.length ≤ 500 * x.1 ∧ x.2 = (ins.take x.1).flatMap fun a => outs.flatMap fun b => need1 v oth a b) (fun x => match x with | (i, _) => [(28, .int .i64 (i : Int)), (9, .own 0)]) (fun x => match x with | (_, L) => [.row 44 4 L.length (lkR L)]) (fun x => ins.length - x.1) (0, []) ⟨Nat.zero_le _, Nat.zero_le _, rfl⟩ ?_ ?_
 ·conv => whnf
  repeat (first | exact fa | ((first | refine fb ?_ | (refine And.intro ?_ ?_; rotate_left)); conv => whnf))
 ·rintro ⟨i, L⟩ ⟨hi, hLn, hL⟩
  have hLn : L.length ≤ 500 * i := hLn
  have hi : i ≤ ins.length := hi
  have hL : L = _ := hL
  have hst := fun h => flat_step (fun a => outs.flatMap fun b => need1 v oth a b) ins i (0, 0) h
  simp only [← hL] at hst
  have hL2 := hL
  clear hL
  conv => whnf
  repeat' (first | refine sq ?_ | refine bk ?_ | ((first | refine rg ttok ?_ | refine dw ttok mixed ?_ | refine cd ?_ | refine sk ?_ | refine xt ?_ | refine rt ?_); conv => whnf) | (refine And.intro (fun h => ?_) (fun h => ?_) <;> (try simp only [brsA] at h) <;> conv => whnf) | ((first | refine wf ?_ | refine wp' ?_ | refine ai ?_ | refine And.intro rfl ?_ | refine an ?_ | fail); conv => whnf))
  ·have hii : i < ins.length := by omega
   have hst := hst hii
   have hw1 : 0 ≤ (ins.getD i (0, 0)).1 ∧ (ins.getD i (0, 0)).1 ≤ 1152921504606846976 := hw1 i hii
   refine WA_loopI (ι := Nat × List Lk) (fun x => x.1 ≤ outs.length ∧ x.2.length ≤ 500 * i + x.1 ∧ x.2 = L ++ (outs.take x.1).flatMap fun b => need1 v oth (ins.getD i (0, 0)) b) (fun x => match x with | (j, _) => [(34, .int .i64 (j : Int)), (9, .own 0)]) (fun x => match x with | (_, M) => [.row 44 4 M.length (lkR M), .box 41 [.int .i64 (ins.getD i (0, 0)).1, .int .i64 (ins.getD i (0, 0)).2]]) (fun x => outs.length - x.1) (0, L) ⟨Nat.zero_le _, hLn, by simp⟩ ?_ ?_
   ·conv => whnf
    repeat (first | exact fa | ((first | refine fb ?_ | (refine And.intro ?_ ?_; rotate_left)); conv => whnf))
   ·rintro ⟨j, M⟩ ⟨hj, hMn, hM⟩
    have hMn : M.length ≤ 500 * i + j := hMn
    have hj : j ≤ outs.length := hj
    have hM : M = _ := hM
    have hst2 := fun h => flat_step (fun b => need1 v oth (ins.getD i (0, 0)) b) outs j (0, 0) h
    have ho2 : j < outs.length → ¬ (ins.getD i (0, 0)).2 = (outs.getD (j : Int).toNat (0, 0)).2 → _ := fun h h' => ho i j hii h h'
    have hM2 := fun h => (congrArg (L ++ ·) (hst2 h)).trans (List.append_assoc _ _ _).symm
    simp only [← hM] at hM2
    have hw2 := hw2 j
    conv => whnf
    repeat' (first | refine sq ?_ | refine bk ?_ | ((first | refine rg ttok ?_ | refine dw ttok mixed ?_ | refine cd ?_ | refine sk ?_ | refine xt ?_ | refine rt ?_); conv => whnf) | (refine And.intro (fun h => ?_) (fun h => ?_) <;> (try simp only [brsA] at h) <;> conv => whnf) | (refine Or.inl ?_; (conv => whnf); refine ⟨_, (ho2 (by omega) (by assumption)), ?_⟩; conv => whnf) | ((first | refine wf ?_ | refine wp' ?_ | refine ai ?_ | refine And.intro rfl ?_ | refine an ?_ | fail); conv => whnf))
    ·rw [need1_out (.inr (by assumption))] at hM2
     refine ⟨(j + 1, M), ⟨(by show j + 1 ≤ outs.length; omega), (by show M.length ≤ 500 * i + (j + 1); omega), by simpa using (hM2 (by omega)).symm⟩, (by show outs.length - (j + 1) < outs.length - j; omega), ?_⟩
     conv => whnf
     repeat (first | exact fa | ((first | refine fb ?_ | (refine And.intro ?_ ?_; rotate_left)); conv => whnf))
    ·rw [need1_in (by assumption) (by assumption)] at hM2
     refine ⟨(j + 1, _), ⟨(by show j + 1 ≤ outs.length; omega), ?_, (hM2 (by omega)).symm⟩, (by show outs.length - (j + 1) < outs.length - j; omega), ?_⟩
     ·show (M ++ [_]).length ≤ 500 * i + (j + 1)
      simp; omega
     ·conv => whnf
      repeat (first | exact fa | ((first | refine fb ?_ | (refine And.intro ?_ ?_; rotate_left)); conv => whnf))
      all_goals first
       | exact Or.inl fun j hj => lkR_app M _ _ rfl j hj
       | simp
    ·rw [need1_out (.inl (by assumption))] at hM2
     refine ⟨(j + 1, M), ⟨(by show j + 1 ≤ outs.length; omega), (by show M.length ≤ 500 * i + (j + 1); omega), by simpa using (hM2 (by omega)).symm⟩, (by show outs.length - (j + 1) < outs.length - j; omega), ?_⟩
     conv => whnf
     repeat (first | exact fa | ((first | refine fb ?_ | (refine And.intro ?_ ?_; rotate_left)); conv => whnf))
    ·have e : j = outs.length := by omega
     subst e
     have hM : M = L ++ outs.flatMap fun b => need1 v oth (ins.getD i (0, 0)) b := by simpa using hM
     refine ⟨(i + 1, M), ⟨(by show i + 1 ≤ ins.length; omega), (by show M.length ≤ 500 * (i + 1); omega), hM.trans hst.symm⟩, (by show ins.length - (i + 1) < ins.length - i; omega), ?_⟩
     conv => whnf
     repeat (first | exact fa | ((first | refine fb ?_ | (refine And.intro ?_ ?_; rotate_left)); conv => whnf))
  ·have e : i = ins.length := by omega
   subst e
   have hL : L = ins.flatMap fun a => outs.flatMap fun b => need1 v oth a b := by simpa using hL2
   rw [← hL]
   repeat (first | exact fa | ((first | refine fb ?_ | (refine And.intro ?_ ?_; rotate_left)); conv => whnf))
end Go.Proofs.YtnkbkfjgbejhfaaGreat
namespace Go.Proofs.YtnkbkfjgbejhfaaGreat
open Go.Proofs.YtnkbkfjgbejhfaaGreat.Am Go.HeapL
variable [Inhabited DRT]
variable {G : GInv}
theorem need1_len (v : Int) (oth : Int → Int → Int → Bool) (a b : It) : (need1 v oth a b).length ≤ 1 := by
 unfold need1; split <;> simp
theorem flat_len {α β : Type} (f : α → List β) (k : Nat) (h : ∀ a, (f a).length ≤ k) : ∀ l : List α, (l.flatMap f).length ≤ l.length * k
 | [] => by simp
 | a :: l => by
  rw [List.flatMap_cons, List.length_append, List.length_cons, Nat.succ_mul]
  have := flat_len f k h l
  have := h a
  omega
theorem need_len {n : Nat} (hn : n ≤ 50) (o : OE) (v : Int) : (needM n o v).length ≤ 2500 := by
 unfold needM needL
 split
 ·have h1 := itM_len n (inM o v)
  have h2 := itM_len n (o v)
  refine Nat.le_trans (flat_len _ 50 (fun a => ?_) _) (by omega)
  refine Nat.le_trans (flat_len _ 1 (need1_len v _ a) _) (by omega)
 ·simp
theorem keys_len {n : Nat} {m : Mp} (hm : ∀ u s, m u = some s → 0 ≤ u ∧ u < n) {keys : List (List KC)} (k1 : keys.Nodup) (k2 : ∀ k ∈ keys, kOk [.int .i64] k ∧ mH m k = true) (k3 : ∀ k, kOk [.int .i64] k → mH m k = true → k ∈ keys) : keys.length = (itM n m).length := by
 have : keys.Perm ((ksM n m).map fun u => [KC.int u]) := by
  refine (List.perm_ext_iff_of_nodup k1 ?_).2 fun k => ?_
  ·have := ksM_lt n m
   rw [List.nodup_iff_pairwise_ne, List.pairwise_map]
   exact this.imp fun h e => by injection e with e _; injection e with e; omega
  ·constructor
   ·intro h
    obtain ⟨h1, h2⟩ := k2 k h
    obtain ⟨u, rfl, h3, h4, h5⟩ := key_u hm h1 h2
    exact List.mem_map.2 ⟨u, ksM_mem.2 ⟨h3, h4, h5⟩, rfl⟩
   ·intro h
    obtain ⟨u, hu, rfl⟩ := List.mem_map.1 h
    exact k3 _ trivial (ksM_mem.1 hu).2.2
 rw [this.length_eq]; simp
theorem needed_c (hns : (default : DRT).ns) (n : Nat) (L : Int → Prop) (B : Int) (o : OE) (r1 r2 r3 : Nat → List A) (z : QZ) (hO : OI n L B o) (hB : B ≤ mxC) (hn : n ≤ 50) (hr1 : ∀ u : Int, 0 ≤ u → u < n → L u → r1 u.toNat = [mpA (o u)]) (hr2 : ∀ u : Int, 0 ≤ u → u < n → L u → r2 u.toNat = [mpA (inM o u)])
  (v : Int) (hv : 0 ≤ v ∧ v < n ∧ L v) :
  MCalls Tryz.prog G 33 [wkA n r1 r2 r3 z, .int .i64 v] [] (.own 0) [.row 44 4 (needM n o v).length (lkR (needM n o v))] := by
 have hm1 : ∀ u s, o v u = some s → 0 ≤ u ∧ u < n := fun u s h => by have := (hO.dom h).2.1; omega
 have hm2 : ∀ u s, inM o v u = some s → 0 ≤ u ∧ u < n := fun u s h => by have := (hO.dom (show o u v = some s from h)).1; omega
 have i1 := items_c (G := G) hns n (inM o v) hm2 hn
 have i2 := items_c (G := G) hns n (o v) hm1 hn
 have l0 := limits_c (G := G) n hn
 have e1 := hr1 v hv.1 hv.2.1 hv.2.2
 have e2 := hr2 v hv.1 hv.2.1 hv.2.2
 obtain ⟨b1, b2⟩ := bdI_ok hO hB hn v
 have N0 := Needed_c (G := G) v ((n : Int) + 1) ((n : Int) + 1) n r1 r2 r3 z (itM n (inM o v)) (itM n (o v)) (othM n o v) b2 b1 fun i j hi hj hne => by
  have ha : (itM n (inM o v)).getD i (0, 0) ∈ itM n (inM o v) := by rw [List.getD_eq_getElem?_getD, List.getElem?_eq_getElem hi]; exact List.getElem_mem hi
  have hb : (itM n (o v)).getD j (0, 0) ∈ itM n (o v) := by rw [List.getD_eq_getElem?_getD, List.getElem?_eq_getElem hj]; exact List.getElem_mem hj
  generalize (itM n (inM o v)).getD i (0, 0) = a at *
  generalize (itM n (o v)).getD j (0, 0) = b at *
  obtain ⟨wa, a⟩ := a
  obtain ⟨wb, b⟩ := b
  obtain ⟨_, _, s, hs, rfl⟩ := itM_mem.1 ha
  obtain ⟨_, _, t, ht, rfl⟩ := itM_mem.1 hb
  have hs : o a v = some s := hs
  have d := hO.dom hs
  have w1 := hO.wt hs
  have w2 := hO.wt ht
  unfold mxC at hB
  exact oth_c hns n L B o r1 r2 r3 z hO (by unfold mxC; exact hB) hn hr1 v a b (s.1 + t.1) ⟨d.1.1, d.1.2.1, d.1.2.2⟩ d.2.2 (by omega)
 have N0 : MCalls _ _ _ _ _ _ [.row 44 4 (needM n o v).length (lkR (needM n o v))] := N0
 refine MCalls.of_WA ttok Tryz.func33 rfl rfl _ rfl ?_
 conv => whnf
 repeat' (first | ((refine WA_frzR (id := 2) 4 [0, 1, 2, 3] rfl ?_; (conv => whnf); refine WA_renR (id := 2) 4 [] rfl rfl ?_; conv => whnf)) | (refine WA_drawR (id := 2) [(18,1)] ttok mixed ?_; conv => whnf) | ((rw [e1]; conv => whnf)) | ((rw [e2]; conv => whnf)) | refine sq ?_ | refine bk ?_ | ((first | refine rg ttok ?_ | refine dw ttok mixed ?_ | refine cd ?_ | refine sk ?_ | refine xt ?_ | refine rt ?_); conv => whnf) | (refine And.intro (fun h => ?_) (fun h => ?_) <;> (try simp only [brsA] at h) <;> conv => whnf) | (refine Or.inl ?_; (conv => whnf); (first | refine ⟨_, l0, ?_⟩ | refine ⟨_, i1, ?_⟩ | refine ⟨_, i2, ?_⟩); conv => whnf) | ((first | refine Or.inr (Or.inr (Or.inr ?_)) | refine Or.inr ?_); (conv => whnf); refine ⟨_, _, N0, ?_⟩; conv => whnf) | ((first | refine wf ?_ | refine wp' ?_ | refine ai ?_ | refine And.intro rfl ?_ | refine an ?_ | fail); conv => whnf))
 repeat (first | exact fa | ((first | refine fb ?_ | (refine And.intro ?_ ?_; rotate_left)); conv => whnf))
theorem priority_c (hns : (default : DRT).ns) (n : Nat) (L : Int → Prop) (B : Int) (o : OE) (gn : Int → Int) (r1 r2 r3 : Nat → List A) (z : QZ) (hO : OI n L B o) (hB : B ≤ mxC) (hn : n ≤ 50) (hr1 : ∀ u : Int, 0 ≤ u → u < n → L u → r1 u.toNat = [mpA (o u)]) (hr2 : ∀ u : Int, 0 ≤ u → u < n → L u → r2 u.toNat = [mpA (inM o u)])
  (hr3 : ∀ u : Int, 0 ≤ u → u < n → r3 u.toNat = [.int .i64 (gn u)]) (hg : ∀ u, 0 ≤ gn u ∧ gn u ≤ 1000) (v : Int) (hv : 0 ≤ v ∧ v < n ∧ L v) :
  MCalls Tryz.prog G 15 [wkA n r1 r2 r3 z, .int .i64 v] [] (.tup [.int .i64 (prM n o gn v), .own 0]) [.row 44 4 (needM n o v).length (lkR (needM n o v))] := by
 have hm1 : ∀ u s, o v u = some s → 0 ≤ u ∧ u < n := fun u s h => by have := (hO.dom h).2.1; omega
 have hm2 : ∀ u s, inM o v u = some s → 0 ≤ u ∧ u < n := fun u s h => by have := (hO.dom (show o u v = some s from h)).1; omega
 have e1 := hr1 v hv.1 hv.2.1 hv.2.2
 have e2 := hr2 v hv.1 hv.2.1 hv.2.2
 have e3 := hr3 v hv.1 hv.2.1
 have hg := hg v
 have h1 := itM_len n (inM o v)
 have h2 := itM_len n (o v)
 have h3 := need_len hn o v
 have N0 := needed_c (G := G) hns n L B o r1 r2 r3 z hO hB hn hr1 hr2 v hv
 have p0 := priority0_c (G := G) (needM n o v).length ((itM n (inM o v)).length + (itM n (o v)).length : Int) (gn v) (by omega) (by omega) (by omega)
 have p0 : ACalls _ _ _ _ (.int .i64 (prM n o gn v)) := p0
 generalize needM n o v = K at *
 refine MCalls.of_WA ttok Tryz.func15 rfl rfl _ rfl ?_
 conv => whnf
 repeat' (first | ((refine ⟨_, fun (keys : List (List KC)) k1 k2 k3 => keys_len (by first | exact hm1 | exact hm2) k1 k2 k3, ?_⟩; conv => whnf)) | ((rw [e1]; conv => whnf)) | ((rw [e2]; conv => whnf)) | ((rw [e3]; conv => whnf)) | refine sq ?_ | refine bk ?_ | ((first | refine rg ttok ?_ | refine dw ttok mixed ?_ | refine cd ?_ | refine sk ?_ | refine xt ?_ | refine rt ?_); conv => whnf) | (refine And.intro (fun h => ?_) (fun h => ?_) <;> (try simp only [brsA] at h) <;> conv => whnf) | (refine Or.inl ?_; (conv => whnf); refine ⟨_, p0, ?_⟩; conv => whnf) | ((first | refine Or.inr (Or.inr (Or.inr ?_)) | refine Or.inr ?_); (conv => whnf); refine ⟨_, _, N0, ?_⟩; conv => whnf) | ((first | refine wf ?_ | refine wp' ?_ | refine ai ?_ | refine And.intro rfl ?_ | refine an ?_ | fail); conv => whnf))
 repeat (first | exact fa | ((first | refine fb ?_ | (refine And.intro ?_ ?_; rotate_left)); conv => whnf))
end Go.Proofs.YtnkbkfjgbejhfaaGreat

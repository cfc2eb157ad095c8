/-
  The walks and plain laws, part 7.
-/
import Derived.Test.YtnkbkfjgbejhfaaGreatBase1
import Derived.Test.YtnkbkfjgbejhfaaGreatBm3
import Derived.Test.YtnkbkfjgbejhfaaGreatBm4
set_option linter.unusedSimpArgs false
set_option linter.unusedSectionVars false
set_option linter.unusedVariables false
set_option maxRecDepth 100000
set_option maxHeartbeats 8000000
namespace Go.Proofs.YtnkbkfjgbejhfaaGreat
open Go.Proofs.YtnkbkfjgbejhfaaGreat.Am Go.HeapL
variable [Inhabited DRT]
variable {G : GInv}
/-! ### One side's walks -/
def cH (S : Sd) : List KC → Bool
 | [.int v] => (S.c v).isSome
 | _ => false
def cV (S : Sd) : List KC → A
 | [.int v] => .int .i64 ((S.c v).getD 0)
 | _ => .junk
def fV (S : Sd) : List KC → A
 | [.int v] => .int .i64 (S.f v)
 | _ => .junk
abbrev cB (S : Sd) : Blk := .mapb false [.int .i64] (cH S) (cV S)
abbrev fB (S : Sd) : Blk := .mapb false [.int .i64] (cH S) (fV S)
abbrev tabA (N : Nat) (lk : Int → List It) : A := .sl N 1 fun v => [.sl (lk v).length 2 (itR (lk v))]
abbrev rsBs (S : Sd) (N : Nat) (lk ok : Int → List It) (q : Bool) : List Blk := [.box 102 [.ref 2 0, .omap 5, .omap 6, tabA N lk, tabA N ok, .int .i64 S.t, .bool q], .box 81 [.own 3, .omap 4], .row 41 2 S.L.length (itR S.L), atB S.L, cB S, fB S]
abbrev gs4 : Blk := .ghost [.junk, .junk, .junk, .junk, .ref 1 0, .ref 2 0, .junk, .omap 4, .omap 5, .omap 6]
theorem set_c (L : List It) (x : It) (hn : Nd L) (hl : L.length ≤ 100000) :
  MCalls Tryz.prog G 16 [.ref 1 0, .agg [.int .i64 x.1, .int .i64 x.2]] (gh2 :: hBs L) .junk (gh2 :: hBs (hset L x)) := by
 cases h : hasL L x.2 with
 | true => exact set_old L x hn h (by omega)
 | false => exact set_new L x hn h hl
theorem put_cH (S : Sd) (v u cost : Int) (key : List KC) : putH (cH S) [.int v] true key = cH (upd S v u cost) key := by
 unfold putH
 split
 ·rename_i e; subst e
  show true = (if v = v then some cost else S.c v).isSome
  rw [if_pos rfl]; rfl
 ·rename_i hne
  unfold cH
  split
  ·rename_i x
   have : x ≠ v := fun e => hne (by rw [e])
   show (S.c x).isSome = (if x = v then some cost else S.c x).isSome
   rw [if_neg this]
  ·rfl
theorem put_cV (S : Sd) (v u cost : Int) (key : List KC) : putV (cV S) [.int v] (.int .i64 cost) key = cV (upd S v u cost) key := by
 unfold putV
 split
 ·rename_i e; subst e
  show A.int .i64 cost = A.int .i64 ((if v = v then some cost else S.c v).getD 0)
  rw [if_pos rfl]; rfl
 ·rename_i hne
  unfold cV
  split
  ·rename_i x
   have : x ≠ v := fun e => hne (by rw [e])
   show A.int .i64 ((S.c x).getD 0) = A.int .i64 ((if x = v then some cost else S.c x).getD 0)
   rw [if_neg this]
  ·rfl
theorem put_fV (S : Sd) (v u cost : Int) (key : List KC) : putV (fV S) [.int v] (.int .i64 u) key = fV (upd S v u cost) key := by
 unfold putV
 split
 ·rename_i e; subst e
  show A.int .i64 u = A.int .i64 (if v = v then u else S.f v)
  rw [if_pos rfl]
 ·rename_i hne
  unfold fV
  split
  ·rename_i x
   have : x ≠ v := fun e => hne (by rw [e])
   show A.int .i64 (S.f x) = A.int .i64 (if x = v then u else S.f x)
   rw [if_neg this]
  ·rfl
theorem kp_true {S : Sd} {v cost : Int} (h : NC ≤ cost ∨ ((S.c v).isSome = true ∧ (S.c v).getD 0 ≤ cost)) : kp S v cost = true := by
 unfold kp
 rw [Bool.or_eq_true, decide_eq_true_eq]
 rcases h with h | ⟨h1, h2⟩
 ·exact .inl h
 ·cases e : S.c v with
  | none => rw [e] at h1; cases h1
  | some k => rw [e] at h2; exact .inr (decide_eq_true h2)
theorem kp_false {S : Sd} {v cost : Int} (h : ¬ NC ≤ cost) (h' : (S.c v).isSome = true → ¬ (S.c v).getD 0 ≤ cost) : kp S v cost = false := by
 unfold kp
 rw [Bool.or_eq_false_iff, decide_eq_false_iff_not]
 refine ⟨h, ?_⟩
 cases e : S.c v with
 | none => rfl
 | some k => rw [e] at h'; exact decide_eq_false (h' rfl)
theorem reach_c (S : Sd) (N : Nat) (lk ok : Int → List It) (q : Bool) (v u cost : Int) (hn : Nd S.L) (hl : S.L.length ≤ 100000) :
  MCalls Tryz.prog G 79 [.ref 1 0, .int .i64 v, .int .i64 u, .int .i64 cost] (gs4 :: rsBs S N lk ok q) (.tup []) (gs4 :: rsBs (rch S v u cost) N lk ok q) := by
 have h1 : MCalls Tryz.prog G 16 [.ref 1 0, .agg [.int .i64 cost, .int .i64 v]] (gh2 :: hBs S.L) .junk (gh2 :: hBs (hset S.L (cost, v))) := set_c (G := G) S.L (cost, v) hn hl
 cases hkp : kp S v cost with
 | true =>
  have e : rch S v u cost = S := by unfold rch; rw [hkp]
  rw [e]
  refine MCalls.of_WA ttok Tryz.func79 rfl rfl _ rfl ?_
  conv => whnf
  repeat' (first | refine sq ?_ | refine bk ?_ | ((first | refine rg ttok ?_ | refine dw ttok mixed ?_ | refine cd ?_ | refine sk ?_ | refine xt ?_ | refine rt ?_); conv => whnf) | (refine And.intro (fun h => ?_) (fun h => ?_) <;> (try simp only [brsA] at h) <;> conv => whnf) | ((first | refine wf ?_ | refine wp' ?_ | refine ai ?_ | refine And.intro rfl ?_ | refine an ?_ | fail); conv => whnf))
  ·repeat (first | exact fa | ((first | refine fb ?_ | (refine And.intro ?_ ?_; rotate_left)); conv => whnf))
  ·exact absurd hkp (by rw [kp_false (by unfold NC; omega) (fun _ => by omega)]; exact Bool.noConfusion)
  ·repeat (first | exact fa | ((first | refine fb ?_ | (refine And.intro ?_ ?_; rotate_left)); conv => whnf))
  ·exact absurd hkp (by rw [kp_false (by unfold NC; omega) (fun h' => absurd h' (by rw [show (S.c v).isSome = false by assumption]; exact Bool.noConfusion))]; exact Bool.noConfusion)
  ·repeat (first | exact fa | ((first | refine fb ?_ | (refine And.intro ?_ ?_; rotate_left)); conv => whnf))
 | false =>
  have e : rch S v u cost = upd S v u cost := by unfold rch; rw [hkp]
  rw [e]
  refine MCalls.of_WA ttok Tryz.func79 rfl rfl _ rfl ?_
  conv => whnf
  repeat' (first | ((refine WA_trkR (id := 2) 5 ?_; (conv => whnf); refine WA_trkR (id := 2) 6 ?_; (conv => whnf); refine dw ttok mixed ?_; conv => whnf)) | refine sq ?_ | refine bk ?_ | ((first | refine rg ttok ?_ | refine dw ttok mixed ?_ | refine cd ?_ | refine sk ?_ | refine xt ?_ | refine rt ?_); conv => whnf) | (refine And.intro (fun h => ?_) (fun h => ?_) <;> (try simp only [brsA] at h) <;> conv => whnf) | (refine Or.inr (Or.inl ?_); (conv => whnf); refine ⟨_, _, h1, ?_⟩; conv => whnf) | ((first | refine wf ?_ | refine wp' ?_ | refine ai ?_ | refine And.intro rfl ?_ | refine an ?_ | fail); conv => whnf))
  ·exact absurd hkp (by rw [kp_true (.inr ⟨by assumption, h⟩)]; exact Bool.noConfusion)
  ·repeat (first | exact fa | ((first | refine fb ?_ | (refine And.intro ?_ ?_; rotate_left)); conv => whnf))
   all_goals first
    | exact fun key => put_cH S v u cost key
    | exact fun key _ => by simp only [putV_putV]; exact put_cV S v u cost key
    | exact fun key _ => by simp only [putV_putV]; exact put_fV S v u cost key
  ·exact absurd hkp (by rw [kp_true (.inl (by unfold NC; omega))]; exact Bool.noConfusion)
  ·repeat (first | exact fa | ((first | refine fb ?_ | (refine And.intro ?_ ?_; rotate_left)); conv => whnf))
   all_goals first
    | exact fun key => put_cH S v u cost key
    | exact fun key _ => by simp only [putV_putV]; exact put_cV S v u cost key
    | exact fun key _ => by simp only [putV_putV]; exact put_fV S v u cost key
  ·exact absurd hkp (by rw [kp_true (.inl (by unfold NC; omega))]; exact Bool.noConfusion)
end Go.Proofs.YtnkbkfjgbejhfaaGreat
namespace Go.Proofs.YtnkbkfjgbejhfaaGreat
open Go.Proofs.YtnkbkfjgbejhfaaGreat.Am Go.HeapL
variable [Inhabited DRT]
variable {G : GInv}
abbrev bLs (S : Sd) (N : Nat) (lk ok : Int → List It) (q : Bool) : List Blk := [.box 81 [.own 1, .omap 2], .row 41 2 S.L.length (itR S.L), atB S.L, cB S, fB S, .box 102 [.ref 0 0, .omap 3, .omap 4, tabA N lk, tabA N ok, .int .i64 S.t, .bool q]]
abbrev bBs (S : Sd) (N : Nat) (lk ok : Int → List It) (q : Bool) : List Blk := [.box 102 [.ref 1 0, .omap 4, .omap 5, tabA N lk, tabA N ok, .int .i64 S.t, .bool q], .box 81 [.own 2, .omap 3], .row 41 2 S.L.length (itR S.L), atB S.L, cB S, fB S]
theorem begL_step (l : List It) (i : Nat) (hi : i < l.length) : begL (l.take (i + 1)) Sd0 = rch (begL (l.take i) Sd0) (l.getD i (0, 0)).2 (-1) (l.getD i (0, 0)).1 := by
 unfold begL
 rw [List.take_add_one, List.foldl_append, List.getElem?_eq_getElem hi]
 simp [List.getD_eq_getElem?_getD, hi]
theorem rbegin_c (l : List It) (N : Nat) (lk ok : Int → List It) (hl : l.length ≤ 1000) (hk : ∀ i, i ≤ l.length → Nd (begL (l.take i) Sd0).L ∧ (begL (l.take i) Sd0).L.length ≤ 100000) :
  MCalls Tryz.prog G 48 [.sl l.length 2 (itR l), tabA N lk, tabA N ok] [] (.ref 0 0) (bBs (begL l Sd0) N lk ok false) := by
 have h0 := new_c (G := G)
 refine MCalls.of_WA ttok Tryz.func48 rfl rfl _ rfl ?_
 conv => whnf
 repeat' (first | refine sq ?_ | refine bk ?_ | ((first | refine rg ttok ?_ | refine dw ttok mixed ?_ | refine cd ?_ | refine sk ?_ | refine xt ?_ | refine rt ?_); conv => whnf) | (refine And.intro (fun h => ?_) (fun h => ?_) <;> (try simp only [brsA] at h) <;> conv => whnf) | ((first | refine Or.inr (Or.inr (Or.inr ?_)) | refine Or.inr ?_); (conv => whnf); refine ⟨_, _, h0, ?_⟩; conv => whnf) | ((first | refine wf ?_ | refine wp' ?_ | refine ai ?_ | refine And.intro rfl ?_ | refine an ?_ | fail); conv => whnf))
 refine WA_loopI (fun i => i ≤ l.length) (fun i => [(19, .int .i64 (i : Int))]) (fun i => bLs (begL (l.take i) Sd0) N lk ok false) (fun i => l.length - i) 0 (by omega) ?_ ?_
 ·conv => whnf
  repeat (first | exact fa | ((first | refine fb ?_ | (refine And.intro ?_ ?_; rotate_left)); conv => whnf))
  all_goals first
   | (intro key h; cases h; done)
   | (intro key; unfold cH; split <;> rfl)
 ·intro i hi
  have h1 : i < l.length → MCalls Tryz.prog G 79 [.ref 1 0, .int .i64 (l.getD i (0, 0)).2, .int .i64 (-1), .int .i64 (l.getD i (0, 0)).1] (gs4 :: rsBs (begL (l.take i) Sd0) N lk ok false) (.tup []) (gs4 :: rsBs (begL (l.take (i + 1)) Sd0) N lk ok false) := fun h => by
   rw [begL_step l i h]
   exact reach_c _ N lk ok false _ _ _ (hk i hi).1 (hk i hi).2
  conv => whnf
  repeat' (first | refine sq ?_ | refine bk ?_ | ((first | refine rg ttok ?_ | refine dw ttok mixed ?_ | refine cd ?_ | refine sk ?_ | refine xt ?_ | refine rt ?_); conv => whnf) | (refine And.intro (fun h => ?_) (fun h => ?_) <;> (try simp only [brsA] at h) <;> conv => whnf) | (refine Or.inr (Or.inl ?_); (conv => whnf); refine ⟨_, _, (h1 (by omega)), ?_⟩; conv => whnf) | ((first | refine wf ?_ | refine wp' ?_ | refine ai ?_ | refine And.intro rfl ?_ | refine an ?_ | fail); conv => whnf))
  ·refine ⟨i + 1, (by show i + 1 ≤ l.length; omega), (by show l.length - (i + 1) < l.length - i; omega), ?_⟩
   conv => whnf
   repeat (first | exact fa | ((first | refine fb ?_ | (refine And.intro ?_ ?_; rotate_left)); conv => whnf))
  ·have e : i = l.length := by omega
   subst e
   rw [List.take_length]
   repeat (first | exact fa | ((first | refine fb ?_ | (refine And.intro ?_ ?_; rotate_left)); conv => whnf))
end Go.Proofs.YtnkbkfjgbejhfaaGreat
namespace Go.Proofs.YtnkbkfjgbejhfaaGreat
open Go.Proofs.YtnkbkfjgbejhfaaGreat.Am Go.HeapL
variable [Inhabited DRT]
variable {G : GInv}
def rfidx (p : It → Bool) (l : List It) : Int := match l.findIdx? p with
 | some i => (i : Int)
 | none => -1
theorem rfidx_at {p : It → Bool} {l : List It} {i : Nat} (h : i < l.length) (hp : p (l.getD i (0, 0)) = true) (hn : ∀ j, j < i → p (l.getD j (0, 0)) = false) : rfidx p l = i := by
 have : l.findIdx? p = some i := by
  rw [List.findIdx?_eq_some_iff_getElem]
  refine ⟨h, by simpa [List.getD_eq_getElem?_getD, h] using hp, fun j hj => ?_⟩
  have := hn j hj
  rw [List.getD_eq_getElem?_getD, List.getElem?_eq_getElem (by omega)] at this
  simpa using this
 unfold rfidx; rw [this]
theorem rfidx_none {p : It → Bool} {l : List It} (hn : ∀ j, j < l.length → p (l.getD j (0, 0)) = false) : rfidx p l = -1 := by
 have : l.findIdx? p = none := by
  rw [List.findIdx?_eq_none_iff]
  intro x hx
  obtain ⟨j, hj, rfl⟩ := List.getElem_of_mem hx
  have := hn j hj
  rw [List.getD_eq_getElem?_getD, List.getElem?_eq_getElem hj] at this
  exact this
 unfold rfidx; rw [this]
theorem rfidx_any (p : It → Bool) (l : List It) : decide (0 ≤ rfidx p l) = l.any p := by
 unfold rfidx
 cases h : l.findIdx? p with
 | none =>
  rw [List.findIdx?_eq_none_iff] at h
  have : l.any p = false := by rw [List.any_eq_false]; exact fun x hx => by rw [h x hx]; exact Bool.noConfusion
  rw [this]; rfl
 | some i =>
  rw [List.findIdx?_eq_some_iff_getElem] at h
  obtain ⟨hi, hp, _⟩ := h
  have : l.any p = true := List.any_eq_true.2 ⟨_, List.getElem_mem hi, hp⟩
  rw [this]; exact decide_eq_true (by show (0 : Int) ≤ (i : Int); omega)
def pS (S : Sd) (x a : It) : Bool := match S.c a.2 with
 | some k => decide (k + a.1 < x.1)
 | none => false
theorem pS_has {S : Sd} {x a : It} (h : (S.c a.2).isSome = true) : pS S x a = decide ((S.c a.2).getD 0 + a.1 < x.1) := by
 unfold pS
 cases e : S.c a.2 with
 | none => rw [e] at h; cases h
 | some k => rfl
theorem pS_no {S : Sd} {x a : It} (h : (S.c a.2).isSome = false) : pS S x a = false := by
 unfold pS
 cases e : S.c a.2 with
 | none => rfl
 | some k => rw [e] at h; cases h
theorem stl_any (S : Sd) (l : List It) (x : It) : stl S l x = l.any (pS S x) := rfl
abbrev kBs (S : Sd) (N : Nat) (lk ok : Int → List It) (q : Bool) (x : It) : List Blk := [.box 64 [.ref 2 0], .box 102 [.ref 3 0, .omap 6, .omap 7, tabA N lk, tabA N ok, .int .i64 S.t, .bool q], .box 81 [.own 4, .omap 5], .row 41 2 S.L.length (itR S.L), atB S.L, cB S, fB S, .box 41 [.int .i64 x.1, .int .i64 x.2]]
abbrev gk3 : Blk := .ghost [.junk, .junk, .junk, .ref 1 0, .ref 2 0, .ref 3 0, .junk, .omap 5, .omap 6, .omap 7, .ref 8 0]
abbrev gk2 : Blk := .ghost [.junk, .junk, .ref 1 0, .ref 2 0, .ref 3 0, .junk, .omap 5, .omap 6, .omap 7, .ref 8 0]
/-- What a side's numbers are. -/
def CB (S : Sd) : Prop := ∀ v, 0 ≤ (S.c v).getD 0 ∧ (S.c v).getD 0 < 4611686018427387904
theorem clo_c (S : Sd) (N : Nat) (lk ok : Int → List It) (q : Bool) (x a : It) (hb : CB S) (ha : 0 ≤ a.1 ∧ a.1 ≤ 1152921504606846976) :
  MCalls Tryz.prog G 97 [.agg [.int .i64 a.1, .int .i64 a.2], .ref 1 0, .ref 8 0] (gk3 :: kBs S N lk ok q x) (.sb (pS S x a)) (gk3 :: kBs S N lk ok q x) := by
 have hc := hb a.2
 refine MCalls.of_WA ttok Tryz.func97 rfl rfl _ rfl ?_
 conv => whnf
 repeat' (first | refine sq ?_ | refine bk ?_ | ((first | refine rg ttok ?_ | refine dw ttok mixed ?_ | refine cd ?_ | refine sk ?_ | refine xt ?_ | refine rt ?_); conv => whnf) | (refine And.intro (fun h => ?_) (fun h => ?_) <;> (try simp only [brsA] at h) <;> conv => whnf) | ((first | refine wf ?_ | refine wp' ?_ | refine ai ?_ | refine And.intro rfl ?_ | refine an ?_ | fail); conv => whnf))
 ·rw [pS_has h]
  repeat (first | exact fa | ((first | refine fb ?_ | (refine And.intro ?_ ?_; rotate_left)); conv => whnf))
 ·rw [pS_no h]
  repeat (first | exact fa | ((first | refine fb ?_ | (refine And.intro ?_ ?_; rotate_left)); conv => whnf))
theorem idx_c (S : Sd) (N : Nat) (lk ok : Int → List It) (q : Bool) (x : It) (l : List It) (hb : CB S) (hl : l.length ≤ 1000000) (ha : ∀ i, i < l.length → 0 ≤ (l.getD i (0, 0)).1 ∧ (l.getD i (0, 0)).1 ≤ 1152921504606846976) :
  MCalls Tryz.prog G 86 [.sl l.length 2 (itR l), .fn 97 [.ref 1 0, .ref 8 0]] (gk2 :: kBs S N lk ok q x) (.int .i64 (rfidx (pS S x) l)) (gk2 :: kBs S N lk ok q x) := by
 refine MCalls.of_WA ttok Tryz.func86 rfl rfl _ rfl ?_
 conv => whnf
 repeat' (first | refine sq ?_ | refine bk ?_ | ((first | refine rg ttok ?_ | refine dw ttok mixed ?_ | refine cd ?_ | refine sk ?_ | refine xt ?_ | refine rt ?_); conv => whnf) | (refine And.intro (fun h => ?_) (fun h => ?_) <;> (try simp only [brsA] at h) <;> conv => whnf) | ((first | refine wf ?_ | refine wp' ?_ | refine ai ?_ | refine And.intro rfl ?_ | refine an ?_ | fail); conv => whnf))
 refine WA_loopI (fun i => i ≤ l.length ∧ ∀ j, j < i → pS S x (l.getD j (0, 0)) = false) (fun i => [(8, .int .i64 (i : Int))]) (fun i => gk2 :: kBs S N lk ok q x) (fun i => l.length - i) 0 ⟨by omega, fun j h => by omega⟩ ?_ ?_
 ·conv => whnf
  repeat (first | exact fa | ((first | refine fb ?_ | (refine And.intro ?_ ?_; rotate_left)); conv => whnf))
 ·rintro i ⟨hi, hI⟩
  have h1 : i < l.length → MCalls Tryz.prog G 97 [.agg [.int .i64 (l.getD i (0, 0)).1, .int .i64 (l.getD i (0, 0)).2], .ref 1 0, .ref 8 0] (gk3 :: kBs S N lk ok q x) (.sb (pS S x (l.getD i (0, 0)))) (gk3 :: kBs S N lk ok q x) := fun h => clo_c S N lk ok q x _ hb (ha i h)
  conv => whnf
  repeat' (first | refine sq ?_ | refine bk ?_ | ((first | refine rg ttok ?_ | refine dw ttok mixed ?_ | refine cd ?_ | refine sk ?_ | refine xt ?_ | refine rt ?_); conv => whnf) | (refine And.intro (fun h => ?_) (fun h => ?_) <;> (try simp only [brsA] at h) <;> conv => whnf) | (refine Or.inr (Or.inl ?_); (conv => whnf); refine ⟨_, _, (h1 (by omega)), ?_⟩; conv => whnf) | ((first | refine wf ?_ | refine wp' ?_ | refine ai ?_ | refine And.intro rfl ?_ | refine an ?_ | fail); conv => whnf))
  ·rw [rfidx_at (by omega) h hI]
   repeat (first | exact fa | ((first | refine fb ?_ | (refine And.intro ?_ ?_; rotate_left)); conv => whnf))
  ·refine ⟨i + 1, ⟨(by show i + 1 ≤ l.length; omega), fun j hj => ?_⟩, (by show l.length - (i + 1) < l.length - i; omega), ?_⟩
   ·have hj : j < i + 1 := hj
    by_cases e : j = i
    ·rw [e]; exact h
    ·exact hI j (by omega)
   ·conv => whnf
    repeat (first | exact fa | ((first | refine fb ?_ | (refine And.intro ?_ ?_; rotate_left)); conv => whnf))
  ·rw [rfidx_none (fun j hj => hI j (by omega))]
   repeat (first | exact fa | ((first | refine fb ?_ | (refine And.intro ?_ ?_; rotate_left)); conv => whnf))
theorem con_c (S : Sd) (N : Nat) (lk ok : Int → List It) (q : Bool) (x : It) (l : List It) (hb : CB S) (hl : l.length ≤ 1000000) (ha : ∀ i, i < l.length → 0 ≤ (l.getD i (0, 0)).1 ∧ (l.getD i (0, 0)).1 ≤ 1152921504606846976) :
  MCalls Tryz.prog G 77 [.sl l.length 2 (itR l), .fn 97 [.ref 1 0, .ref 8 0]] (gk2 :: kBs S N lk ok q x) (.sb (stl S l x)) (gk2 :: kBs S N lk ok q x) := by
 have h1 := idx_c (G := G) S N lk ok q x l hb hl ha
 refine MCalls.of_WA ttok Tryz.func77 rfl rfl _ rfl ?_
 conv => whnf
 repeat' (first | refine sq ?_ | refine bk ?_ | ((first | refine rg ttok ?_ | refine dw ttok mixed ?_ | refine cd ?_ | refine sk ?_ | refine xt ?_ | refine rt ?_); conv => whnf) | (refine And.intro (fun h => ?_) (fun h => ?_) <;> (try simp only [brsA] at h) <;> conv => whnf) | (refine Or.inr (Or.inl ?_); (conv => whnf); refine ⟨_, _, h1, ?_⟩; conv => whnf) | ((first | refine wf ?_ | refine wp' ?_ | refine ai ?_ | refine And.intro rfl ?_ | refine an ?_ | fail); conv => whnf))
 rw [stl_any, ← rfidx_any]
 repeat (first | exact fa | ((first | refine fb ?_ | (refine And.intro ?_ ?_; rotate_left)); conv => whnf))
abbrev gs2 : Blk := .ghost [.junk, .junk, .ref 1 0, .ref 2 0, .junk, .omap 4, .omap 5, .omap 6]
theorem stalled_c (S : Sd) (N : Nat) (lk ok : Int → List It) (q : Bool) (x : It) (hb : CB S) (hx : 0 ≤ x.2 ∧ x.2 < N) (hl : ∀ v, (ok v).length ≤ 1000000) (ha : ∀ v i, i < (ok v).length → 0 ≤ ((ok v).getD i (0, 0)).1 ∧ ((ok v).getD i (0, 0)).1 ≤ 1152921504606846976) :
  MCalls Tryz.prog G 80 [.ref 1 0, .agg [.int .i64 x.1, .int .i64 x.2]] (gs2 :: rsBs S N lk ok q) (.sb (stl S (ok x.2) x)) (gs2 :: rsBs S N lk ok q) := by
 have h1 := con_c (G := G) S N lk ok q x (ok x.2.toNat) hb (hl _) (ha _)
 refine MCalls.of_WA ttok Tryz.func80 rfl rfl _ rfl ?_
 conv => whnf
 repeat' (first | ((refine WA_drawB (id := 1) 9 [] ttok mixed rfl (by kernel_rfl) ?_; conv => whnf)) | refine sq ?_ | refine bk ?_ | ((first | refine rg ttok ?_ | refine dw ttok mixed ?_ | refine cd ?_ | refine sk ?_ | refine xt ?_ | refine rt ?_); conv => whnf) | (refine And.intro (fun h => ?_) (fun h => ?_) <;> (try simp only [brsA] at h) <;> conv => whnf) | (refine Or.inr (Or.inl ?_); (conv => whnf); refine ⟨_, _, h1, ?_⟩; conv => whnf) | ((first | refine wf ?_ | refine wp' ?_ | refine ai ?_ | refine And.intro rfl ?_ | refine an ?_ | fail); conv => whnf))
 rw [Int.toNat_of_nonneg hx.1]
 repeat (first | exact fa | ((first | refine fb ?_ | (refine And.intro ?_ ?_; rotate_left)); conv => whnf))
end Go.Proofs.YtnkbkfjgbejhfaaGreat
namespace Go.Proofs.YtnkbkfjgbejhfaaGreat
open Go.Proofs.YtnkbkfjgbejhfaaGreat.Am Go.HeapL
variable [Inhabited DRT]
variable {G : GInv}
abbrev tBs (S : Sd) (b : Bst) (Z : Sd) (N : Nat) (lk ok : Int → List It) (q : Bool) : List Blk := [.box 102 [.ref 2 0, .omap 5, .omap 6, tabA N lk, tabA N ok, .int .i64 S.t, .bool q], .box 81 [.own 3, .omap 4], .row 41 2 S.L.length (itR S.L), atB S.L, cB S, fB S,
 .box 66 [.int .i64 b.cost, .int .i64 b.pt],
 .box 102 [.ref 9 0, .omap 12, .omap 13, tabA N ok, tabA N lk, .int .i64 Z.t, .bool q], .box 81 [.own 10, .omap 11], .row 41 2 Z.L.length (itR Z.L), atB Z.L, cB Z, fB Z]
abbrev gt3 : Blk := .ghost [.junk, .junk, .junk, .ref 1 0, .ref 2 0, .junk, .omap 4, .omap 5, .omap 6, .ref 7 0, .ref 8 0, .ref 9 0, .junk, .omap 11, .omap 12, .omap 13]
theorem mtb_yes {b : Bst} {Z : Sd} {x : It} (h : cH Z [.int x.2] = true) (h2 : (Z.c x.2).getD 0 + x.1 < b.cost) : mtb b (Z.c x.2) x = ⟨(Z.c x.2).getD 0 + x.1, x.2⟩ := by
 have h : (Z.c x.2).isSome = true := h
 unfold mtb
 cases e : Z.c x.2 with
 | none => rw [e] at h; cases h
 | some k => rw [e] at h2; exact if_pos h2
theorem mtb_no {b : Bst} {Z : Sd} {x : It} (h : cH Z [.int x.2] = false) : mtb b (Z.c x.2) x = b := by
 have h : (Z.c x.2).isSome = false := h
 unfold mtb
 cases e : Z.c x.2 with
 | none => rfl
 | some k => rw [e] at h; cases h
theorem mtb_ge {b : Bst} {Z : Sd} {x : It} (h : cH Z [.int x.2] = true) (h2 : ¬ (Z.c x.2).getD 0 + x.1 < b.cost) : mtb b (Z.c x.2) x = b := by
 have h : (Z.c x.2).isSome = true := h
 unfold mtb
 cases e : Z.c x.2 with
 | none => rfl
 | some k => rw [e] at h2; exact if_neg h2
theorem rlx_step (v key : Int) (l : List It) (S : Sd) (i : Nat) (hi : i < l.length) : rlx v key (l.take (i + 1)) S = rch (rlx v key (l.take i) S) (l.getD i (0, 0)).2 v (key + (l.getD i (0, 0)).1) := by
 unfold rlx
 rw [List.take_add_one, List.foldl_append, List.getElem?_eq_getElem hi]
 simp [List.getD_eq_getElem?_getD, hi]
structure TB (S Z : Sd) (N : Nat) (lk ok : Int → List It) : Prop where
 nd : Nd S.L
 ln : S.L.length ≤ 100000
 cb : CB S
 cz : CB Z
 ky : 0 < S.L.length → (0 ≤ (gt S.L 0).1 ∧ (gt S.L 0).1 < 4611686018427387904) ∧ 0 ≤ (gt S.L 0).2 ∧ (gt S.L 0).2 < N
 tk : 0 ≤ S.t ∧ S.t ≤ 100000
 ll : ∀ v, (lk v).length ≤ 1000000 ∧ (ok v).length ≤ 1000000
 la : ∀ v i, i < (lk v).length → 0 ≤ ((lk v).getD i (0, 0)).1 ∧ ((lk v).getD i (0, 0)).1 ≤ 1152921504606846976
 oa : ∀ v i, i < (ok v).length → 0 ≤ ((ok v).getD i (0, 0)).1 ∧ ((ok v).getD i (0, 0)).1 ≤ 1152921504606846976
 rl : 0 < S.L.length → ∀ i, Nd (rlx (gt S.L 0).2 (gt S.L 0).1 ((lk (gt S.L 0).2).take i) (popd S)).L ∧ (rlx (gt S.L 0).2 (gt S.L 0).1 ((lk (gt S.L 0).2).take i) (popd S)).L.length ≤ 100000
theorem turn_none (S Z : Sd) (b : Bst) (N : Nat) (lk ok : Int → List It) (q : Bool) (h0 : S.L.length = 0) :
  MCalls Tryz.prog G 49 [.ref 1 0, .ref 7 0, .ref 8 0] (gt3 :: tBs S b Z N lk ok q) (.bool false) (gt3 :: tBs S b Z N lk ok q) := by
 have h1 := least_no (G := G) S.L h0
 refine MCalls.of_WA ttok Tryz.func49 rfl rfl _ rfl ?_
 conv => whnf
 repeat' (first | refine sq ?_ | refine bk ?_ | ((first | refine rg ttok ?_ | refine dw ttok mixed ?_ | refine cd ?_ | refine sk ?_ | refine xt ?_ | refine rt ?_); conv => whnf) | (refine And.intro (fun h => ?_) (fun h => ?_) <;> (try simp only [brsA] at h) <;> conv => whnf) | (refine Or.inr (Or.inl ?_); (conv => whnf); refine ⟨_, _, h1, ?_⟩; conv => whnf) | ((first | refine wf ?_ | refine wp' ?_ | refine ai ?_ | refine And.intro rfl ?_ | refine an ?_ | fail); conv => whnf))
 repeat (first | exact fa | ((first | refine fb ?_ | (refine And.intro ?_ ?_; rotate_left)); conv => whnf))
theorem turn_far (S Z : Sd) (b : Bst) (N : Nat) (lk ok : Int → List It) (q : Bool) (h0 : 0 < S.L.length) (hl : S.L.length ≤ 100000) (hb : ¬ (gt S.L 0).1 < b.cost) :
  MCalls Tryz.prog G 49 [.ref 1 0, .ref 7 0, .ref 8 0] (gt3 :: tBs S b Z N lk ok q) (.bool false) (gt3 :: tBs S b Z N lk ok q) := by
 have h1 := least_yes (G := G) S.L h0 (by omega)
 refine MCalls.of_WA ttok Tryz.func49 rfl rfl _ rfl ?_
 conv => whnf
 repeat' (first | refine sq ?_ | refine bk ?_ | ((first | refine rg ttok ?_ | refine dw ttok mixed ?_ | refine cd ?_ | refine sk ?_ | refine xt ?_ | refine rt ?_); conv => whnf) | (refine And.intro (fun h => ?_) (fun h => ?_) <;> (try simp only [brsA] at h) <;> conv => whnf) | (refine Or.inr (Or.inl ?_); (conv => whnf); refine ⟨_, _, h1, ?_⟩; conv => whnf) | ((first | refine wf ?_ | refine wp' ?_ | refine ai ?_ | refine And.intro rfl ?_ | refine an ?_ | fail); conv => whnf))
 ·repeat (first | exact fa | ((first | refine fb ?_ | (refine And.intro ?_ ?_; rotate_left)); conv => whnf))
 ·omega
abbrev tLs (S : Sd) (b : Bst) (Z : Sd) (N : Nat) (lk ok : Int → List It) (q : Bool) (x : It) : List Blk := [.box 102 [.ref 2 0, .omap 5, .omap 6, tabA N lk, tabA N ok, .int .i64 S.t, .bool q], .box 81 [.own 3, .omap 4], .row 41 2 S.L.length (itR S.L), atB S.L, cB S, fB S,
 .box 66 [.int .i64 b.cost, .int .i64 b.pt],
 .box 102 [.ref 9 0, .omap 12, .omap 13, tabA N ok, tabA N lk, .int .i64 Z.t, .bool q], .box 81 [.own 10, .omap 11], .row 41 2 Z.L.length (itR Z.L), atB Z.L, cB Z, fB Z, .box 41 [.int .i64 x.1, .int .i64 x.2]]
theorem turn_go0 (S Z : Sd) (b : Bst) (N : Nat) (lk ok : Int → List It) (hT : TB S Z N lk ok) (h0 : 0 < S.L.length) (hb : (gt S.L 0).1 < b.cost) :
  MCalls Tryz.prog G 49 [.ref 1 0, .ref 7 0, .ref 8 0] (gt3 :: tBs S b Z N lk ok false) (.bool true) (gt3 :: tBs (rlx (gt S.L 0).2 (gt S.L 0).1 (lk (gt S.L 0).2) (popd S)) (mtb b (Z.c (gt S.L 0).2) (gt S.L 0)) Z N lk ok false) := by
 have hl := hT.ln
 have hky := hT.ky h0
 have htk := hT.tk
 have hcz := hT.cz (gt S.L 0).2
 have hll := (hT.ll (gt S.L 0).2.toNat).1
 have hnn : (((gt S.L 0).2.toNat : Nat) : Int) = (gt S.L 0).2 := Int.toNat_of_nonneg hky.2.1
 have h1 := least_yes (G := G) S.L h0 (by omega)
 have h2 := pop_c (G := G) S.L hT.nd h0 (by omega)
 rw [show lk (gt S.L 0).2 = lk ((gt S.L 0).2.toNat : Nat) by rw [hnn]]
 refine MCalls.of_WA ttok Tryz.func49 rfl rfl _ rfl ?_
 conv => whnf
 repeat' (first | refine sq ?_ | refine bk ?_ | ((first | refine rg ttok ?_ | refine dw ttok mixed ?_ | refine cd ?_ | refine sk ?_ | refine xt ?_ | refine rt ?_); conv => whnf) | (refine And.intro (fun h => ?_) (fun h => ?_) <;> (try simp only [brsA] at h) <;> conv => whnf) | (refine Or.inr (Or.inl ?_); (conv => whnf); (first | refine ⟨_, _, h1, ?_⟩ | refine ⟨_, _, h2, ?_⟩); conv => whnf) | ((first | refine wf ?_ | refine wp' ?_ | refine ai ?_ | refine And.intro rfl ?_ | refine an ?_ | fail); conv => whnf))
 all_goals first
  | (exfalso; omega)
  | exact absurd (show stl S (ok (gt S.L 0).2) (gt S.L 0) = true by assumption) (by rw [hs]; exact Bool.noConfusion)
  | skip
 all_goals
  refine WA_loopI (fun i => i ≤ (lk (gt S.L 0).2.toNat).length) (fun i => [(96, .int .i64 (i : Int))]) (fun i => gt3 :: tLs (rlx (gt S.L 0).2 (gt S.L 0).1 ((lk (gt S.L 0).2.toNat).take i) (popd S)) (mtb b (Z.c (gt S.L 0).2) (gt S.L 0)) Z N lk ok false (gt S.L 0)) (fun i => (lk (gt S.L 0).2.toNat).length - i) 0 (by omega) ?_ ?_
  ·first
    | rw [mtb_yes (b := b) (Z := Z) (x := gt S.L 0) (by assumption) (by assumption)]
    | rw [mtb_ge (b := b) (Z := Z) (x := gt S.L 0) (by assumption) (by assumption)]
    | rw [mtb_no (b := b) (Z := Z) (x := gt S.L 0) (by assumption)]
   conv => whnf
   repeat (first | exact fa | ((first | refine fb ?_ | (refine And.intro ?_ ?_; rotate_left)); conv => whnf))
  ·intro i hi
   have hrl := hT.rl h0 i
   have hla : (i : Int) < ((lk (gt S.L 0).2.toNat).length : Int) → 0 ≤ ((lk (gt S.L 0).2.toNat).getD (i : Int).toNat (0, 0)).1 ∧ ((lk (gt S.L 0).2.toNat).getD (i : Int).toNat (0, 0)).1 ≤ 1152921504606846976 := fun h => hT.la (gt S.L 0).2.toNat i (by omega)
   rw [show lk (gt S.L 0).2 = lk ((gt S.L 0).2.toNat : Nat) by rw [hnn]] at hrl
   have h4 : i < (lk (gt S.L 0).2.toNat).length → MCalls Tryz.prog G 79 [.ref 1 0, .int .i64 ((lk (gt S.L 0).2.toNat).getD i (0, 0)).2, .int .i64 (gt S.L 0).2, .int .i64 ((gt S.L 0).1 + ((lk (gt S.L 0).2.toNat).getD i (0, 0)).1)] (gs4 :: rsBs (rlx (gt S.L 0).2 (gt S.L 0).1 ((lk (gt S.L 0).2.toNat).take i) (popd S)) N lk ok false) (.tup []) (gs4 :: rsBs (rlx (gt S.L 0).2 (gt S.L 0).1 ((lk (gt S.L 0).2.toNat).take (i + 1)) (popd S)) N lk ok false) := fun h => by
    rw [rlx_step _ _ _ _ i h]
    exact reach_c _ N lk ok false _ _ _ hrl.1 hrl.2
   conv => whnf
   repeat' (first | refine sq ?_ | refine bk ?_ | ((first | refine rg ttok ?_ | refine dw ttok mixed ?_ | refine cd ?_ | refine sk ?_ | refine xt ?_ | refine rt ?_); conv => whnf) | (refine And.intro (fun h => ?_) (fun h => ?_) <;> (try simp only [brsA] at h) <;> conv => whnf) | (refine Or.inr (Or.inl ?_); (conv => whnf); refine ⟨_, _, (h4 (by omega)), ?_⟩; conv => whnf) | ((first | refine wf ?_ | refine wp' ?_ | refine ai ?_ | refine And.intro rfl ?_ | refine an ?_ | fail); conv => whnf))
   ·refine ⟨i + 1, (by show i + 1 ≤ (lk (gt S.L 0).2.toNat).length; omega), (by show (lk (gt S.L 0).2.toNat).length - (i + 1) < (lk (gt S.L 0).2.toNat).length - i; omega), ?_⟩
    conv => whnf
    repeat (first | exact fa | ((first | refine fb ?_ | (refine And.intro ?_ ?_; rotate_left)); conv => whnf))
   ·have e : i = (lk (gt S.L 0).2.toNat).length := by omega
    subst e
    rw [List.take_length]
    repeat (first | exact fa | ((first | refine fb ?_ | (refine And.intro ?_ ?_; rotate_left)); conv => whnf))
theorem turn_go1 (S Z : Sd) (b : Bst) (N : Nat) (lk ok : Int → List It) (hT : TB S Z N lk ok) (h0 : 0 < S.L.length) (hb : (gt S.L 0).1 < b.cost) (hs : stl S (ok (gt S.L 0).2) (gt S.L 0) = false) :
  MCalls Tryz.prog G 49 [.ref 1 0, .ref 7 0, .ref 8 0] (gt3 :: tBs S b Z N lk ok true) (.bool true) (gt3 :: tBs (rlx (gt S.L 0).2 (gt S.L 0).1 (lk (gt S.L 0).2) (popd S)) (mtb b (Z.c (gt S.L 0).2) (gt S.L 0)) Z N lk ok true) := by
 have hl := hT.ln
 have hky := hT.ky h0
 have htk := hT.tk
 have hcz := hT.cz (gt S.L 0).2
 have hll := (hT.ll (gt S.L 0).2.toNat).1
 have hnn : (((gt S.L 0).2.toNat : Nat) : Int) = (gt S.L 0).2 := Int.toNat_of_nonneg hky.2.1
 have h1 := least_yes (G := G) S.L h0 (by omega)
 have h2 := pop_c (G := G) S.L hT.nd h0 (by omega)
 have h3 := stalled_c (G := G) (popd S) N lk ok true (gt S.L 0) hT.cb hky.2 (fun v => (hT.ll v).2) hT.oa
 rw [show lk (gt S.L 0).2 = lk ((gt S.L 0).2.toNat : Nat) by rw [hnn]]
 refine MCalls.of_WA ttok Tryz.func49 rfl rfl _ rfl ?_
 conv => whnf
 repeat' (first | refine sq ?_ | refine bk ?_ | ((first | refine rg ttok ?_ | refine dw ttok mixed ?_ | refine cd ?_ | refine sk ?_ | refine xt ?_ | refine rt ?_); conv => whnf) | (refine And.intro (fun h => ?_) (fun h => ?_) <;> (try simp only [brsA] at h) <;> conv => whnf) | (refine Or.inr (Or.inl ?_); (conv => whnf); (first | refine ⟨_, _, h1, ?_⟩ | refine ⟨_, _, h2, ?_⟩ | refine ⟨_, _, h3, ?_⟩); conv => whnf) | ((first | refine wf ?_ | refine wp' ?_ | refine ai ?_ | refine And.intro rfl ?_ | refine an ?_ | fail); conv => whnf))
 all_goals first
  | (exfalso; omega)
  | exact absurd (show stl S (ok (gt S.L 0).2) (gt S.L 0) = true by assumption) (by rw [hs]; exact Bool.noConfusion)
  | skip
 all_goals
  refine WA_loopI (fun i => i ≤ (lk (gt S.L 0).2.toNat).length) (fun i => [(96, .int .i64 (i : Int))]) (fun i => gt3 :: tLs (rlx (gt S.L 0).2 (gt S.L 0).1 ((lk (gt S.L 0).2.toNat).take i) (popd S)) (mtb b (Z.c (gt S.L 0).2) (gt S.L 0)) Z N lk ok true (gt S.L 0)) (fun i => (lk (gt S.L 0).2.toNat).length - i) 0 (by omega) ?_ ?_
  ·first
    | rw [mtb_yes (b := b) (Z := Z) (x := gt S.L 0) (by assumption) (by assumption)]
    | rw [mtb_ge (b := b) (Z := Z) (x := gt S.L 0) (by assumption) (by assumption)]
    | rw [mtb_no (b := b) (Z := Z) (x := gt S.L 0) (by assumption)]
   conv => whnf
   repeat (first | exact fa | ((first | refine fb ?_ | (refine And.intro ?_ ?_; rotate_left)); conv => whnf))
  ·intro i hi
   have hrl := hT.rl h0 i
   have hla : (i : Int) < ((lk (gt S.L 0).2.toNat).length : Int) → 0 ≤ ((lk (gt S.L 0).2.toNat).getD (i : Int).toNat (0, 0)).1 ∧ ((lk (gt S.L 0).2.toNat).getD (i : Int).toNat (0, 0)).1 ≤ 1152921504606846976 := fun h => hT.la (gt S.L 0).2.toNat i (by omega)
   rw [show lk (gt S.L 0).2 = lk ((gt S.L 0).2.toNat : Nat) by rw [hnn]] at hrl
   have h4 : i < (lk (gt S.L 0).2.toNat).length → MCalls Tryz.prog G 79 [.ref 1 0, .int .i64 ((lk (gt S.L 0).2.toNat).getD i (0, 0)).2, .int .i64 (gt S.L 0).2, .int .i64 ((gt S.L 0).1 + ((lk (gt S.L 0).2.toNat).getD i (0, 0)).1)] (gs4 :: rsBs (rlx (gt S.L 0).2 (gt S.L 0).1 ((lk (gt S.L 0).2.toNat).take i) (popd S)) N lk ok true) (.tup []) (gs4 :: rsBs (rlx (gt S.L 0).2 (gt S.L 0).1 ((lk (gt S.L 0).2.toNat).take (i + 1)) (popd S)) N lk ok true) := fun h => by
    rw [rlx_step _ _ _ _ i h]
    exact reach_c _ N lk ok true _ _ _ hrl.1 hrl.2
   conv => whnf
   repeat' (first | refine sq ?_ | refine bk ?_ | ((first | refine rg ttok ?_ | refine dw ttok mixed ?_ | refine cd ?_ | refine sk ?_ | refine xt ?_ | refine rt ?_); conv => whnf) | (refine And.intro (fun h => ?_) (fun h => ?_) <;> (try simp only [brsA] at h) <;> conv => whnf) | (refine Or.inr (Or.inl ?_); (conv => whnf); refine ⟨_, _, (h4 (by omega)), ?_⟩; conv => whnf) | ((first | refine wf ?_ | refine wp' ?_ | refine ai ?_ | refine And.intro rfl ?_ | refine an ?_ | fail); conv => whnf))
   ·refine ⟨i + 1, (by show i + 1 ≤ (lk (gt S.L 0).2.toNat).length; omega), (by show (lk (gt S.L 0).2.toNat).length - (i + 1) < (lk (gt S.L 0).2.toNat).length - i; omega), ?_⟩
    conv => whnf
    repeat (first | exact fa | ((first | refine fb ?_ | (refine And.intro ?_ ?_; rotate_left)); conv => whnf))
   ·have e : i = (lk (gt S.L 0).2.toNat).length := by omega
    subst e
    rw [List.take_length]
    repeat (first | exact fa | ((first | refine fb ?_ | (refine And.intro ?_ ?_; rotate_left)); conv => whnf))
end Go.Proofs.YtnkbkfjgbejhfaaGreat
namespace Go.Proofs.YtnkbkfjgbejhfaaGreat
open Go.Proofs.YtnkbkfjgbejhfaaGreat.Am Go.HeapL
variable [Inhabited DRT]
variable {G : GInv}
theorem turn_stop (S Z : Sd) (b : Bst) (N : Nat) (lk ok : Int → List It) (hT : TB S Z N lk ok) (h0 : 0 < S.L.length) (hb : (gt S.L 0).1 < b.cost) (hs : stl S (ok (gt S.L 0).2) (gt S.L 0) = true) :
  MCalls Tryz.prog G 49 [.ref 1 0, .ref 7 0, .ref 8 0] (gt3 :: tBs S b Z N lk ok true) (.bool true) (gt3 :: tBs (popd S) (mtb b (Z.c (gt S.L 0).2) (gt S.L 0)) Z N lk ok true) := by
 have hl := hT.ln
 have hky := hT.ky h0
 have htk := hT.tk
 have hcz := hT.cz (gt S.L 0).2
 have h1 := least_yes (G := G) S.L h0 (by omega)
 have h2 := pop_c (G := G) S.L hT.nd h0 (by omega)
 have h3 := stalled_c (G := G) (popd S) N lk ok true (gt S.L 0) hT.cb hky.2 (fun v => (hT.ll v).2) hT.oa
 refine MCalls.of_WA ttok Tryz.func49 rfl rfl _ rfl ?_
 conv => whnf
 repeat' (first | refine sq ?_ | refine bk ?_ | ((first | refine rg ttok ?_ | refine dw ttok mixed ?_ | refine cd ?_ | refine sk ?_ | refine xt ?_ | refine rt ?_); conv => whnf) | (refine And.intro (fun h => ?_) (fun h => ?_) <;> (try simp only [brsA] at h) <;> conv => whnf) | (refine Or.inr (Or.inl ?_); (conv => whnf); (first | refine ⟨_, _, h1, ?_⟩ | refine ⟨_, _, h2, ?_⟩ | refine ⟨_, _, h3, ?_⟩); conv => whnf) | ((first | refine wf ?_ | refine wp' ?_ | refine ai ?_ | refine And.intro rfl ?_ | refine an ?_ | fail); conv => whnf))
 all_goals first
  | (exfalso; omega)
  | exact absurd (show stl S (ok (gt S.L 0).2) (gt S.L 0) = false by assumption) (by rw [hs]; exact Bool.noConfusion)
  | skip
 all_goals
  first
   | rw [mtb_yes (b := b) (Z := Z) (x := gt S.L 0) (by assumption) (by assumption)]
   | rw [mtb_ge (b := b) (Z := Z) (x := gt S.L 0) (by assumption) (by assumption)]
   | rw [mtb_no (b := b) (Z := Z) (x := gt S.L 0) (by assumption)]
  repeat (first | exact fa | ((first | refine fb ?_ | (refine And.intro ?_ ?_; rotate_left)); conv => whnf))
theorem turn_c (s : St) (N : Nat) (lk ok : Int → List It) (q : Bool) (hT : TB s.a s.z N lk ok) :
  MCalls Tryz.prog G 49 [.ref 1 0, .ref 7 0, .ref 8 0] (gt3 :: tBs s.a s.b s.z N lk ok q) (.bool (okT s.a s.b)) (gt3 :: tBs (hlf q lk ok s).a (hlf q lk ok s).b (hlf q lk ok s).z N lk ok q) := by
 cases ho : okT s.a s.b with
 | false =>
  rw [hlf_id ho]
  by_cases h0 : 0 < s.a.L.length
  ·refine turn_far s.a s.z s.b N lk ok q h0 hT.ln (fun h => ?_)
   rw [okT_iff.2 ⟨h0, h⟩] at ho; cases ho
  ·exact turn_none s.a s.z s.b N lk ok q (by omega)
 | true =>
  obtain ⟨h0, hb⟩ := okT_iff.1 ho
  have e : hlf q lk ok s = ⟨tS q lk ok s.a, s.z, mtb s.b (s.z.c (gt s.a.L 0).2) (gt s.a.L 0)⟩ := by unfold hlf; rw [ho]
  rw [e]
  unfold tS
  cases q with
  | false => exact turn_go0 s.a s.z s.b N lk ok hT h0 hb
  | true =>
   cases hs : stl s.a (ok (gt s.a.L 0).2) (gt s.a.L 0) with
   | false => exact turn_go1 s.a s.z s.b N lk ok hT h0 hb hs
   | true => exact turn_stop s.a s.z s.b N lk ok hT h0 hb hs
end Go.Proofs.YtnkbkfjgbejhfaaGreat
namespace Go.Proofs.YtnkbkfjgbejhfaaGreat
open Go.Proofs.YtnkbkfjgbejhfaaGreat.Am Go.HeapL
variable [Inhabited DRT]
variable {G : GInv}
theorem upE_step (rk : List Int) (ls : List Lk) (i : Nat) (u : Int) (hi : i < ls.length) : upE rk (ls.take (i + 1)) u = upE rk (ls.take i) u ++ (if (ls.getD i default).f = u ∧ rk.getD u.toNat 0 < rk.getD (ls.getD i default).t.toNat 0 then [((ls.getD i default).w, (ls.getD i default).t)] else []) := by
 unfold upE
 rw [filterMap_take (upF rk u) default ls i hi]
 congr 1
 unfold upF
 by_cases h : (ls.getD i default).f = u ∧ rk.getD u.toNat 0 < rk.getD (ls.getD i default).t.toNat 0
 ·simp only [if_pos h]
 ·simp only [if_neg h]
theorem dnE_step (rk : List Int) (ls : List Lk) (i : Nat) (u : Int) (hi : i < ls.length) : dnE rk (ls.take (i + 1)) u = dnE rk (ls.take i) u ++ (if (ls.getD i default).t = u ∧ rk.getD u.toNat 0 < rk.getD (ls.getD i default).f.toNat 0 then [((ls.getD i default).w, (ls.getD i default).f)] else []) := by
 unfold dnE
 rw [filterMap_take (downF rk u) default ls i hi]
 congr 1
 unfold downF
 by_cases h : (ls.getD i default).t = u ∧ rk.getD u.toNat 0 < rk.getD (ls.getD i default).f.toNat 0
 ·simp only [if_pos h]
 ·simp only [if_neg h]
theorem tab_fit {E E' : Int → List It} (fN : Nat) (x : It) (hE : ∀ v : Nat, E' v = E v ++ (if v = fN then [x] else [])) (r : Nat → List A) (hr : r 0 = [A.int .i64 x.1, A.int .i64 x.2]) (v : Nat) :
  updN (fun v => (E v).length) fN ((E fN).length + 1) v = (E' v).length ∧ ∀ k, k < updN (fun v => (E v).length) fN ((E fN).length + 1) v → updN (fun v k => itR (E v) k) fN (rowCat (E fN).length (fun k => itR (E fN) k) r) v k = itR (E' v) k := by
 have hv := hE v
 by_cases h : v = fN
 ·subst h
  rw [if_pos rfl] at hv
  rw [hv]
  simp only [updN, if_pos]
  refine ⟨by simp, fun k hk => ?_⟩
  exact rowCat_snoc (fun y : It => [A.int .i64 y.1, A.int .i64 y.2]) (0, 0) (E v) x _ hr k hk
 ·rw [if_neg h, List.append_nil] at hv
  rw [hv]
  simp only [updN, if_neg h]
  exact ⟨trivial, fun _ _ => trivial⟩
theorem tab_same {E E' : Int → List It} (v : Nat) (h : E' v = E v) : (E v).length = (E' v).length ∧ ∀ k, k < (E v).length → itR (E v) k = itR (E' v) k := by rw [h]; exact ⟨rfl, fun _ _ => rfl⟩
theorem tabled_c (rk : List Int) (ls : List Lk) (hl : ls.length ≤ 1000000) (hr : rk.length ≤ 1000000) (hR : RanksP rk) (hS : SortedP rk.length ls) :
  ACalls Tryz.prog G 47 [.agg [intsA rk, lksA ls]] (.agg [tabA rk.length (upE rk ls), tabA rk.length (dnE rk ls)]) := by
 refine ACalls.of_WA ttok Tryz.func47 rfl rfl _ rfl ?_
 conv => whnf
 repeat' (first | refine sq ?_ | refine bk ?_ | ((first | refine rg ttok ?_ | refine dw ttok mixed ?_ | refine cd ?_ | refine sk ?_ | refine xt ?_ | refine rt ?_); conv => whnf) | (refine And.intro (fun h => ?_) (fun h => ?_) <;> (try simp only [brsA] at h) <;> conv => whnf) | ((first | refine wf ?_ | refine wp' ?_ | refine ai ?_ | refine And.intro rfl ?_ | refine an ?_ | fail); conv => whnf))
 refine WA_nest 2 41 2 rfl (fun _ _ => rfl) ?_
 conv => whnf
 refine WA_nest 3 41 2 rfl (fun _ _ => rfl) ?_
 conv => whnf
 refine WA_loopI (fun i => i ≤ ls.length) (fun i => [(18, .int .i64 (i : Int))]) (fun i => [.box 32 [intsA rk, lksA ls], .box 98 [.nils, .nils], .nest 25 41 2 rk.length none (fun v => (upE rk (ls.take i) v).length) (fun v k => itR (upE rk (ls.take i) v) k), .nest 25 41 2 rk.length none (fun v => (dnE rk (ls.take i) v).length) (fun v k => itR (dnE rk (ls.take i) v) k), .box 98 [.own 2, .own 3]]) (fun i => ls.length - i) 0 (by omega) ?_ ?_
 ·conv => whnf
  repeat (first | exact fa | ((first | refine fb ?_ | (refine And.intro ?_ ?_; rotate_left)); conv => whnf))
  all_goals exact fun v _ => ⟨rfl, fun k hk => absurd hk (Nat.not_lt_zero _)⟩
 ·intro i hi
  have hok : (i : Int) < ls.length → (0 ≤ (ls.getD (i : Int).toNat default).t ∧ (ls.getD (i : Int).toNat default).t < rk.length) ∧ (0 ≤ (ls.getD (i : Int).toNat default).f ∧ (ls.getD (i : Int).toNat default).f < rk.length) := fun h => ⟨((hS i (by omega)).1).2.1, ((hS i (by omega)).1).1⟩
  have hlu : ∀ v, (upE rk (ls.take i) v).length ≤ 1000000 := fun v => Nat.le_trans (filterMap_len _ _) (by rw [List.length_take]; omega)
  have hld : ∀ v, (dnE rk (ls.take i) v).length ≤ 1000000 := fun v => Nat.le_trans (filterMap_len _ _) (by rw [List.length_take]; omega)
  have hlf := hlu (ls.getD (i : Int).toNat default).f.toNat
  have hlt := hld (ls.getD (i : Int).toNat default).t.toNat
  conv => whnf
  repeat' (first | (refine WA_drawR (id := 6) [(9,1)] ttok mixed ?_; conv => whnf) | (refine WA_drawR (id := 7) [(9,1)] ttok mixed ?_; conv => whnf) | refine sq ?_ | refine bk ?_ | ((first | refine rg ttok ?_ | refine dw ttok mixed ?_ | refine cd ?_ | refine sk ?_ | refine xt ?_ | refine rt ?_); conv => whnf) | (refine And.intro (fun h => ?_) (fun h => ?_) <;> (try simp only [brsA] at h) <;> conv => whnf) | ((first | refine wf ?_ | refine wp' ?_ | refine ai ?_ | refine And.intro rfl ?_ | refine an ?_ | fail); conv => whnf))
  ·have hi' : i < ls.length := by omega
   have hne : rk.getD (ls.getD i default).f.toNat 0 < rk.getD (ls.getD i default).t.toNat 0 := h
   have ho := hok (by omega)
   have ho : (0 ≤ (ls.getD i default).t ∧ (ls.getD i default).t < rk.length) ∧ (0 ≤ (ls.getD i default).f ∧ (ls.getD i default).f < rk.length) := ho
   have eu : ∀ v : Nat, upE rk (ls.take (i + 1)) v = upE rk (ls.take i) v ++ (if v = (ls.getD i default).f.toNat then [((ls.getD i default).w, (ls.getD i default).t)] else []) := fun v => by
    rw [upE_step rk ls i v hi']
    congr 1
    by_cases e : v = (ls.getD i default).f.toNat
    ·rw [if_pos e, if_pos ⟨by omega, by rw [show ((v : Nat) : Int).toNat = v from rfl, e]; exact hne⟩]
    ·rw [if_neg e, if_neg (fun h => e (by omega))]
   have ed : ∀ v : Nat, dnE rk (ls.take (i + 1)) v = dnE rk (ls.take i) v := fun v => by
    rw [dnE_step rk ls i v hi', if_neg, List.append_nil]
    rintro ⟨h1, h2⟩
    rw [← h1] at h2; omega
   refine ⟨i + 1, (by show i + 1 ≤ ls.length; omega), (by show ls.length - (i + 1) < ls.length - i; omega), ?_⟩
   conv => whnf
   repeat (first | exact fa | ((first | refine fb ?_ | (refine And.intro ?_ ?_; rotate_left)); conv => whnf))
   ·exact fun v _ => tab_same (E := dnE rk (ls.take i)) (E' := dnE rk (ls.take (i + 1))) v (ed v)
   ·exact fun v _ => tab_fit (E := upE rk (ls.take i)) (E' := upE rk (ls.take (i + 1))) (ls.getD i default).f.toNat ((ls.getD i default).w, (ls.getD i default).t) eu _ rfl v
  ·have hi' : i < ls.length := by omega
   have ho := hok (by omega)
   have ho : (0 ≤ (ls.getD i default).t ∧ (ls.getD i default).t < rk.length) ∧ (0 ≤ (ls.getD i default).f ∧ (ls.getD i default).f < rk.length) := ho
   have hft := ((hS i hi').1).2.2.1
   have hne' := ranks_ne hR (i := (ls.getD i default).f.toNat) (j := (ls.getD i default).t.toNat) (by omega) (by omega) (by omega)
   have hne : rk.getD (ls.getD i default).t.toNat 0 < rk.getD (ls.getD i default).f.toNat 0 := by
    have h : ¬ rk.getD (ls.getD i default).f.toNat 0 < rk.getD (ls.getD i default).t.toNat 0 := h
    omega
   have ed : ∀ v : Nat, dnE rk (ls.take (i + 1)) v = dnE rk (ls.take i) v ++ (if v = (ls.getD i default).t.toNat then [((ls.getD i default).w, (ls.getD i default).f)] else []) := fun v => by
    rw [dnE_step rk ls i v hi']
    congr 1
    by_cases e : v = (ls.getD i default).t.toNat
    ·rw [if_pos e, if_pos ⟨by omega, by rw [show ((v : Nat) : Int).toNat = v from rfl, e]; exact hne⟩]
    ·rw [if_neg e, if_neg (fun h => e (by omega))]
   have eu : ∀ v : Nat, upE rk (ls.take (i + 1)) v = upE rk (ls.take i) v := fun v => by
    rw [upE_step rk ls i v hi', if_neg, List.append_nil]
    rintro ⟨h1, h2⟩
    rw [← h1] at h2; omega
   refine ⟨i + 1, (by show i + 1 ≤ ls.length; omega), (by show ls.length - (i + 1) < ls.length - i; omega), ?_⟩
   conv => whnf
   repeat (first | exact fa | ((first | refine fb ?_ | (refine And.intro ?_ ?_; rotate_left)); conv => whnf))
   ·exact fun v _ => tab_fit (E := dnE rk (ls.take i)) (E' := dnE rk (ls.take (i + 1))) (ls.getD i default).t.toNat ((ls.getD i default).w, (ls.getD i default).f) ed _ rfl v
   ·exact fun v _ => tab_same (E := upE rk (ls.take i)) (E' := upE rk (ls.take (i + 1))) v (eu v)
  ·have e : i = ls.length := by omega
   subst e
   rw [List.take_length]
   repeat (first | exact fa | ((first | refine fb ?_ | (refine And.intro ?_ ?_; rotate_left)); conv => whnf))
end Go.Proofs.YtnkbkfjgbejhfaaGreat
namespace Go.Proofs.YtnkbkfjgbejhfaaGreat
open Go.Proofs.YtnkbkfjgbejhfaaGreat.Am Go.HeapL
variable [Inhabited DRT]
variable {G : GInv}
theorem CB_of {n : Int} {st : List It} {lk : Int → List It} {D : List Int} {S : Sd} (h : Inv n st lk D S) : CB S := fun v => by
 cases e : S.c v with
 | none => show (0 : Int) ≤ 0 ∧ (0 : Int) < 4611686018427387904; omega
 | some k => have := h.rng v k e; unfold NC at this; show 0 ≤ k ∧ k < 4611686018427387904; omega
theorem TB_of {n : Nat} {sa sz : List It} {up dn : Int → List It} {Da Dz : List Int} {S Z : Sd} (hd : Dat n sa up) (ha : Inv n sa up Da S) (hz : Inv n sz dn Dz Z) (hn : n ≤ 100000)
  (ll : ∀ v, (up v).length ≤ 1000000 ∧ (dn v).length ≤ 1000000)
  (la : ∀ v i, i < (up v).length → 0 ≤ ((up v).getD i (0, 0)).1 ∧ ((up v).getD i (0, 0)).1 ≤ 1152921504606846976)
  (oa : ∀ v i, i < (dn v).length → 0 ≤ ((dn v).getD i (0, 0)).1 ∧ ((dn v).getD i (0, 0)).1 ≤ 1152921504606846976) : TB S Z n up dn where
 nd := ha.nd
 ln := by have := ha.lenL; omega
 cb := CB_of ha
 cz := CB_of hz
 ky := fun h0 => by
  have := ha.rng (gt S.L 0).2 (gt S.L 0).1 (ha.inL (gt S.L 0).1 (gt S.L 0).2 (mem_gt h0)).1
  unfold NC at this
  exact ⟨⟨this.2.2.1, this.2.2.2⟩, this.1, this.2.1⟩
 tk := by have h1 := ha.tk; have h2 := ha.len; omega
 ll := ll
 la := la
 oa := oa
 rl := fun h0 i => by
  obtain ⟨p1, p2, p3, p4⟩ := pop_inv ha h0
  have hr := ha.rng _ _ p2
  obtain ⟨r1, _⟩ := rlx_inv hd (List.mem_cons_self) hr.2.2.1 ((up (gt S.L 0).2).take i) (popd S) (fun x hx => List.mem_of_mem_take hx) p1 p2 p4
  exact ⟨r1.nd, by have := r1.lenL; omega⟩
def bst0 : Bst := ⟨NC, -1⟩
def st0 (sa sz : List It) : St := ⟨begL sa Sd0, begL sz Sd0, bst0⟩
abbrev gLs (rk : List Int) (ls : List Lk) (q : Bool) (s : St) : List Blk := [.box 32 [intsA rk, lksA ls], .box 66 [.int .i64 0, .int .i64 0], .box 98 [tabA rk.length (upE rk ls), tabA rk.length (dnE rk ls)],
 .box 102 [.ref 4 0, .omap 7, .omap 8, tabA rk.length (upE rk ls), tabA rk.length (dnE rk ls), .int .i64 s.a.t, .bool q], .box 81 [.own 5, .omap 6], .row 41 2 s.a.L.length (itR s.a.L), atB s.a.L, cB s.a, fB s.a,
 .box 102 [.ref 10 0, .omap 13, .omap 14, tabA rk.length (dnE rk ls), tabA rk.length (upE rk ls), .int .i64 s.z.t, .bool q], .box 81 [.own 11, .omap 12], .row 41 2 s.z.L.length (itR s.z.L), atB s.z.L, cB s.z, fB s.z,
 .box 66 [.int .i64 s.b.cost, .int .i64 s.b.pt]]
/-- A side that is read only. -/
abbrev sideA (S : Sd) (N : Nat) (lk ok : Int → List It) (q : Bool) : A := .bref [.bref [.sl S.L.length 2 (itR S.L), .mv false [.int .i64] (atH S.L) (atV S.L)] 0, .mv false [.int .i64] (cH S) (cV S), .mv false [.int .i64] (cH S) (fV S), tabA N lk, tabA N ok, .int .i64 S.t, .bool q] 0
abbrev srA (rk : List Int) (ls : List Lk) (q : Bool) (s : St) : A := .tup [sideA s.a rk.length (upE rk ls) (dnE rk ls) q, sideA s.z rk.length (dnE rk ls) (upE rk ls) q, .agg [.int .i64 s.b.cost, .int .i64 s.b.pt]]
theorem search_c (rk : List Int) (ls : List Lk) (sa sz : List It) (q : Bool) (N : Nat) (hl : ls.length ≤ 1000000) (hr : rk.length ≤ 1000000) (hR : RanksP rk) (hS : SortedP rk.length ls)
  (hla : sa.length ≤ 1000) (hlz : sz.length ≤ 1000)
  (hka : ∀ i, i ≤ sa.length → Nd (begL (sa.take i) Sd0).L ∧ (begL (sa.take i) Sd0).L.length ≤ 100000) (hkz : ∀ i, i ≤ sz.length → Nd (begL (sz.take i) Sd0).L ∧ (begL (sz.take i) Sd0).L.length ≤ 100000)
  (hN1 : ∀ j, j < N → fin q (upE rk ls) (dnE rk ls) (itr q (upE rk ls) (dnE rk ls) (st0 sa sz) j) = false) (hN2 : fin q (upE rk ls) (dnE rk ls) (itr q (upE rk ls) (dnE rk ls) (st0 sa sz) N) = true)
  (hT : ∀ i, TB (itr q (upE rk ls) (dnE rk ls) (st0 sa sz) i).a (itr q (upE rk ls) (dnE rk ls) (st0 sa sz) i).z rk.length (upE rk ls) (dnE rk ls) ∧
   TB (hlf q (upE rk ls) (dnE rk ls) (itr q (upE rk ls) (dnE rk ls) (st0 sa sz) i)).z (hlf q (upE rk ls) (dnE rk ls) (itr q (upE rk ls) (dnE rk ls) (st0 sa sz) i)).a rk.length (dnE rk ls) (upE rk ls)) :
  ACalls Tryz.prog G 24 [.agg [intsA rk, lksA ls], .sl sa.length 2 (itR sa), .sl sz.length 2 (itR sz), .bool q] (srA rk ls q (itr q (upE rk ls) (dnE rk ls) (st0 sa sz) N)) := by
 have h1 := tabled_c (G := G) rk ls hl hr hR hS
 have h2 := rbegin_c (G := G) sa rk.length (upE rk ls) (dnE rk ls) hla hka
 have h3 := rbegin_c (G := G) sz rk.length (dnE rk ls) (upE rk ls) hlz hkz
 refine ACalls.of_WA ttok Tryz.func24 rfl rfl _ rfl ?_
 conv => whnf
 repeat' (first | (refine WA_drawR (id := 2) [(5,6),(11,6)] ttok mixed ?_; conv => whnf) | refine sq ?_ | refine bk ?_ | ((first | refine rg ttok ?_ | refine dw ttok mixed ?_ | refine cd ?_ | refine sk ?_ | refine xt ?_ | refine rt ?_); conv => whnf) | (refine And.intro (fun h => ?_) (fun h => ?_) <;> (try simp only [brsA] at h) <;> conv => whnf) | (refine Or.inl ?_; (conv => whnf); refine ⟨_, h1, ?_⟩; conv => whnf) | ((first | refine Or.inr (Or.inr (Or.inr ?_)) | refine Or.inr ?_); (conv => whnf); (first | refine ⟨_, _, h2, ?_⟩ | refine ⟨_, _, h3, ?_⟩); conv => whnf) | ((first | refine wf ?_ | refine wp' ?_ | refine ai ?_ | refine And.intro rfl ?_ | refine an ?_ | fail); conv => whnf))
 refine WA_loopI (ι := Nat × St) (fun x => x.1 ≤ N ∧ x.2 = itr q (upE rk ls) (dnE rk ls) (st0 sa sz) x.1) (fun x => match x with | (_, _) => []) (fun x => match x with | (_, s) => gLs rk ls q s) (fun x => N - x.1) (0, st0 sa sz) ⟨Nat.zero_le _, rfl⟩ ?_ ?_
 ·conv => whnf
  repeat (first | exact fa | ((first | refine fb ?_ | (refine And.intro ?_ ?_; rotate_left)); conv => whnf))
 ·rintro ⟨i, s⟩ ⟨hi, hs⟩
  have hi : i ≤ N := hi
  have hs : s = itr q (upE rk ls) (dnE rk ls) (st0 sa sz) i := hs
  obtain ⟨hT1, hT2⟩ := hT i
  have hf1 := hN1 i
  have hf2 : N ≤ i → fin q (upE rk ls) (dnE rk ls) s = true := fun h => by rw [hs, show i = N by omega]; exact hN2
  have hend : N ≤ i → itr q (upE rk ls) (dnE rk ls) (st0 sa sz) N = s := fun h => by rw [hs, show i = N by omega]
  have hnx : rnd q (upE rk ls) (dnE rk ls) s = itr q (upE rk ls) (dnE rk ls) (st0 sa sz) (i + 1) := by rw [hs]; rfl
  rw [← hs] at hT1 hT2 hf1
  have t1 := turn_c (G := G) s rk.length (upE rk ls) (dnE rk ls) q hT1
  have t2 := turn_c (G := G) (hlf q (upE rk ls) (dnE rk ls) s).sw rk.length (dnE rk ls) (upE rk ls) q hT2
  cases o1 : okT s.a s.b <;> cases o2 : okT (hlf q (upE rk ls) (dnE rk ls) s).sw.a (hlf q (upE rk ls) (dnE rk ls) s).sw.b <;> rw [o1] at t1 <;> rw [o2] at t2
  ·have hf : fin q (upE rk ls) (dnE rk ls) s = true := by
    unfold fin
    rw [o1, show okT (hlf q (upE rk ls) (dnE rk ls) s).z (hlf q (upE rk ls) (dnE rk ls) s).b = false from o2]; rfl
   have hge : N ≤ i := Nat.le_of_not_lt fun h => by rw [hf1 h] at hf; cases hf
   rw [hend hge]
   have e1 : hlf q (upE rk ls) (dnE rk ls) s = s := hlf_id o1
   rw [e1] at t1 t2 o2
   have e2 : hlf q (dnE rk ls) (upE rk ls) s.sw = s.sw := hlf_id o2
   rw [e2] at t2
   conv => whnf
   repeat' (first | ((refine WA_region2 (id := 6) ttok 3 [5, 6, 4, 7, 8, 3, 11, 12, 10, 13, 14, 9] ?_; conv => whnf)) | refine sq ?_ | refine bk ?_ | ((first | refine rg ttok ?_ | refine dw ttok mixed ?_ | refine cd ?_ | refine sk ?_ | refine xt ?_ | refine rt ?_); conv => whnf) | (refine And.intro (fun h => ?_) (fun h => ?_) <;> (try simp only [brsA] at h) <;> conv => whnf) | (refine Or.inr (Or.inl ?_); (conv => whnf); (first | refine ⟨_, _, t1, ?_⟩ | refine ⟨_, _, t2, ?_⟩); conv => whnf) | ((first | refine wf ?_ | refine wp' ?_ | refine ai ?_ | refine And.intro rfl ?_ | refine an ?_ | fail); conv => whnf))
   all_goals rfl
  all_goals
   have hf : fin q (upE rk ls) (dnE rk ls) s = false := by
    unfold fin
    rw [o1, show okT (hlf q (upE rk ls) (dnE rk ls) s).z (hlf q (upE rk ls) (dnE rk ls) s).b = _ from o2]; rfl
   have hlt : i < N := Nat.lt_of_not_le fun h => by rw [hf2 h] at hf; cases hf
   conv => whnf
   repeat' (first | refine sq ?_ | refine bk ?_ | ((first | refine rg ttok ?_ | refine dw ttok mixed ?_ | refine cd ?_ | refine sk ?_ | refine xt ?_ | refine rt ?_); conv => whnf) | (refine And.intro (fun h => ?_) (fun h => ?_) <;> (try simp only [brsA] at h) <;> conv => whnf) | (refine Or.inr (Or.inl ?_); (conv => whnf); (first | refine ⟨_, _, t1, ?_⟩ | refine ⟨_, _, t2, ?_⟩); conv => whnf) | ((first | refine wf ?_ | refine wp' ?_ | refine ai ?_ | refine And.intro rfl ?_ | refine an ?_ | fail); conv => whnf))
   refine ⟨(i + 1, rnd q (upE rk ls) (dnE rk ls) s), ⟨(by show i + 1 ≤ N; omega), hnx⟩, (by show N - (i + 1) < N - i; omega), ?_⟩
   conv => whnf
   repeat (first | exact fa | ((first | refine fb ?_ | (refine And.intro ?_ ?_; rotate_left)); conv => whnf))
end Go.Proofs.YtnkbkfjgbejhfaaGreat

/-
  Lines checked and sorted by their boxes; the pairs of lines that are not apart.
-/
import Derived.Test.YtcomiiakkhafpaaGreatMeet3
import Derived.Test.YtcomiiakkhafpaaGreatAm6
import Derived.Test.YtcomiiakkhafpaaGreatAm4
import Derived.Test.YtcomiiakkhafpaaGreatAm5
import Derived.Test.YtcomiiakkhafpaaGreatMeet1
set_option linter.unusedSimpArgs false
set_option linter.unusedSectionVars false
namespace Go.Proofs.YtcomiiakkhafpaaGreat
open Go.Proofs.YtcomiiakkhafpaaGreat.Am Go.Sort Go.Proofs
variable [Inhabited DRT]
variable {G : GInv}
/-! ### Lines, checked -/
def rowS (l : List Sg) : Nat → List A := fun i => [.int .i64 (l.getD i default).a.x, .int .i64 (l.getD i default).a.y, .int .i64 (l.getD i default).b.x, .int .i64 (l.getD i default).b.y]
def sgsA (l : List Sg) : A := .sl l.length 4 (rowS l)
theorem nline_c (s : Sg) : ACalls Tryz.prog G 154 [.agg (sgA s)] (.sb (!decide (LineS s))) := by
 refine ACalls.of_WA ttok Tryz.func154 rfl rfl _ rfl ?_
 conv => whnf
 repeat' (first | refine sq ?_ | refine bk ?_ | ((first | refine rg ttok ?_ | refine dw ttok mixed ?_ | refine cd ?_ | refine sk ?_ | refine xt ?_ | refine rt ?_); conv => whnf) | (refine And.intro (fun h => ?_) (fun h => ?_) <;> (try simp only [brsA] at h) <;> conv => whnf) | ((first | refine Or.inl ?_ | skip); (conv => whnf); refine ⟨_, pline_c s, ?_⟩; conv => whnf) | ((first | refine wf ?_ | refine wp' ?_ | refine ai ?_ | refine And.intro rfl ?_ | refine an ?_); conv => whnf))
def notLine (l : List Sg) (i : Nat) : Bool := !decide (LineS (l.getD i default))
theorem indexS_c (l : List Sg) (hl : l.length ≤ 1000000) : ACalls Tryz.prog G 185 [sgsA l, .fn 154 []] (.int .i64 (fstAt (notLine l) l.length 0)) := by
 refine ACalls.of_WA ttok Tryz.func185 rfl rfl _ rfl ?_
 conv => whnf
 repeat' (first | refine sq ?_ | refine bk ?_ | ((first | refine rg ttok ?_ | refine dw ttok mixed ?_ | refine cd ?_ | refine sk ?_ | refine xt ?_ | refine rt ?_); conv => whnf) | (refine And.intro (fun h => ?_) (fun h => ?_) <;> (try simp only [brsA] at h) <;> conv => whnf) | ((first | refine wf ?_ | refine wp' ?_ | refine ai ?_ | refine And.intro rfl ?_ | refine an ?_); conv => whnf))
 refine WA_loopI (fun i : Nat => i ≤ l.length ∧ fstAt (notLine l) l.length 0 = fstAt (notLine l) (l.length - i) i) (fun i => [(8, .int .i64 (i : Int))]) (fun _ => []) (fun i => l.length - i) 0 ⟨by omega, rfl⟩ ?_ ?_
 ·conv => whnf
  repeat (first | exact fa | ((first | refine fb ?_ | (refine And.intro ?_ ?_; rotate_left)); conv => whnf))
 ·rintro i ⟨hi, he⟩
  have hc := nline_c (G := G) (l.getD i default)
  conv => whnf
  repeat' (first | refine sq ?_ | refine bk ?_ | ((first | refine rg ttok ?_ | refine dw ttok mixed ?_ | refine cd ?_ | refine sk ?_ | refine xt ?_ | refine rt ?_); conv => whnf) | (refine And.intro (fun h => ?_) (fun h => ?_) <;> (try simp only [brsA] at h) <;> conv => whnf) | ((first | refine Or.inl ?_ | skip); (conv => whnf); refine ⟨_, hc, ?_⟩; conv => whnf) | ((first | refine wf ?_ | refine wp' ?_ | refine ai ?_ | refine And.intro rfl ?_ | refine an ?_); conv => whnf))
  ·rw [he, fstAt_step _ (show i < l.length by omega), if_pos (show notLine l i = true by unfold notLine; rw [decide_eq_false h]; rfl)]
  ·refine ⟨i + 1, ⟨by omega, by rw [he, fstAt_step _ (show i < l.length by omega), if_neg (by unfold notLine; rw [decide_eq_true h]; exact Bool.noConfusion)]⟩, (by show l.length - (i + 1) < l.length - i; omega), ?_⟩
   conv => whnf
   repeat (first | exact fa | ((first | refine fb ?_ | (refine And.intro ?_ ?_; rotate_left)); conv => whnf))
  ·rw [he, show l.length - i = 0 by omega]; rfl
theorem containsS_c (l : List Sg) (hl : l.length ≤ 1000000) : ACalls Tryz.prog G 153 [sgsA l, .fn 154 []] (.sb (decide (0 ≤ fstAt (notLine l) l.length 0))) := by
 refine ACalls.of_WA ttok Tryz.func153 rfl rfl _ rfl ?_
 conv => whnf
 repeat' (first | refine sq ?_ | refine bk ?_ | ((first | refine rg ttok ?_ | refine dw ttok mixed ?_ | refine cd ?_ | refine sk ?_ | refine xt ?_ | refine rt ?_); conv => whnf) | (refine And.intro (fun h => ?_) (fun h => ?_) <;> (try simp only [brsA] at h) <;> conv => whnf) | ((first | refine Or.inl ?_ | skip); (conv => whnf); refine ⟨_, indexS_c l hl, ?_⟩; conv => whnf) | ((first | refine wf ?_ | refine wp' ?_ | refine ai ?_ | refine And.intro rfl ?_ | refine an ?_); conv => whnf))
def OkS (l : List Sg) : Prop := ∀ i, i < l.length → LineS (l.getD i default)
instance (l : List Sg) : Decidable (OkS l) := inferInstanceAs (Decidable (∀ i, i < l.length → LineS (l.getD i default)))
theorem okS_fst (l : List Sg) : 0 ≤ fstAt (notLine l) l.length 0 ↔ ¬ OkS l := by
 rw [fstAt_nonneg]
 constructor
 ·rintro ⟨j, _, h2, h3⟩ h
  have := h j (by omega)
  unfold notLine at h3
  rw [decide_eq_true this] at h3
  exact Bool.noConfusion h3
 ·intro h
  by_cases hx : ∃ j, 0 ≤ j ∧ j < 0 + l.length ∧ notLine l j = true
  ·exact hx
  ·refine absurd (fun i hi => ?_) h
   by_cases hL : LineS (l.getD i default)
   ·exact hL
   ·exact absurd ⟨i, Nat.zero_le _, by omega, by unfold notLine; rw [decide_eq_false hL]; rfl⟩ hx
def chk (l : List Sg) : Int := if 400 < l.length then 4 else if OkS l then 0 else 1
theorem check_c (l : List Sg) : ACalls Tryz.prog G 118 [sgsA l] (.int .i64 (chk l)) := by
 by_cases h400 : 400 < l.length
 ·have e : chk l = 4 := if_pos h400
  rw [e]
  refine ACalls.of_WA ttok Tryz.func118 rfl rfl _ rfl ?_
  conv => whnf
  repeat' (first | refine sq ?_ | refine bk ?_ | ((first | refine rg ttok ?_ | refine dw ttok mixed ?_ | refine cd ?_ | refine sk ?_ | refine xt ?_ | refine rt ?_); conv => whnf) | (refine And.intro (fun h => ?_) (fun h => ?_) <;> (try simp only [brsA] at h) <;> conv => whnf) | ((first | refine wf ?_ | refine wp' ?_ | refine ai ?_ | refine And.intro rfl ?_ | refine an ?_); conv => whnf))
  all_goals first | (exfalso; omega) | skip
 ·have hc := containsS_c (G := G) l (by omega)
  by_cases hk : OkS l
  ·have e : chk l = 0 := by unfold chk; rw [if_neg h400, if_pos hk]
   rw [decide_eq_false (fun h => (okS_fst l).1 h hk)] at hc
   rw [e]
   refine ACalls.of_WA ttok Tryz.func118 rfl rfl _ rfl ?_
   conv => whnf
   repeat' (first | refine sq ?_ | refine bk ?_ | ((first | refine rg ttok ?_ | refine dw ttok mixed ?_ | refine cd ?_ | refine sk ?_ | refine xt ?_ | refine rt ?_); conv => whnf) | (refine And.intro (fun h => ?_) (fun h => ?_) <;> (try simp only [brsA] at h) <;> conv => whnf) | ((first | refine Or.inl ?_ | skip); (conv => whnf); refine ⟨_, hc, ?_⟩; conv => whnf) | ((first | refine wf ?_ | refine wp' ?_ | refine ai ?_ | refine And.intro rfl ?_ | refine an ?_); conv => whnf))
   all_goals first | (exfalso; omega) | exact Bool.noConfusion h | skip
  ·have e : chk l = 1 := by unfold chk; rw [if_neg h400, if_neg hk]
   rw [decide_eq_true ((okS_fst l).2 hk)] at hc
   rw [e]
   refine ACalls.of_WA ttok Tryz.func118 rfl rfl _ rfl ?_
   conv => whnf
   repeat' (first | refine sq ?_ | refine bk ?_ | ((first | refine rg ttok ?_ | refine dw ttok mixed ?_ | refine cd ?_ | refine sk ?_ | refine xt ?_ | refine rt ?_); conv => whnf) | (refine And.intro (fun h => ?_) (fun h => ?_) <;> (try simp only [brsA] at h) <;> conv => whnf) | ((first | refine Or.inl ?_ | skip); (conv => whnf); refine ⟨_, hc, ?_⟩; conv => whnf) | ((first | refine wf ?_ | refine wp' ?_ | refine ai ?_ | refine And.intro rfl ?_ | refine an ?_); conv => whnf))
   all_goals first | (exfalso; omega) | exact Bool.noConfusion h | skip
theorem rcheck_c (l : List Sg) : ACalls Tryz.prog G 31 [sgsA l] (.int .i64 (chk l)) := by
 by_cases h400 : 400 < l.length
 ·have e : chk l = 4 := if_pos h400
  rw [e]
  refine ACalls.of_WA ttok Tryz.func31 rfl rfl _ rfl ?_
  conv => whnf
  repeat' (first | refine sq ?_ | refine bk ?_ | ((first | refine rg ttok ?_ | refine dw ttok mixed ?_ | refine cd ?_ | refine sk ?_ | refine xt ?_ | refine rt ?_); conv => whnf) | (refine And.intro (fun h => ?_) (fun h => ?_) <;> (try simp only [brsA] at h) <;> conv => whnf) | ((first | refine wf ?_ | refine wp' ?_ | refine ai ?_ | refine And.intro rfl ?_ | refine an ?_); conv => whnf))
  all_goals first | (exfalso; omega) | skip
 ·have e : chk l = if OkS l then 0 else 1 := if_neg h400
  rw [e]
  refine ACalls.of_WA ttok Tryz.func31 rfl rfl _ rfl ?_
  conv => whnf
  repeat' (first | refine sq ?_ | refine bk ?_ | ((first | refine rg ttok ?_ | refine dw ttok mixed ?_ | refine cd ?_ | refine sk ?_ | refine xt ?_ | refine rt ?_); conv => whnf) | (refine And.intro (fun h => ?_) (fun h => ?_) <;> (try simp only [brsA] at h) <;> conv => whnf) | ((first | refine wf ?_ | refine wp' ?_ | refine ai ?_ | refine And.intro rfl ?_ | refine an ?_); conv => whnf))
  all_goals first | (exfalso; omega) | skip
  refine WA_loopI (fun i : Nat => i ≤ l.length ∧ ∀ j, j < i → LineS (l.getD j default)) (fun i => [(3, .int .i64 (i : Int))]) (fun _ => []) (fun i => l.length - i) 0 ⟨by omega, fun _ h => absurd h (Nat.not_lt_zero _)⟩ ?_ ?_
  ·conv => whnf
   repeat (first | exact fa | ((first | refine fb ?_ | (refine And.intro ?_ ?_; rotate_left)); conv => whnf))
  ·rintro i ⟨hi, he⟩
   have hc := rline_c (G := G) (l.getD i default)
   conv => whnf
   repeat' (first | refine sq ?_ | refine bk ?_ | ((first | refine rg ttok ?_ | refine dw ttok mixed ?_ | refine cd ?_ | refine sk ?_ | refine xt ?_ | refine rt ?_); conv => whnf) | (refine And.intro (fun h => ?_) (fun h => ?_) <;> (try simp only [brsA] at h) <;> conv => whnf) | ((first | refine Or.inl ?_ | skip); (conv => whnf); refine ⟨_, hc, ?_⟩; conv => whnf) | ((first | refine wf ?_ | refine wp' ?_ | refine ai ?_ | refine And.intro rfl ?_ | refine an ?_); conv => whnf))
   ·rw [if_neg (fun hk : OkS l => h (hk i (by omega)))]
   ·have hj : ∀ j, j < i + 1 → LineS (l.getD j default) := fun j hj => by
     rcases Nat.lt_or_eq_of_le (Nat.le_of_lt_succ hj) with q | q
     ·exact he j q
     ·rw [q]; exact h
    refine ⟨i + 1, ⟨by omega, hj⟩, (by show l.length - (i + 1) < l.length - i; omega), ?_⟩
    conv => whnf
    repeat (first | exact fa | ((first | refine fb ?_ | (refine And.intro ?_ ?_; rotate_left)); conv => whnf))
   ·rw [if_pos (show OkS l from fun j hj => he j (by omega))]
/-! ### The boxes, sorted -/
structure Bx where
 lo : Pt
 hi : Pt
 at' : Int
 deriving Inhabited, DecidableEq
def bxA (b : Bx) : List A := [.int .i64 b.lo.x, .int .i64 b.lo.y, .int .i64 b.hi.x, .int .i64 b.hi.y, .int .i64 b.at']
def eBx (b : Bx) : List Int := [b.lo.x, b.lo.y, b.hi.x, b.hi.y, b.at']
def cfB (a b : Bx) : Int := firstNZ [cmpI a.lo.x b.lo.x, cmpI a.at' b.at']
set_option maxRecDepth 100000 in
theorem cloB_c (a b : Bx) : ACalls Tryz.prog G 156 [.agg (bxA a), .agg (bxA b)] (.int .i64 (cfB a b)) := by
 refine ACalls.of_WA ttok Tryz.func156 rfl rfl _ rfl ?_
 conv => whnf
 repeat' (first | refine sq ?_ | refine bk ?_ | ((first | refine rg ttok ?_ | refine dw ttok mixed ?_ | refine cd ?_ | refine sk ?_ | refine xt ?_ | refine rt ?_); conv => whnf) | (refine And.intro (fun h => ?_) (fun h => ?_) <;> (try simp only [brsA] at h) <;> conv => whnf) | ((first | refine wf ?_ | refine wp' ?_ | refine ai ?_ | refine And.intro rfl ?_ | refine an ?_); conv => whnf))
 repeat' (first | refine sq ?_ | refine bk ?_ | ((first | refine rg ttok ?_ | refine dw ttok mixed ?_ | refine cd ?_ | refine sk ?_ | refine xt ?_ | refine rt ?_); conv => whnf) | (refine And.intro (fun h => ?_) (fun h => ?_) <;> (try simp only [brsA] at h) <;> conv => whnf) | ((first | refine Or.inl ?_ | skip); (conv => whnf); refine ⟨_, compare_c _ _, ?_⟩; conv => whnf) | ((first | refine wf ?_ | refine wp' ?_ | refine ai ?_ | refine And.intro rfl ?_ | refine an ?_); conv => whnf))
 refine Or.inl ?_
 conv => whnf
 refine ⟨_, (or_c [cmpI a.lo.x b.lo.x, cmpI a.at' b.at'] (by simp)).fit ?_, rfl, ?_⟩
 ·conv => whnf
  refine ⟨rfl, Or.inl fun i hi => ?_⟩
  match i, hi with
  | 0, _ => rfl
  | 1, _ => rfl
 ·conv => whnf
  repeat' (first | refine sq ?_ | refine bk ?_ | ((first | refine rg ttok ?_ | refine dw ttok mixed ?_ | refine cd ?_ | refine sk ?_ | refine xt ?_ | refine rt ?_); conv => whnf) | (refine And.intro (fun h => ?_) (fun h => ?_) <;> (try simp only [brsA] at h) <;> conv => whnf) | ((first | refine wf ?_ | refine wp' ?_ | refine ai ?_ | refine And.intro rfl ?_ | refine an ?_); conv => whnf))
  rfl
theorem swo_bx : SWO (ltOf cfB) := by
 have e : ∀ a b, ltOf cfB a b = true ↔ (a.lo.x < b.lo.x ∨ (a.lo.x = b.lo.x ∧ a.at' < b.at')) := fun a b => by
  unfold ltOf cfB
  rw [decide_eq_true_iff]
  simp only [firstNZ, cmpI]
  split <;> (try split) <;> (try split) <;> (try split) <;> omega
 have e' : ∀ a b, ltOf cfB a b = false ↔ ¬ (a.lo.x < b.lo.x ∨ (a.lo.x = b.lo.x ∧ a.at' < b.at')) := fun a b => by
  rw [← e]; simp
 refine ⟨fun x => ?_, fun x y z h1 h2 => ?_, fun x y z h1 h2 => ?_⟩
 ·rw [e']; omega
 ·rw [e] at *; omega
 ·rw [e'] at *; omega
end Go.Proofs.YtcomiiakkhafpaaGreat
namespace Go.Proofs.YtcomiiakkhafpaaGreat
open Go.Proofs.YtcomiiakkhafpaaGreat.Am Go.Sort Go.Proofs
variable [Inhabited DRT]
variable {G : GInv}
theorem sortBx_c (hns : ¬ (default : DRT).ns) (l : List Bx) (hl : l.length ≤ 1000000) (h0 : 0 < l.length) :
  MCalls Tryz.prog G 155 [.own 1, .fn 156 []] [.ghost [.own 1, .junk, .junk], .row 156 5 l.length (rowE eBx l)] (.tup []) [.ghost [.own 1, .junk, .junk], .row 156 5 l.length (rowE eBx (srt cfB l))] := by
 exact MCalls.sortFunc hns (ρ := Tryz.laySortBox_ren) Tryz.laySortBox 5 (by omega) (fun w => by kernel_rfl) (fun w => by kernel_rfl) eBx (fun _ => rfl) cfB swo_bx 156 [] rfl
  (fun x y => cloB_c (G := G) x y) ⟨_, _, Tryz.func155, rfl, rfl⟩ 156 l hl h0
def bx1 (l : List Sg) (i : Nat) : Bx := ⟨lowS (l.getD i default), highS (l.getD i default), i⟩
def bxK (l : List Sg) (k : Nat) : List Bx := (List.range k).map (bx1 l)
theorem bxK_len (l : List Sg) (k : Nat) : (bxK l k).length = k := by simp [bxK]
theorem bxK_succ (l : List Sg) (k : Nat) : bxK l (k + 1) = bxK l k ++ [bx1 l k] := by
 simp [bxK, List.range_succ]
theorem rowCat_bx (L : List Bx) (x : Bx) (r : Nat → List A) (hr : r 0 = bxA x) (i : Nat) (hi : i < L.length + 1) : rowCat L.length (rowE eBx L) r i = rowE eBx (L ++ [x]) i := by
 unfold rowCat
 split
 ·rename_i h
  have h : i < L.length := Nat.le_of_ble_eq_true h
  simp only [rowE, List.getD_eq_getElem?_getD, List.getElem?_append_left h]
 ·rename_i h
  have h : ¬ i < L.length := fun h' => by rw [show Nat.blt i L.length = true from Nat.ble_eq_true_of_le h'] at h; cases h
  have : i = L.length := by omega
  subst this
  simp [hr, rowE, List.getD_eq_getElem?_getD]
  rfl
set_option maxRecDepth 100000 in
set_option maxHeartbeats 2000000 in
theorem boxes_c (hns : ¬ (default : DRT).ns) (l : List Sg) (hl : l.length ≤ 400) (h0 : 0 < l.length) (hk : OkS l) : ACalls Tryz.prog G 119 [sgsA l] (.sl l.length 5 (rowE eBx (srt cfB (bxK l l.length)))) := by
 refine ACalls.of_WA ttok Tryz.func119 rfl rfl _ rfl ?_
 conv => whnf
 repeat (first | refine sq ?_ | refine bk ?_ | ((first | refine rg ttok ?_ | refine dw ttok mixed ?_ | refine cd ?_ | refine sk ?_ | refine xt ?_ | refine rt ?_); conv => whnf))
 refine WA_nil 3 156 5 rfl ?_
 conv => whnf
 repeat (first | refine sq ?_ | refine bk ?_ | ((first | refine rg ttok ?_ | refine dw ttok mixed ?_ | refine cd ?_ | refine sk ?_ | refine xt ?_ | refine rt ?_); conv => whnf))
 refine WA_loopI (fun k : Nat => k ≤ l.length) (fun k => [(10, .int .i64 (k : Int)), (3, .own 0)]) (fun k => [.row 156 5 (bxK l k).length (rowE eBx (bxK l k))]) (fun k => l.length - k) 0 (by omega) ?_ ?_
 ·conv => whnf
  repeat (first | exact fa | ((first | refine fb ?_ | (refine And.intro ?_ ?_; rotate_left)); conv => whnf))
 ·intro k hkl
  have hbl := bxK_len l k
  conv => whnf
  repeat (first | refine sq ?_ | refine bk ?_ | ((first | refine rg ttok ?_ | refine dw ttok mixed ?_ | refine cd ?_ | refine sk ?_ | refine xt ?_ | refine rt ?_); conv => whnf))
  refine ⟨fun h => ?_, fun h => ?_⟩
  ·have h := of_decide_eq_true h
   have hbc := box_c (G := G) (l.getD k default) (hk k (by omega))
   conv => whnf
   repeat' (first | refine sq ?_ | refine bk ?_ | ((first | refine rg ttok ?_ | refine dw ttok mixed ?_ | refine cd ?_ | refine sk ?_ | refine xt ?_ | refine rt ?_); conv => whnf) | (refine And.intro (fun h => ?_) (fun h => ?_) <;> (try simp only [brsA] at h) <;> conv => whnf) | ((first | refine Or.inl ?_ | skip); (conv => whnf); refine ⟨_, hbc, ?_⟩; conv => whnf) | ((first | refine wf ?_ | refine wp' ?_ | refine ai ?_ | refine And.intro rfl ?_ | refine an ?_); conv => whnf))
   refine ⟨k + 1, (by show k + 1 ≤ l.length; omega), (by show l.length - (k + 1) < l.length - k; omega), ?_⟩
   conv => whnf
   repeat (first | exact fa | ((first | refine fb ?_ | (refine And.intro ?_ ?_; rotate_left)); conv => whnf))
   ·refine Or.inl fun i hi => ?_
    rw [bxK_succ]
    exact rowCat_bx (bxK l k) (bx1 l k) _ rfl i hi
   ·rw [bxK_len, bxK_len]
  ·have h := of_decide_eq_false h
   have hk4 : k = l.length := by omega
   subst hk4
   conv => whnf
   have hs := sortBx_c (G := G) hns (bxK l l.length) (by omega) (by omega)
   repeat' (first | refine sq ?_ | refine bk ?_ | ((first | refine rg ttok ?_ | refine dw ttok mixed ?_ | refine cd ?_ | refine sk ?_ | refine xt ?_ | refine rt ?_); conv => whnf) | (refine And.intro (fun h => ?_) (fun h => ?_) <;> (try simp only [brsA] at h) <;> conv => whnf) | (refine Or.inr (Or.inl ?_); (conv => whnf); refine ⟨_, _, hs, ?_⟩; conv => whnf) | ((first | refine wf ?_ | refine wp' ?_ | refine ai ?_ | refine And.intro rfl ?_ | refine an ?_); conv => whnf))
   exact Or.inl fun _ _ => rfl
theorem chk_ok {l : List Sg} (h : chk l = 0) : l.length ≤ 400 ∧ OkS l := by
 unfold chk at h
 split at h
 ·omega
 ·split at h
  ·exact ⟨by omega, by assumption⟩
  ·omega
end Go.Proofs.YtcomiiakkhafpaaGreat
namespace Go.Proofs.YtcomiiakkhafpaaGreat
open Go.Proofs.YtcomiiakkhafpaaGreat.Am
variable [Inhabited DRT]
variable {G : GInv}
set_option maxRecDepth 100000 in
theorem lenz64_0 : ACalls Tryz.prog G 148 [.int .u64 0] (.int .i64 0) := by
 refine ACalls.of_WA ttok Tryz.func148 rfl rfl _ rfl ?_
 conv => whnf
 repeat' (first | refine sq ?_ | refine bk ?_ | ((first | refine rg ttok ?_ | refine dw ttok mixed ?_ | refine cd ?_ | refine sk ?_ | refine xt ?_ | refine rt ?_); conv => whnf) | (refine And.intro (fun h => ?_) (fun h => ?_) <;> (try simp only [brsA] at h) <;> conv => whnf) | ((first | refine wf ?_ | refine wp' ?_ | refine ai ?_ | refine And.intro rfl ?_ | refine an ?_); conv => whnf))
 all_goals first | (exfalso; omega) | skip
 all_goals first | decide | rfl
theorem lenz_0 : ACalls Tryz.prog G 131 [.int .u64 0] (.int .i64 0) := by
 refine ACalls.of_WA ttok Tryz.func131 rfl rfl _ rfl ?_
 conv => whnf
 repeat' (first | refine sq ?_ | refine bk ?_ | ((first | refine rg ttok ?_ | refine dw ttok mixed ?_ | refine cd ?_ | refine sk ?_ | refine xt ?_ | refine rt ?_); conv => whnf) | (refine And.intro (fun h => ?_) (fun h => ?_) <;> (try simp only [brsA] at h) <;> conv => whnf) | ((first | refine Or.inl ?_ | skip); (conv => whnf); refine ⟨_, lenz64_0, ?_⟩; conv => whnf) | ((first | refine wf ?_ | refine wp' ?_ | refine ai ?_ | refine And.intro rfl ?_ | refine an ?_); conv => whnf))
 all_goals first | (exfalso; omega) | skip
theorem insBx_0 (row : Nat → List A) : ACalls Tryz.prog G 222 [.sl 0 5 row, .int .i64 0, .int .i64 0, .fn 156 []] (.tup []) := by
 refine ACalls.of_WA ttok Tryz.func222 rfl rfl _ rfl ?_
 conv => whnf
 repeat' (first | refine sq ?_ | refine bk ?_ | ((first | refine rg ttok ?_ | refine dw ttok mixed ?_ | refine cd ?_ | refine sk ?_ | refine xt ?_ | refine rt ?_); conv => whnf) | (refine And.intro (fun h => ?_) (fun h => ?_) <;> (try simp only [brsA] at h) <;> conv => whnf) | ((first | refine wf ?_ | refine wp' ?_ | refine ai ?_ | refine And.intro rfl ?_ | refine an ?_); conv => whnf))
 refine WA_loopI (fun _ : Nat => True) (fun _ => [(8, .int .i64 1)]) (fun _ => []) (fun _ => 0) 0 trivial ?_ ?_
 ·conv => whnf
  repeat (first | exact fa | ((first | refine fb ?_ | (refine And.intro ?_ ?_; rotate_left)); conv => whnf))
 ·intro i _
  conv => whnf
  repeat' (first | refine sq ?_ | refine bk ?_ | ((first | refine rg ttok ?_ | refine dw ttok mixed ?_ | refine cd ?_ | refine sk ?_ | refine xt ?_ | refine rt ?_); conv => whnf) | (refine And.intro (fun h => ?_) (fun h => ?_) <;> (try simp only [brsA] at h) <;> conv => whnf) | ((first | refine wf ?_ | refine wp' ?_ | refine ai ?_ | refine And.intro rfl ?_ | refine an ?_); conv => whnf))
  all_goals first | trivial | (exfalso; omega)
set_option maxRecDepth 100000 in
theorem pdqBx_0 (row : Nat → List A) : ACalls Tryz.prog G 186 [.sl 0 5 row, .int .i64 0, .int .i64 0, .int .i64 0, .fn 156 []] (.tup []) := by
 refine ACalls.of_WA ttok Tryz.func186 rfl rfl _ rfl ?_
 conv => whnf
 repeat (first | refine sq ?_ | refine bk ?_ | ((first | refine rg ttok ?_ | refine dw ttok mixed ?_ | refine cd ?_ | refine sk ?_ | refine xt ?_ | refine rt ?_); conv => whnf))
 refine WA_loopI (fun _ : Nat => True) (fun _ => [(1, .int .i64 0), (2, .int .i64 0), (3, .int .i64 0)]) (fun _ => []) (fun _ => 0) 0 trivial ?_ ?_
 ·conv => whnf
  repeat (first | exact fa | ((first | refine fb ?_ | (refine And.intro ?_ ?_; rotate_left)); conv => whnf))
 ·intro i _
  have hi := insBx_0 (G := G) row
  conv => whnf
  repeat' (first | refine sq ?_ | refine bk ?_ | ((first | refine rg ttok ?_ | refine dw ttok mixed ?_ | refine cd ?_ | refine sk ?_ | refine xt ?_ | refine rt ?_); conv => whnf) | (refine And.intro (fun h => ?_) (fun h => ?_) <;> (try simp only [brsA] at h) <;> conv => whnf) | ((first | refine Or.inl ?_ | skip); (conv => whnf); refine ⟨_, hi, ?_⟩; conv => whnf) | ((first | refine wf ?_ | refine wp' ?_ | refine ai ?_ | refine And.intro rfl ?_ | refine an ?_); conv => whnf))
  all_goals first | trivial | (exact absurd trivial h) | (exact absurd h (by decide)) | trace_state
set_option maxRecDepth 100000 in
theorem sortBx_0 (row : Nat → List A) : ACalls Tryz.prog G 155 [.sl 0 5 row, .fn 156 []] (.tup []) := by
 refine ACalls.of_WA ttok Tryz.func155 rfl rfl _ rfl ?_
 have hi := pdqBx_0 (G := G) row
 conv => whnf
 repeat' (first | refine sq ?_ | refine bk ?_ | ((first | refine rg ttok ?_ | refine dw ttok mixed ?_ | refine cd ?_ | refine sk ?_ | refine xt ?_ | refine rt ?_); conv => whnf) | (refine And.intro (fun h => ?_) (fun h => ?_) <;> (try simp only [brsA] at h) <;> conv => whnf) | ((first | refine Or.inl ?_ | skip); (conv => whnf); (first | refine ⟨_, lenz_0, ?_⟩ | refine ⟨_, hi, ?_⟩); conv => whnf) | ((first | refine wf ?_ | refine wp' ?_ | refine ai ?_ | refine And.intro rfl ?_ | refine an ?_); conv => whnf))
 all_goals trivial

theorem insPr_0 (row : Nat → List A) : ACalls Tryz.prog G 187 [.sl 0 2 row, .int .i64 0, .int .i64 0, .fn 122 []] (.tup []) := by
 refine ACalls.of_WA ttok Tryz.func187 rfl rfl _ rfl ?_
 conv => whnf
 repeat' (first | refine sq ?_ | refine bk ?_ | ((first | refine rg ttok ?_ | refine dw ttok mixed ?_ | refine cd ?_ | refine sk ?_ | refine xt ?_ | refine rt ?_); conv => whnf) | (refine And.intro (fun h => ?_) (fun h => ?_) <;> (try simp only [brsA] at h) <;> conv => whnf) | ((first | refine wf ?_ | refine wp' ?_ | refine ai ?_ | refine And.intro rfl ?_ | refine an ?_); conv => whnf))
 refine WA_loopI (fun _ : Nat => True) (fun _ => [(8, .int .i64 1)]) (fun _ => []) (fun _ => 0) 0 trivial ?_ ?_
 ·conv => whnf
  repeat (first | exact fa | ((first | refine fb ?_ | (refine And.intro ?_ ?_; rotate_left)); conv => whnf))
 ·intro i _
  conv => whnf
  repeat' (first | refine sq ?_ | refine bk ?_ | ((first | refine rg ttok ?_ | refine dw ttok mixed ?_ | refine cd ?_ | refine sk ?_ | refine xt ?_ | refine rt ?_); conv => whnf) | (refine And.intro (fun h => ?_) (fun h => ?_) <;> (try simp only [brsA] at h) <;> conv => whnf) | ((first | refine wf ?_ | refine wp' ?_ | refine ai ?_ | refine And.intro rfl ?_ | refine an ?_); conv => whnf))
  all_goals first | trivial | (exfalso; omega)
set_option maxRecDepth 100000 in
theorem pdqPr_0 (row : Nat → List A) : ACalls Tryz.prog G 157 [.sl 0 2 row, .int .i64 0, .int .i64 0, .int .i64 0, .fn 122 []] (.tup []) := by
 refine ACalls.of_WA ttok Tryz.func157 rfl rfl _ rfl ?_
 conv => whnf
 repeat (first | refine sq ?_ | refine bk ?_ | ((first | refine rg ttok ?_ | refine dw ttok mixed ?_ | refine cd ?_ | refine sk ?_ | refine xt ?_ | refine rt ?_); conv => whnf))
 refine WA_loopI (fun _ : Nat => True) (fun _ => [(1, .int .i64 0), (2, .int .i64 0), (3, .int .i64 0)]) (fun _ => []) (fun _ => 0) 0 trivial ?_ ?_
 ·conv => whnf
  repeat (first | exact fa | ((first | refine fb ?_ | (refine And.intro ?_ ?_; rotate_left)); conv => whnf))
 ·intro i _
  have hi := insPr_0 (G := G) row
  conv => whnf
  repeat' (first | refine sq ?_ | refine bk ?_ | ((first | refine rg ttok ?_ | refine dw ttok mixed ?_ | refine cd ?_ | refine sk ?_ | refine xt ?_ | refine rt ?_); conv => whnf) | (refine And.intro (fun h => ?_) (fun h => ?_) <;> (try simp only [brsA] at h) <;> conv => whnf) | ((first | refine Or.inl ?_ | skip); (conv => whnf); refine ⟨_, hi, ?_⟩; conv => whnf) | ((first | refine wf ?_ | refine wp' ?_ | refine ai ?_ | refine And.intro rfl ?_ | refine an ?_); conv => whnf))
  all_goals first | trivial | (exact absurd trivial h) | (exact absurd h (by decide)) | trace_state
set_option maxRecDepth 100000 in
theorem sortPr_0 (row : Nat → List A) : ACalls Tryz.prog G 121 [.sl 0 2 row, .fn 122 []] (.tup []) := by
 refine ACalls.of_WA ttok Tryz.func121 rfl rfl _ rfl ?_
 have hi := pdqPr_0 (G := G) row
 conv => whnf
 repeat' (first | refine sq ?_ | refine bk ?_ | ((first | refine rg ttok ?_ | refine dw ttok mixed ?_ | refine cd ?_ | refine sk ?_ | refine xt ?_ | refine rt ?_); conv => whnf) | (refine And.intro (fun h => ?_) (fun h => ?_) <;> (try simp only [brsA] at h) <;> conv => whnf) | ((first | refine Or.inl ?_ | skip); (conv => whnf); (first | refine ⟨_, lenz_0, ?_⟩ | refine ⟨_, hi, ?_⟩); conv => whnf) | ((first | refine wf ?_ | refine wp' ?_ | refine ai ?_ | refine And.intro rfl ?_ | refine an ?_); conv => whnf))
 all_goals trivial

end Go.Proofs.YtcomiiakkhafpaaGreat
namespace Go.Proofs.YtcomiiakkhafpaaGreat
open Go.Proofs.YtcomiiakkhafpaaGreat.Am Go.Sort Go.Proofs
variable [Inhabited DRT]
variable {G : GInv}
/-! ### The boxes, sorted: the plain law -/
def sB (l : List Sg) : List Bx := srt cfB (bxK l l.length)
theorem sB_len (l : List Sg) : (sB l).length = l.length := by unfold sB; rw [srt_len cfB swo_bx, bxK_len]
theorem bxK_mem {l : List Sg} {k : Nat} {b : Bx} : b ∈ bxK l k ↔ ∃ j, j < k ∧ bx1 l j = b := by simp [bxK]
theorem sB_mem {l : List Sg} {b : Bx} : b ∈ sB l ↔ ∃ j, j < l.length ∧ bx1 l j = b := by
 unfold sB
 rw [(srt_facts cfB swo_bx (bxK l l.length)).1.mem_iff, bxK_mem]
theorem bxK_nodup (l : List Sg) (k : Nat) : ((bxK l k).map (·.at')).Nodup := by
 have e : (bxK l k).map (·.at') = (List.range k).map (fun i : Nat => (i : Int)) := by
  unfold bxK; rw [List.map_map]; rfl
 rw [e]
 unfold List.Nodup
 rw [List.pairwise_map]
 exact (List.nodup_range (n := k)).imp (fun h e => h (Int.ofNat.inj e))
theorem nodup_getD {α : Type} [Inhabited α] {L : List α} (h : L.Nodup) {i k : Nat} (hi : i < L.length) (hk : k < L.length) (e : L.getD i default = L.getD k default) : i = k := by
 rw [List.getD_eq_getElem?_getD, List.getD_eq_getElem?_getD, List.getElem?_eq_getElem hi, List.getElem?_eq_getElem hk] at e
 simp only [Option.getD_some] at e
 have hp := List.pairwise_iff_getElem.1 h
 rcases Nat.lt_trichotomy i k with q | q | q
 ·exact absurd e (hp i k hi hk q)
 ·exact q
 ·exact absurd e.symm (hp k i hk hi q)
theorem sB_inj (l : List Sg) {i k : Nat} (hi : i < l.length) (hk : k < l.length) (e : ((sB l).getD i default).at' = ((sB l).getD k default).at') : i = k := by
 have hn : ((sB l).map (·.at')).Nodup := ((srt_facts cfB swo_bx (bxK l l.length)).1.map _).nodup_iff.2 (bxK_nodup l l.length)
 have hl := sB_len l
 have g : ∀ t, t < l.length → ((sB l).map (·.at')).getD t default = ((sB l).getD t default).at' := fun t ht => by
  simp [List.getD_eq_getElem?_getD, show t < (sB l).length by omega]
 exact nodup_getD hn (by simpa using by omega) (by simpa using by omega) (by rw [g i hi, g k hk]; exact e)
theorem sB_ord (l : List Sg) {i j : Nat} (hij : i < j) (hj : j < l.length) :
  ((sB l).getD i default).lo.x < ((sB l).getD j default).lo.x ∨ (((sB l).getD i default).lo.x = ((sB l).getD j default).lo.x ∧ ((sB l).getD i default).at' < ((sB l).getD j default).at') := by
 have h := (srt_facts cfB swo_bx (bxK l l.length)).2 i j hij (by rw [bxK_len]; exact hj)
 have hne : ((sB l).getD i default).at' ≠ ((sB l).getD j default).at' := fun e => by have := sB_inj l (by omega) hj e; omega
 unfold ltOf cfB at h
 have h := of_decide_eq_false h
 change ¬ (firstNZ [cmpI ((sB l).getD j default).lo.x ((sB l).getD i default).lo.x, cmpI ((sB l).getD j default).at' ((sB l).getD i default).at'] < 0) at h
 simp only [firstNZ, cmpI] at h
 revert h
 split <;> (try split) <;> (try split) <;> (try split) <;> omega
end Go.Proofs.YtcomiiakkhafpaaGreat
namespace Go.Proofs.YtcomiiakkhafpaaGreat
open Go.Proofs.YtcomiiakkhafpaaGreat.Am Go.Sort Go.Proofs
variable [Inhabited DRT]
variable {G : GInv}
/-! ### Pairs of places: the plain law -/
structure Pr where
 i : Int
 k : Int
 deriving Inhabited, DecidableEq
def ePr (p : Pr) : List Int := [p.i, p.k]
def prOf (a b : Bx) : Pr := ⟨min a.at' b.at', max a.at' b.at'⟩
def tst (a b : Bx) : Prop := b.lo.y ≤ a.hi.y ∧ a.lo.y ≤ b.hi.y
instance (a b : Bx) : Decidable (tst a b) := inferInstanceAs (Decidable (_ ∧ _))
def inL (a : Bx) : List Bx → List Pr
 | [] => []
 | b :: bs => if b.lo.x > a.hi.x then [] else (if tst a b then [prOf a b] else []) ++ inL a bs
def outL : List Bx → List Pr
 | [] => []
 | a :: rs => inL a rs ++ outL rs
theorem inL_len (a : Bx) : ∀ bs, (inL a bs).length ≤ bs.length
 | [] => by simp [inL]
 | b :: bs => by
  have := inL_len a bs
  unfold inL
  split
  ·simp
  ·split <;> simp <;> omega
theorem outL_len : ∀ S, (outL S).length ≤ S.length * S.length
 | [] => by simp [outL]
 | a :: rs => by
  have h1 := inL_len a rs
  have h2 := outL_len rs
  simp only [outL, List.length_append, List.length_cons, Nat.add_mul, Nat.mul_add]
  omega
def SoX (S : List Bx) : Prop := S.Pairwise fun a b => a.lo.x ≤ b.lo.x
def DiA (S : List Bx) : Prop := S.Pairwise fun a b => a.at' ≠ b.at'
theorem inL_mem (a : Bx) (p : Pr) : ∀ bs, SoX bs → (p ∈ inL a bs ↔ ∃ b, b ∈ bs ∧ b.lo.x ≤ a.hi.x ∧ tst a b ∧ p = prOf a b)
 | [], _ => by simp [inL]
 | b :: bs, h => by
  have hb := List.pairwise_cons.1 h
  unfold inL
  split
  ·rename_i q
   constructor
   ·intro h; cases h
   ·rintro ⟨c, hc, h1, _⟩
    rcases List.mem_cons.1 hc with rfl | hc
    ·omega
    ·have := hb.1 c hc; omega
  ·rename_i q
   rw [List.mem_append, inL_mem a p bs hb.2]
   constructor
   ·rintro (h | ⟨c, hc, h⟩)
    ·split at h
     ·rename_i ht
      have := List.mem_singleton.1 h
      exact ⟨b, List.mem_cons_self .., by omega, ht, this⟩
     ·cases h
    ·exact ⟨c, List.mem_cons_of_mem _ hc, h⟩
   ·rintro ⟨c, hc, h1, h2, h3⟩
    rcases List.mem_cons.1 hc with rfl | hc
    ·exact .inl (by rw [if_pos h2]; exact List.mem_singleton.2 h3)
    ·exact .inr ⟨c, hc, h1, h2, h3⟩
def Ord2 : List Bx → Bx → Bx → Prop
 | [], _, _ => False
 | c :: S, a, b => (a = c ∧ b ∈ S) ∨ Ord2 S a b
theorem ord2_mem : ∀ {S a b}, Ord2 S a b → a ∈ S ∧ b ∈ S
 | _ :: _, _, _, .inl ⟨h, h'⟩ => ⟨by rw [h]; exact List.mem_cons_self .., List.mem_cons_of_mem _ h'⟩
 | _ :: _, _, _, .inr h => ⟨List.mem_cons_of_mem _ (ord2_mem h).1, List.mem_cons_of_mem _ (ord2_mem h).2⟩
theorem ord2_tot : ∀ {S a b}, a ∈ S → b ∈ S → a ≠ b → Ord2 S a b ∨ Ord2 S b a
 | c :: S, a, b, ha, hb, hn => by
  rcases List.mem_cons.1 ha with ea | ha <;> rcases List.mem_cons.1 hb with eb | hb
  ·exact absurd (ea.trans eb.symm) hn
  ·exact .inl (.inl ⟨ea, hb⟩)
  ·exact .inr (.inl ⟨eb, ha⟩)
  ·rcases ord2_tot ha hb hn with h | h
   ·exact .inl (.inr h)
   ·exact .inr (.inr h)
theorem ord2_rel {R : Bx → Bx → Prop} : ∀ {S a b}, S.Pairwise R → Ord2 S a b → R a b
 | _ :: _, _, _, h, .inl ⟨e, hb⟩ => by subst e; exact (List.pairwise_cons.1 h).1 _ hb
 | _ :: _, _, _, h, .inr h' => ord2_rel (List.pairwise_cons.1 h).2 h'
theorem outL_mem (p : Pr) : ∀ S, SoX S → (p ∈ outL S ↔ ∃ a b, Ord2 S a b ∧ b.lo.x ≤ a.hi.x ∧ tst a b ∧ p = prOf a b)
 | [], _ => by simp [outL, Ord2]
 | c :: S, h => by
  have hc := List.pairwise_cons.1 h
  rw [outL, List.mem_append, inL_mem c p S hc.2, outL_mem p S hc.2]
  constructor
  ·rintro (⟨b, h1, h2⟩ | ⟨a, b, h1, h2⟩)
   ·exact ⟨c, b, .inl ⟨rfl, h1⟩, h2⟩
   ·exact ⟨a, b, .inr h1, h2⟩
  ·rintro ⟨a, b, ⟨rfl, h1⟩ | h1, h2⟩
   ·exact .inl ⟨b, h1, h2⟩
   ·exact .inr ⟨a, b, h1, h2⟩
theorem inL_nodup (a : Bx) : ∀ bs, SoX bs → DiA bs → (∀ b ∈ bs, a.at' ≠ b.at') → (inL a bs).Nodup
 | [], _, _, _ => by simp [inL]
 | b :: bs, h1, h2, h3 => by
  have g1 := List.pairwise_cons.1 h1
  have g2 := List.pairwise_cons.1 h2
  unfold inL
  split
  ·simp
  ·have ih := inL_nodup a bs g1.2 g2.2 (fun c hc => h3 c (List.mem_cons_of_mem _ hc))
   split
   ·refine List.nodup_cons.2 ⟨fun hm => ?_, ih⟩
    obtain ⟨c, hc, _, _, e⟩ := (inL_mem a _ bs g1.2).1 hm
    have e1 := g2.1 c hc
    have e2 := h3 b (List.mem_cons_self ..)
    have e3 := h3 c (List.mem_cons_of_mem _ hc)
    simp only [prOf, Pr.mk.injEq] at e
    omega
   ·exact ih
theorem outL_nodup : ∀ S, SoX S → DiA S → (outL S).Nodup
 | [], _, _ => by simp [outL]
 | a :: rs, h1, h2 => by
  have g1 := List.pairwise_cons.1 h1
  have g2 := List.pairwise_cons.1 h2
  rw [outL]
  refine List.nodup_append.2 ⟨inL_nodup a rs g1.2 g2.2 g2.1, outL_nodup rs g1.2 g2.2, ?_⟩
  rintro p hp q hq rfl
  obtain ⟨b, hb, _, _, e⟩ := (inL_mem a p rs g1.2).1 hp
  obtain ⟨c, d, hcd, _, _, e'⟩ := (outL_mem p rs g1.2).1 hq
  have m := ord2_mem hcd
  have q1 := g2.1 c m.1
  have q2 := g2.1 d m.2
  rw [e] at e'
  simp only [prOf, Pr.mk.injEq] at e'
  omega
def ltPr (p q : Pr) : Prop := p.i < q.i ∨ (p.i = q.i ∧ p.k < q.k)
theorem eq_of_strict : ∀ (l m : List Pr), l.Pairwise ltPr → m.Pairwise ltPr → (∀ x, x ∈ l ↔ x ∈ m) → l = m
 | [], [], _, _, _ => rfl
 | [], b :: m, _, _, h => by have := (h b).2 (List.mem_cons_self ..); cases this
 | a :: l, [], _, _, h => by have := (h a).1 (List.mem_cons_self ..); cases this
 | a :: l, b :: m, h1, h2, h => by
  have g1 := List.pairwise_cons.1 h1
  have g2 := List.pairwise_cons.1 h2
  have irr : ∀ p q, ltPr p q → p ≠ q := fun p q h e => by subst e; unfold ltPr at h; omega
  have asy : ∀ p q, ltPr p q → ltPr q p → False := fun p q h h' => by unfold ltPr at h h'; omega
  have e : a = b := by
   rcases List.mem_cons.1 ((h a).1 (List.mem_cons_self ..)) with e | ha
   ·exact e
   ·rcases List.mem_cons.1 ((h b).2 (List.mem_cons_self ..)) with e | hb
    ·exact e.symm
    ·exact (asy _ _ (g2.1 a ha) (g1.1 b hb)).elim
  subst e
  rw [eq_of_strict l m g1.2 g2.2 fun x => ?_]
  constructor
  ·intro hx
   rcases List.mem_cons.1 ((h x).1 (List.mem_cons_of_mem _ hx)) with e | h'
   ·exact absurd e.symm (irr _ _ (g1.1 x hx))
   ·exact h'
  ·intro hx
   rcases List.mem_cons.1 ((h x).2 (List.mem_cons_of_mem _ hx)) with e | h'
   ·exact absurd e.symm (irr _ _ (g2.1 x hx))
   ·exact h'
def cfP (p q : Pr) : Int := firstNZ [cmpI p.i q.i, cmpI p.k q.k]
theorem ltP_iff (a b : Pr) : ltOf cfP a b = true ↔ ltPr a b := by
 unfold ltOf cfP ltPr
 rw [decide_eq_true_iff]
 simp only [firstNZ, cmpI]
 split <;> (try split) <;> (try split) <;> (try split) <;> omega
theorem swo_pr : SWO (ltOf cfP) := by
 have e' : ∀ a b, ltOf cfP a b = false ↔ ¬ ltPr a b := fun a b => by rw [← ltP_iff]; simp
 refine ⟨fun x => ?_, fun x y z h1 h2 => ?_, fun x y z h1 h2 => ?_⟩
 ·rw [e']; unfold ltPr; omega
 ·rw [ltP_iff] at *; unfold ltPr at *; omega
 ·rw [e'] at *; unfold ltPr at *; omega
theorem srtP_strict (L : List Pr) (h : L.Nodup) : (srt cfP L).Pairwise ltPr := by
 have hn : (srt cfP L).Nodup := (srt_facts cfP swo_pr L).1.nodup_iff.2 h
 rw [List.pairwise_iff_getElem]
 intro i j hi hj hij
 have h1 := (srt_facts cfP swo_pr L).2 i j hij (by rw [← srt_len cfP swo_pr L]; exact hj)
 have h2 := (List.pairwise_iff_getElem.1 hn) i j hi hj hij
 rw [List.getD_eq_getElem?_getD, List.getD_eq_getElem?_getD, List.getElem?_eq_getElem hi, List.getElem?_eq_getElem hj] at h1
 simp only [Option.getD_some] at h1
 have h1 : ¬ ltPr (srt cfP L)[j] (srt cfP L)[i] := by rw [← ltP_iff, h1]; exact Bool.false_ne_true
 have h3 : ¬ ((srt cfP L)[i].i = (srt cfP L)[j].i ∧ (srt cfP L)[i].k = (srt cfP L)[j].k) := fun e => h2 (by
  revert e; generalize (srt cfP L)[i] = p; generalize (srt cfP L)[j] = q; intro e; cases p; cases q; simp_all)
 unfold ltPr at *
 omega
/-- The reference's pairs. -/
def NearP (s t : Sg) : Prop := (lowS s).x ≤ (highS t).x ∧ (lowS t).x ≤ (highS s).x ∧ (lowS s).y ≤ (highS t).y ∧ (lowS t).y ≤ (highS s).y
instance (s t : Sg) : Decidable (NearP s t) := inferInstanceAs (Decidable (_ ∧ _))
def rowR (l : List Sg) (i : Nat) : Nat → Nat → List Pr
 | 0, _ => []
 | n + 1, k => (if NearP (l.getD i default) (l.getD k default) then [⟨i, k⟩] else []) ++ rowR l i n (k + 1)
def allR (l : List Sg) : Nat → Nat → List Pr
 | 0, _ => []
 | n + 1, i => rowR l i (l.length - (i + 1)) (i + 1) ++ allR l n (i + 1)
def refR (l : List Sg) : List Pr := allR l l.length 0
theorem rowR_mem (l : List Sg) (i : Nat) (p : Pr) : ∀ n k, p ∈ rowR l i n k ↔ ∃ t : Nat, k ≤ t ∧ t < k + n ∧ NearP (l.getD i default) (l.getD t default) ∧ p = ⟨i, t⟩
 | 0, k => by simp [rowR]; omega
 | n + 1, k => by
  rw [rowR, List.mem_append, rowR_mem l i p n (k + 1)]
  constructor
  ·rintro (h | ⟨t, h1, h2, h3⟩)
   ·split at h
    ·rename_i hq; exact ⟨k, Nat.le_refl _, by omega, hq, List.mem_singleton.1 h⟩
    ·cases h
   ·exact ⟨t, by omega, by omega, h3⟩
  ·rintro ⟨t, h1, h2, h3, h4⟩
   by_cases e : t = k
   ·subst e; exact .inl (by rw [if_pos h3]; exact List.mem_singleton.2 h4)
   ·exact .inr ⟨t, by omega, by omega, h3, h4⟩
theorem rowR_sorted (l : List Sg) (i : Nat) : ∀ n k, (rowR l i n k).Pairwise ltPr
 | 0, k => by simp [rowR]
 | n + 1, k => by
  rw [rowR]
  split
  ·refine List.pairwise_cons.2 ⟨fun q hq => ?_, rowR_sorted l i n (k + 1)⟩
   obtain ⟨t, h1, _, _, rfl⟩ := (rowR_mem l i q n (k + 1)).1 hq
   exact .inr ⟨rfl, by show (k : Int) < t; omega⟩
  ·exact rowR_sorted l i n (k + 1)
theorem allR_mem (l : List Sg) (p : Pr) : ∀ n i, p ∈ allR l n i ↔ ∃ s : Nat, i ≤ s ∧ s < i + n ∧ p ∈ rowR l s (l.length - (s + 1)) (s + 1)
 | 0, i => by simp [allR]; omega
 | n + 1, i => by
  rw [allR, List.mem_append, allR_mem l p n (i + 1)]
  constructor
  ·rintro (h | ⟨t, h1, h2, h3⟩)
   ·exact ⟨i, Nat.le_refl _, by omega, h⟩
   ·exact ⟨t, by omega, by omega, h3⟩
  ·rintro ⟨t, h1, h2, h3⟩
   by_cases e : t = i
   ·subst e; exact .inl h3
   ·exact .inr ⟨t, by omega, by omega, h3⟩
theorem allR_sorted (l : List Sg) : ∀ n i, (allR l n i).Pairwise ltPr
 | 0, i => by simp [allR]
 | n + 1, i => by
  rw [allR]
  refine List.pairwise_append.2 ⟨rowR_sorted l i _ _, allR_sorted l n (i + 1), fun p hp q hq => ?_⟩
  obtain ⟨t, _, _, _, rfl⟩ := (rowR_mem l i p _ _).1 hp
  obtain ⟨s, h1, _, h3⟩ := (allR_mem l q n (i + 1)).1 hq
  obtain ⟨t', _, _, _, rfl⟩ := (rowR_mem l s q _ _).1 h3
  exact .inl (by show (i : Int) < s; omega)
theorem low_high (s : Sg) : (lowS s).x ≤ (highS s).x ∧ (lowS s).y ≤ (highS s).y := by simp only [lowS, highS]; omega
theorem sB_soX (l : List Sg) : SoX (sB l) := by
 unfold SoX
 rw [List.pairwise_iff_getElem]
 intro i j hi hj hij
 have h := sB_ord l hij (by rw [← sB_len l]; exact hj)
 simp only [List.getD_eq_getElem?_getD, List.getElem?_eq_getElem hi, List.getElem?_eq_getElem hj, Option.getD_some] at h
 omega
theorem sB_diA (l : List Sg) : DiA (sB l) := by
 unfold DiA
 rw [List.pairwise_iff_getElem]
 intro i j hi hj hij e
 have hl := sB_len l
 have := sB_inj l (i := i) (k := j) (by omega) (by omega) (by
  simp only [List.getD_eq_getElem?_getD, List.getElem?_eq_getElem hi, List.getElem?_eq_getElem hj, Option.getD_some]; exact e)
 omega
theorem pairs_eq (l : List Sg) : srt cfP (outL (sB l)) = refR l := by
 refine eq_of_strict _ _ (srtP_strict _ (outL_nodup _ (sB_soX l) (sB_diA l))) (allR_sorted l _ _) fun p => ?_
 rw [(srt_facts cfP swo_pr _).1.mem_iff, outL_mem p _ (sB_soX l)]
 unfold refR
 rw [allR_mem]
 constructor
 ·rintro ⟨a, b, h1, h2, h3, rfl⟩
  have hx := ord2_rel (sB_soX l) h1
  have hd := ord2_rel (sB_diA l) h1
  obtain ⟨ma, mb⟩ := ord2_mem h1
  obtain ⟨i, hi, rfl⟩ := sB_mem.1 ma
  obtain ⟨k, hk, rfl⟩ := sB_mem.1 mb
  have hd : (i : Int) ≠ k := hd
  have l1 := low_high (l.getD i default)
  have l2 := low_high (l.getD k default)
  simp only [tst, bx1] at h2 h3 hx
  rcases Nat.lt_or_ge i k with q | q
  ·refine ⟨i, Nat.zero_le _, by omega, (rowR_mem ..).2 ⟨k, by omega, by omega, ⟨by omega, by omega, by omega, by omega⟩, ?_⟩⟩
   simp only [prOf, bx1, Pr.mk.injEq]; omega
  ·refine ⟨k, Nat.zero_le _, by omega, (rowR_mem ..).2 ⟨i, by omega, by omega, ⟨by omega, by omega, by omega, by omega⟩, ?_⟩⟩
   simp only [prOf, bx1, Pr.mk.injEq]; omega
 ·rintro ⟨i, _, h2, h3⟩
  obtain ⟨k, h4, h5, ⟨n1, n2, n3, n4⟩, rfl⟩ := (rowR_mem ..).1 h3
  have m1 : bx1 l i ∈ sB l := sB_mem.2 ⟨i, by omega, rfl⟩
  have m2 : bx1 l k ∈ sB l := sB_mem.2 ⟨k, by omega, rfl⟩
  have hne : bx1 l i ≠ bx1 l k := fun e => by
   have : (i : Int) = k := congrArg Bx.at' e
   omega
  rcases ord2_tot m1 m2 hne with h | h
  ·refine ⟨_, _, h, n2, ⟨n4, n3⟩, ?_⟩
   simp only [prOf, bx1, Pr.mk.injEq]; omega
  ·refine ⟨_, _, h, n1, ⟨n3, n4⟩, ?_⟩
   simp only [prOf, bx1, Pr.mk.injEq]; omega
end Go.Proofs.YtcomiiakkhafpaaGreat
namespace Go.Proofs.YtcomiiakkhafpaaGreat
open Go.Proofs.YtcomiiakkhafpaaGreat.Am Go.Sort Go.Proofs
variable [Inhabited DRT]
variable {G : GInv}
theorem sortBx_nil : ACalls Tryz.prog G 155 [.nils, .fn 156 []] (.tup []) := (sortBx_0 (fun _ => [])).fit ⟨rfl, rfl⟩
set_option maxRecDepth 100000 in
theorem boxes_nil (l : List Sg) (h0 : l.length = 0) : ACalls Tryz.prog G 119 [sgsA l] .nils := by
 have hs := sortBx_nil (G := G)
 refine ACalls.of_WA ttok Tryz.func119 rfl rfl _ rfl ?_
 conv => whnf
 repeat (first | refine sq ?_ | refine bk ?_ | ((first | refine rg ttok ?_ | refine dw ttok mixed ?_ | refine cd ?_ | refine sk ?_ | refine xt ?_ | refine rt ?_); conv => whnf))
 refine WA_loopI (fun _ : Nat => True) (fun _ => [(10, .int .i64 0), (3, .nils)]) (fun _ => []) (fun _ => 0) 0 trivial ?_ ?_
 ·conv => whnf
  repeat (first | exact fa | ((first | refine fb ?_ | (refine And.intro ?_ ?_; rotate_left)); conv => whnf))
 ·intro k _
  conv => whnf
  repeat' (first | refine sq ?_ | refine bk ?_ | ((first | refine rg ttok ?_ | refine dw ttok mixed ?_ | refine cd ?_ | refine sk ?_ | refine xt ?_ | refine rt ?_); conv => whnf) | (refine And.intro (fun h => ?_) (fun h => ?_) <;> (try simp only [brsA] at h) <;> conv => whnf) | ((first | refine Or.inl ?_ | skip); (conv => whnf); refine ⟨_, hs, ?_⟩; conv => whnf) | ((first | refine wf ?_ | refine wp' ?_ | refine ai ?_ | refine And.intro rfl ?_ | refine an ?_); conv => whnf))
  all_goals first | trivial | (exfalso; omega)
end Go.Proofs.YtcomiiakkhafpaaGreat
namespace Go.Proofs.YtcomiiakkhafpaaGreat
open Go.Proofs.YtcomiiakkhafpaaGreat.Am Go.Sort Go.Proofs
variable [Inhabited DRT]
variable {G : GInv}
def prA (p : Pr) : List A := [.int .i64 p.i, .int .i64 p.k]
set_option maxRecDepth 100000 in
theorem cloP_c (a b : Pr) : ACalls Tryz.prog G 122 [.agg (prA a), .agg (prA b)] (.int .i64 (cfP a b)) := by
 refine ACalls.of_WA ttok Tryz.func122 rfl rfl _ rfl ?_
 conv => whnf
 repeat' (first | refine sq ?_ | refine bk ?_ | ((first | refine rg ttok ?_ | refine dw ttok mixed ?_ | refine cd ?_ | refine sk ?_ | refine xt ?_ | refine rt ?_); conv => whnf) | (refine And.intro (fun h => ?_) (fun h => ?_) <;> (try simp only [brsA] at h) <;> conv => whnf) | ((first | refine wf ?_ | refine wp' ?_ | refine ai ?_ | refine And.intro rfl ?_ | refine an ?_); conv => whnf))
 repeat' (first | refine sq ?_ | refine bk ?_ | ((first | refine rg ttok ?_ | refine dw ttok mixed ?_ | refine cd ?_ | refine sk ?_ | refine xt ?_ | refine rt ?_); conv => whnf) | (refine And.intro (fun h => ?_) (fun h => ?_) <;> (try simp only [brsA] at h) <;> conv => whnf) | ((first | refine Or.inl ?_ | skip); (conv => whnf); refine ⟨_, compare_c _ _, ?_⟩; conv => whnf) | ((first | refine wf ?_ | refine wp' ?_ | refine ai ?_ | refine And.intro rfl ?_ | refine an ?_); conv => whnf))
 refine Or.inl ?_
 conv => whnf
 refine ⟨_, (or_c [cmpI a.i b.i, cmpI a.k b.k] (by simp)).fit ?_, rfl, ?_⟩
 ·conv => whnf
  refine ⟨rfl, Or.inl fun i hi => ?_⟩
  match i, hi with
  | 0, _ => rfl
  | 1, _ => rfl
 ·conv => whnf
  repeat' (first | refine sq ?_ | refine bk ?_ | ((first | refine rg ttok ?_ | refine dw ttok mixed ?_ | refine cd ?_ | refine sk ?_ | refine xt ?_ | refine rt ?_); conv => whnf) | (refine And.intro (fun h => ?_) (fun h => ?_) <;> (try simp only [brsA] at h) <;> conv => whnf) | ((first | refine wf ?_ | refine wp' ?_ | refine ai ?_ | refine And.intro rfl ?_ | refine an ?_); conv => whnf))
  rfl
theorem sortPr_c (hns : ¬ (default : DRT).ns) (l : List Pr) (hl : l.length ≤ 1000000) (h0 : 0 < l.length) :
  MCalls Tryz.prog G 121 [.own 1, .fn 122 []] [.ghost [.own 1, .junk, .junk], .row 56 2 l.length (rowE ePr l)] (.tup []) [.ghost [.own 1, .junk, .junk], .row 56 2 l.length (rowE ePr (srt cfP l))] := by
 exact MCalls.sortFunc hns (ρ := Tryz.laySortTwo_ren) Tryz.laySortTwo 2 (by omega) (fun w => by kernel_rfl) (fun w => by kernel_rfl) ePr (fun _ => rfl) cfP swo_pr 122 [] rfl
  (fun x y => cloP_c (G := G) x y) ⟨_, _, Tryz.func121, rfl, rfl⟩ 56 l hl h0
theorem pair_c (i k : Int) : ACalls Tryz.prog G 120 [.int .i64 i, .int .i64 k] (.agg [.int .i64 (min i k), .int .i64 (max i k)]) := by
 refine ACalls.of_WA ttok Tryz.func120 rfl rfl _ rfl ?_
 conv => whnf
 repeat' (first | refine sq ?_ | refine bk ?_ | ((first | refine rg ttok ?_ | refine dw ttok mixed ?_ | refine cd ?_ | refine sk ?_ | refine xt ?_ | refine rt ?_); conv => whnf) | (refine And.intro (fun h => ?_) (fun h => ?_) <;> (try simp only [brsA] at h) <;> conv => whnf) | ((first | refine wf ?_ | refine wp' ?_ | refine ai ?_ | refine And.intro rfl ?_ | refine an ?_); conv => whnf))
 all_goals first | exact min_if _ _ | exact max_if _ _ | trace_state
end Go.Proofs.YtcomiiakkhafpaaGreat
namespace Go.Proofs.YtcomiiakkhafpaaGreat
open Go.Proofs.YtcomiiakkhafpaaGreat.Am Go.Sort Go.Proofs
variable [Inhabited DRT]
variable {G : GInv}
theorem rowCat_e {α : Type} [Inhabited α] (e : α → List Int) (L : List α) (x : α) (r : Nat → List A) (hr : r 0 = (e x).map fun n => .int .i64 n) (i : Nat) (hi : i < L.length + 1) : rowCat L.length (rowE e L) r i = rowE e (L ++ [x]) i := by
 unfold rowCat
 split
 ·rename_i h
  have h : i < L.length := Nat.le_of_ble_eq_true h
  simp only [rowE, List.getD_eq_getElem?_getD, List.getElem?_append_left h]
 ·rename_i h
  have h : ¬ i < L.length := fun h' => by rw [show Nat.blt i L.length = true from Nat.ble_eq_true_of_le h'] at h; cases h
  have : i = L.length := by omega
  subst this
  simp [hr, rowE, List.getD_eq_getElem?_getD]
theorem drop_getD {α : Type} [Inhabited α] {L : List α} {i : Nat} (h : i < L.length) : L.drop i = L.getD i default :: L.drop (i + 1) := by
 rw [List.drop_eq_getElem_cons h, List.getD_eq_getElem?_getD, List.getElem?_eq_getElem h]; rfl
theorem sB_len400 (l : List Sg) : (outL (sB l)).length ≤ l.length * l.length := by
 have := outL_len (sB l)
 rw [sB_len] at this; exact this
set_option maxRecDepth 100000 in
set_option maxHeartbeats 4000000 in
theorem pairs_c (hns : ¬ (default : DRT).ns) (l : List Sg) (h0 : 0 < l.length) (hk : chk l = 0) : ACalls Tryz.prog G 74 [sgsA l] (.tup [.sl (refR l).length 2 (rowE ePr (refR l)), .int .i64 0]) := by
 have hc := check_c (G := G) l
 rw [hk] at hc
 have hb : ACalls Tryz.prog G 119 [sgsA l] (.sl l.length 5 (rowE eBx (sB l))) := boxes_c (G := G) hns l (chk_ok hk).1 h0 (chk_ok hk).2
 have h400 := (chk_ok hk).1
 have hSl := sB_len l
 have hol : (outL (sB l)).length ≤ 160000 := Nat.le_trans (sB_len400 l) (Nat.mul_le_mul h400 h400)
 have hpe := pairs_eq l
 generalize hS : sB l = S at *
 refine ACalls.of_WA ttok Tryz.func74 rfl rfl _ rfl ?_
 conv => whnf
 repeat' (first | refine sq ?_ | refine bk ?_ | ((first | refine rg ttok ?_ | refine dw ttok mixed ?_ | refine cd ?_ | refine sk ?_ | refine xt ?_ | refine rt ?_); conv => whnf) | (refine And.intro (fun h => ?_) (fun h => ?_) <;> (try simp only [brsA] at h) <;> conv => whnf) | ((first | refine Or.inl ?_ | skip); (conv => whnf); (first | refine ⟨_, hc, ?_⟩ | refine ⟨_, hb, ?_⟩); conv => whnf) | ((first | refine wf ?_ | refine wp' ?_ | refine ai ?_ | refine And.intro rfl ?_ | refine an ?_ | fail); conv => whnf))
 ·exact absurd trivial h
 refine WA_nil 5 56 2 rfl ?_
 conv => whnf
 refine WA_loopI (fun x : Nat × List Pr => x.1 ≤ l.length ∧ x.2 ++ outL (S.drop x.1) = outL S) (fun x => match x with | (i, cur) => [(20, .int .i64 (i : Int)), (5, .own 0)]) (fun x => match x with | (i, cur) => [.row 56 2 cur.length (rowE ePr cur)]) (fun x => l.length - x.1) (0, []) ⟨by omega, by simp⟩ ?_ ?_
 ·conv => whnf
  repeat (first | exact fa | ((first | refine fb ?_ | (refine And.intro ?_ ?_; rotate_left)); conv => whnf))
 ·rintro ⟨i, cur⟩ ⟨hi, hI⟩
  simp only at hi hI
  conv => whnf
  repeat (first | refine sq ?_ | refine bk ?_ | ((first | refine rg ttok ?_ | refine dw ttok mixed ?_ | refine cd ?_ | refine sk ?_ | refine xt ?_ | refine rt ?_); conv => whnf))
  refine ⟨fun h => ?_, fun h => ?_⟩
  ·have h := of_decide_eq_true h
   have hdr := drop_getD (L := S) (i := i) (by omega)
   rw [hdr, outL] at hI
   conv => whnf
   repeat' (first | refine sq ?_ | refine bk ?_ | ((first | refine rg ttok ?_ | refine dw ttok mixed ?_ | refine cd ?_ | refine sk ?_ | refine xt ?_ | refine rt ?_); conv => whnf) | (refine And.intro (fun h => ?_) (fun h => ?_) <;> (try simp only [brsA] at h) <;> conv => whnf) | ((first | refine wf ?_ | refine wp' ?_ | refine ai ?_ | refine And.intro rfl ?_ | refine an ?_ | fail); conv => whnf))
   refine WA_loopI (fun x : Nat × List Pr => x.1 ≤ l.length - (i + 1) ∧ x.2 ++ inL (S.getD i default) (S.drop (i + 1 + x.1)) = cur ++ inL (S.getD i default) (S.drop (i + 1))) (fun x => match x with | (j, cur) => [(30, .int .i64 (j : Int)), (5, .own 0)]) (fun x => match x with | (j, cur) => [.row 56 2 cur.length (rowE ePr cur), .box 156 (bxA (S.getD i default))]) (fun x => l.length - (i + 1) - x.1) (0, cur) ⟨by omega, rfl⟩ ?_ ?_
   ·conv => whnf
    repeat (first | exact fa | ((first | refine fb ?_ | (refine And.intro ?_ ?_; rotate_left)); conv => whnf))
   ·rintro ⟨j, cu⟩ ⟨hj, hJ⟩
    simp only at hj hJ
    conv => whnf
    repeat (first | refine sq ?_ | refine bk ?_ | ((first | refine rg ttok ?_ | refine dw ttok mixed ?_ | refine cd ?_ | refine sk ?_ | refine xt ?_ | refine rt ?_); conv => whnf))
    refine ⟨fun h2 => ?_, fun h2 => ?_⟩
    ·have h2 := of_decide_eq_true h2
     have hdr2 := drop_getD (L := S) (i := i + 1 + j) (by omega)
     rw [hdr2, inL] at hJ
     have hcl : cu.length ≤ 160000 := by
      have e1 := congrArg List.length hJ
      have e2 := congrArg List.length hI
      simp only [List.length_append] at e1 e2
      omega
     have hix : ((i : Int) + 1).toNat + (j : Int).toNat = i + 1 + j := by omega
     have hpc := pair_c (G := G) (S.getD i default).at' (S.getD (i + 1 + j) default).at'
     conv => whnf
     repeat' (first | refine sq ?_ | refine bk ?_ | ((first | refine rg ttok ?_ | refine dw ttok mixed ?_ | refine cd ?_ | refine sk ?_ | refine xt ?_ | refine rt ?_); conv => whnf) | (refine And.intro (fun h => ?_) (fun h => ?_) <;> (try simp only [brsA] at h) <;> conv => whnf) | ((first | refine Or.inl ?_ | skip); (conv => whnf); refine ⟨_, hpc, ?_⟩; conv => whnf) | ((first | refine wf ?_ | refine wp' ?_ | refine ai ?_ | refine And.intro rfl ?_ | refine an ?_ | fail); conv => whnf))
     ·rw [hix] at h
      rw [if_pos h, List.append_nil] at hJ
      refine ⟨(i + 1, cu), ⟨by show i + 1 ≤ l.length; omega, by show cu ++ outL (S.drop (i + 1)) = outL S; rw [hJ, List.append_assoc]; exact hI⟩, (by show l.length - (i + 1) < l.length - i; omega), ?_⟩
      conv => whnf
      repeat (first | exact fa | ((first | refine fb ?_ | (refine And.intro ?_ ?_; rotate_left)); conv => whnf))
     ·rename_i g1 g2
      rw [hix] at g1 g2 h
      rw [if_neg g1, if_pos (show tst (S.getD i default) (S.getD (i + 1 + j) default) from ⟨g2, h⟩)] at hJ
      refine ⟨(j + 1, cu ++ [prOf (S.getD i default) (S.getD (i + 1 + j) default)]), ⟨by show j + 1 ≤ l.length - (i + 1); omega, by rw [← hJ, List.append_assoc]; rfl⟩, (by show l.length - (i + 1) - (j + 1) < l.length - (i + 1) - j; omega), ?_⟩
      conv => whnf
      repeat (first | exact fa | ((first | refine fb ?_ | (refine And.intro ?_ ?_; rotate_left)); conv => whnf))
      all_goals first | (refine Or.inl fun t ht => ?_; exact rowCat_e ePr cu (prOf (S.getD i default) (S.getD (i + 1 + j) default)) _ rfl t ht) | (simp; done)
     ·rename_i g1 g2
      rw [hix] at g1 g2 h
      rw [if_neg g1, if_neg (show ¬ tst (S.getD i default) (S.getD (i + 1 + j) default) from fun q => h q.2)] at hJ
      refine ⟨(j + 1, cu), ⟨by show j + 1 ≤ l.length - (i + 1); omega, hJ⟩, (by show l.length - (i + 1) - (j + 1) < l.length - (i + 1) - j; omega), ?_⟩
      conv => whnf
      repeat (first | exact fa | ((first | refine fb ?_ | (refine And.intro ?_ ?_; rotate_left)); conv => whnf))
     ·rename_i g1
      rw [hix] at g1 h
      rw [if_neg g1, if_neg (show ¬ tst (S.getD i default) (S.getD (i + 1 + j) default) from fun q => h q.1)] at hJ
      refine ⟨(j + 1, cu), ⟨by show j + 1 ≤ l.length - (i + 1); omega, hJ⟩, (by show l.length - (i + 1) - (j + 1) < l.length - (i + 1) - j; omega), ?_⟩
      conv => whnf
      repeat (first | exact fa | ((first | refine fb ?_ | (refine And.intro ?_ ?_; rotate_left)); conv => whnf))
    ·have h2 := of_decide_eq_false h2
     rw [List.drop_eq_nil_of_le (show S.length ≤ i + 1 + j by omega), inL, List.append_nil] at hJ
     conv => whnf
     repeat' (first | refine sq ?_ | refine bk ?_ | ((first | refine rg ttok ?_ | refine dw ttok mixed ?_ | refine cd ?_ | refine sk ?_ | refine xt ?_ | refine rt ?_); conv => whnf) | (refine And.intro (fun h => ?_) (fun h => ?_) <;> (try simp only [brsA] at h) <;> conv => whnf) | ((first | refine wf ?_ | refine wp' ?_ | refine ai ?_ | refine And.intro rfl ?_ | refine an ?_ | fail); conv => whnf))
     refine ⟨(i + 1, cu), ⟨by show i + 1 ≤ l.length; omega, by show cu ++ outL (S.drop (i + 1)) = outL S; rw [hJ, List.append_assoc]; exact hI⟩, (by show l.length - (i + 1) < l.length - i; omega), ?_⟩
     conv => whnf
     repeat (first | exact fa | ((first | refine fb ?_ | (refine And.intro ?_ ?_; rotate_left)); conv => whnf))
  ·have h := of_decide_eq_false h
   have e : i = l.length := by omega
   subst e
   rw [List.drop_eq_nil_of_le (by omega), outL, List.append_nil] at hI
   subst hI
   by_cases hz : (outL S).length = 0
   ·have hz' : outL S = [] := List.length_eq_zero_iff.1 hz
    have hz2 : refR l = [] := by rw [← hpe, hz', ← List.length_eq_zero_iff, srt_len cfP swo_pr]; rfl
    rw [hz2]
    refine WA_freeze 0 ?_
    conv => whnf
    have hs : ACalls Tryz.prog G 121 [.sl (outL S).length 2 (rowE ePr (outL S)), .fn 122 []] (.tup []) := by rw [hz]; exact sortPr_0 _
    repeat' (first | refine sq ?_ | refine bk ?_ | ((first | refine rg ttok ?_ | refine dw ttok mixed ?_ | refine cd ?_ | refine sk ?_ | refine xt ?_ | refine rt ?_); conv => whnf) | (refine And.intro (fun h => ?_) (fun h => ?_) <;> (try simp only [brsA] at h) <;> conv => whnf) | ((first | refine Or.inl ?_ | skip); (conv => whnf); refine ⟨_, hs, ?_⟩; conv => whnf) | ((first | refine wf ?_ | refine wp' ?_ | refine ai ?_ | refine And.intro rfl ?_ | refine an ?_ | fail); conv => whnf))
    exact ⟨Or.inl fun i hi => by omega, rfl⟩
   ·have hs := sortPr_c (G := G) hns (outL S) (by omega) (by omega)
    rw [hpe] at hs
    conv => whnf
    repeat' (first | refine sq ?_ | refine bk ?_ | ((first | refine rg ttok ?_ | refine dw ttok mixed ?_ | refine cd ?_ | refine sk ?_ | refine xt ?_ | refine rt ?_); conv => whnf) | (refine And.intro (fun h => ?_) (fun h => ?_) <;> (try simp only [brsA] at h) <;> conv => whnf) | (refine Or.inr (Or.inl ?_); (conv => whnf); refine ⟨_, _, hs, ?_⟩; conv => whnf) | ((first | refine wf ?_ | refine wp' ?_ | refine ai ?_ | refine And.intro rfl ?_ | refine an ?_ | fail); conv => whnf))
    refine ⟨?_, Or.inl fun _ _ => rfl, rfl⟩
    rw [← hpe, srt_len cfP swo_pr]
end Go.Proofs.YtcomiiakkhafpaaGreat
namespace Go.Proofs.YtcomiiakkhafpaaGreat
open Go.Proofs.YtcomiiakkhafpaaGreat.Am Go.Sort Go.Proofs
variable [Inhabited DRT]
variable {G : GInv}
theorem sortPr_nil : ACalls Tryz.prog G 121 [.nils, .fn 122 []] (.tup []) := (sortPr_0 (fun _ => [])).fit ⟨rfl, rfl⟩
set_option maxRecDepth 100000 in
theorem pairs_nil (l : List Sg) (h0 : l.length = 0) : ACalls Tryz.prog G 74 [sgsA l] (.tup [.nils, .int .i64 0]) := by
 have hc := check_c (G := G) l
 have hk : chk l = 0 := by unfold chk; rw [if_neg (show ¬ 400 < l.length by omega), if_pos (show OkS l from fun i hi => by omega)]
 rw [hk] at hc
 have hb := boxes_nil (G := G) l h0
 have hs := sortPr_nil (G := G)
 refine ACalls.of_WA ttok Tryz.func74 rfl rfl _ rfl ?_
 conv => whnf
 repeat' (first | refine sq ?_ | refine bk ?_ | ((first | refine rg ttok ?_ | refine dw ttok mixed ?_ | refine cd ?_ | refine sk ?_ | refine xt ?_ | refine rt ?_); conv => whnf) | (refine And.intro (fun h => ?_) (fun h => ?_) <;> (try simp only [brsA] at h) <;> conv => whnf) | ((first | refine Or.inl ?_ | skip); (conv => whnf); (first | refine ⟨_, hc, ?_⟩ | refine ⟨_, hb, ?_⟩); conv => whnf) | ((first | refine wf ?_ | refine wp' ?_ | refine ai ?_ | refine And.intro rfl ?_ | refine an ?_); conv => whnf))
 refine WA_loopI (fun _ : Nat => True) (fun _ => [(20, .int .i64 0), (5, .nils)]) (fun _ => []) (fun _ => 0) 0 trivial ?_ ?_
 ·conv => whnf
  repeat (first | exact fa | ((first | refine fb ?_ | (refine And.intro ?_ ?_; rotate_left)); conv => whnf))
 ·intro k _
  conv => whnf
  repeat (first | refine sq ?_ | refine bk ?_ | ((first | refine rg ttok ?_ | refine dw ttok mixed ?_ | refine cd ?_ | refine sk ?_ | refine xt ?_ | refine rt ?_); conv => whnf))
  refine ⟨fun h => ?_, fun h => ?_⟩
  ·exact absurd (of_decide_eq_true h) (by decide)
  ·conv => whnf
   repeat' (first | refine sq ?_ | refine bk ?_ | ((first | refine rg ttok ?_ | refine dw ttok mixed ?_ | refine cd ?_ | refine sk ?_ | refine xt ?_ | refine rt ?_); conv => whnf) | (refine And.intro (fun h => ?_) (fun h => ?_) <;> (try simp only [brsA] at h) <;> conv => whnf) | ((first | refine Or.inl ?_ | skip); (conv => whnf); refine ⟨_, hs, ?_⟩; conv => whnf) | ((first | refine wf ?_ | refine wp' ?_ | refine ai ?_ | refine And.intro rfl ?_ | refine an ?_); conv => whnf))
set_option maxRecDepth 100000 in
theorem pairs_bad (l : List Sg) (hk : chk l ≠ 0) : ACalls Tryz.prog G 74 [sgsA l] (.tup [.nils, .int .i64 (chk l)]) := by
 have hc := check_c (G := G) l
 refine ACalls.of_WA ttok Tryz.func74 rfl rfl _ rfl ?_
 conv => whnf
 repeat' (first | refine sq ?_ | refine bk ?_ | ((first | refine rg ttok ?_ | refine dw ttok mixed ?_ | refine cd ?_ | refine sk ?_ | refine xt ?_ | refine rt ?_); conv => whnf) | (refine And.intro (fun h => ?_) (fun h => ?_) <;> (try simp only [brsA] at h) <;> conv => whnf) | ((first | refine Or.inl ?_ | skip); (conv => whnf); refine ⟨_, hc, ?_⟩; conv => whnf) | ((first | refine wf ?_ | refine wp' ?_ | refine ai ?_ | refine And.intro rfl ?_ | refine an ?_); conv => whnf))
 ·exact absurd h hk
theorem rowR_len (l : List Sg) (i : Nat) : ∀ n k, (rowR l i n k).length ≤ n
 | 0, k => by simp [rowR]
 | n + 1, k => by
  have := rowR_len l i n (k + 1)
  rw [rowR, List.length_append]
  split <;> simp <;> omega
theorem allR_len (l : List Sg) : ∀ n i, (allR l n i).length ≤ n * l.length
 | 0, i => by simp [allR]
 | n + 1, i => by
  have h1 := rowR_len l i (l.length - (i + 1)) (i + 1)
  have h2 := allR_len l n (i + 1)
  rw [allR, List.length_append, Nat.add_mul]
  omega
theorem refR_len (l : List Sg) : (refR l).length ≤ l.length * l.length := allR_len l l.length 0
end Go.Proofs.YtcomiiakkhafpaaGreat
namespace Go.Proofs.YtcomiiakkhafpaaGreat
open Go.Proofs.YtcomiiakkhafpaaGreat.Am Go.Sort Go.Proofs
variable [Inhabited DRT]
variable {G : GInv}
theorem wavg {w1 w2 u v M m : Int} (h1 : 0 ≤ w1) (h2 : 0 ≤ w2) (u1 : u ≤ M) (v1 : v ≤ M) (u2 : m ≤ u) (v2 : m ≤ v) :
  w1 * u + w2 * v ≤ (w1 + w2) * M ∧ (w1 + w2) * m ≤ w1 * u + w2 * v := by
 have a1 := Int.mul_le_mul_of_nonneg_left u1 h1
 have a2 := Int.mul_le_mul_of_nonneg_left v1 h2
 have a3 := Int.mul_le_mul_of_nonneg_left u2 h1
 have a4 := Int.mul_le_mul_of_nonneg_left v2 h2
 rw [Int.add_mul, Int.add_mul]
 omega
/-- Two weighted means that are alike: their bounds meet. -/
theorem wmeet {w1 w2 z1 z2 u v p q lu hu lp hp : Int} (hw : (0 < w1 ∧ 0 < w2 ∧ 0 < z1 ∧ 0 < z2) ∨ (w1 < 0 ∧ w2 < 0 ∧ z1 < 0 ∧ z2 < 0)) (hs : w1 + w2 = z1 + z2) (he : w1 * u + w2 * v = z1 * p + z2 * q)
  (hu1 : u ≤ hu) (hv1 : v ≤ hu) (hu2 : lu ≤ u) (hv2 : lu ≤ v) (hp1 : p ≤ hp) (hq1 : q ≤ hp) (hp2 : lp ≤ p) (hq2 : lp ≤ q) : lu ≤ hp ∧ lp ≤ hu := by
 rcases hw with ⟨h1, h2, h3, h4⟩ | ⟨h1, h2, h3, h4⟩
 ·obtain ⟨a1, a2⟩ := wavg (M := hu) (m := lu) (Int.le_of_lt h1) (Int.le_of_lt h2) hu1 hv1 hu2 hv2
  obtain ⟨a3, a4⟩ := wavg (M := hp) (m := lp) (Int.le_of_lt h3) (Int.le_of_lt h4) hp1 hq1 hp2 hq2
  rw [← hs] at a3 a4
  exact ⟨Int.le_of_mul_le_mul_left (a := w1 + w2) (by omega) (by omega), Int.le_of_mul_le_mul_left (a := w1 + w2) (by omega) (by omega)⟩
 ·obtain ⟨a1, a2⟩ := wavg (w1 := -w1) (w2 := -w2) (M := hu) (m := lu) (by omega) (by omega) hu1 hv1 hu2 hv2
  obtain ⟨a3, a4⟩ := wavg (w1 := -z1) (w2 := -z2) (M := hp) (m := lp) (by omega) (by omega) hp1 hq1 hp2 hq2
  rw [show -z1 + -z2 = -w1 + -w2 by omega] at a3 a4
  simp only [Int.neg_mul] at a1 a2 a3 a4
  exact ⟨Int.le_of_mul_le_mul_left (a := -w1 + -w2) (by omega) (by omega), Int.le_of_mul_le_mul_left (a := -w1 + -w2) (by omega) (by omega)⟩
theorem mid_x (ax ay bx b_y px py qx qy : Int) :
  ((qx - px) * (ay - py) - (qy - py) * (ax - px)) * bx + (-((qx - px) * (b_y - py) - (qy - py) * (bx - px))) * ax =
  ((bx - ax) * (qy - ay) - (b_y - ay) * (qx - ax)) * px + (-((bx - ax) * (py - ay) - (b_y - ay) * (px - ax))) * qx := by grind
theorem mid_y (ax ay bx b_y px py qx qy : Int) :
  ((qx - px) * (ay - py) - (qy - py) * (ax - px)) * b_y + (-((qx - px) * (b_y - py) - (qy - py) * (bx - px))) * ay =
  ((bx - ax) * (qy - ay) - (b_y - ay) * (qx - ax)) * py + (-((bx - ax) * (py - ay) - (b_y - ay) * (px - ax))) * qy := by grind
theorem mid_s (ax ay bx b_y px py qx qy : Int) :
  ((qx - px) * (ay - py) - (qy - py) * (ax - px)) + (-((qx - px) * (b_y - py) - (qy - py) * (bx - px))) =
  ((bx - ax) * (qy - ay) - (b_y - ay) * (qx - ax)) + (-((bx - ax) * (py - ay) - (b_y - ay) * (px - ax))) := by grind
theorem cross_near {s t : Sg} (h1 : Opp (crs s.a s.b t.a) (crs s.a s.b t.b)) (h2 : Opp (crs t.a t.b s.a) (crs t.a t.b s.b)) : NearP s t := by
 have ex : crs t.a t.b s.a * s.b.x + -crs t.a t.b s.b * s.a.x = crs s.a s.b t.b * t.a.x + -crs s.a s.b t.a * t.b.x := mid_x s.a.x s.a.y s.b.x s.b.y t.a.x t.a.y t.b.x t.b.y
 have ey : crs t.a t.b s.a * s.b.y + -crs t.a t.b s.b * s.a.y = crs s.a s.b t.b * t.a.y + -crs s.a s.b t.a * t.b.y := mid_y s.a.x s.a.y s.b.x s.b.y t.a.x t.a.y t.b.x t.b.y
 have es : crs t.a t.b s.a + -crs t.a t.b s.b = crs s.a s.b t.b + -crs s.a s.b t.a := mid_s s.a.x s.a.y s.b.x s.b.y t.a.x t.a.y t.b.x t.b.y
 generalize crs t.a t.b s.a = c1 at *
 generalize crs t.a t.b s.b = c2 at *
 generalize crs s.a s.b t.a = c3 at *
 generalize crs s.a s.b t.b = c4 at *
 have hw : (0 < c1 ∧ 0 < -c2 ∧ 0 < c4 ∧ 0 < -c3) ∨ (c1 < 0 ∧ -c2 < 0 ∧ c4 < 0 ∧ -c3 < 0) := by unfold Opp at h1 h2; omega
 have rx := wmeet (lu := (lowS s).x) (hu := (highS s).x) (lp := (lowS t).x) (hp := (highS t).x) hw es ex (by simp only [highS]; omega) (by simp only [highS]; omega) (by simp only [lowS]; omega) (by simp only [lowS]; omega) (by simp only [highS]; omega) (by simp only [highS]; omega) (by simp only [lowS]; omega) (by simp only [lowS]; omega)
 have ry := wmeet (lu := (lowS s).y) (hu := (highS s).y) (lp := (lowS t).y) (hp := (highS t).y) hw es ey (by simp only [highS]; omega) (by simp only [highS]; omega) (by simp only [lowS]; omega) (by simp only [lowS]; omega) (by simp only [highS]; omega) (by simp only [highS]; omega) (by simp only [lowS]; omega) (by simp only [lowS]; omega)
 exact ⟨rx.1, rx.2, ry.1, ry.2⟩
theorem on_box {s : Sg} {p : Pt} (h : OnP s p) : ((lowS s).x ≤ p.x ∧ p.x ≤ (highS s).x) ∧ (lowS s).y ≤ p.y ∧ p.y ≤ (highS s).y := (box_dot s p h.1.2.2 h.2.2.1).2 h.2.2.2
theorem touch_near {s t : Sg} (h : TouchP s t) : NearP s t := by
 obtain ⟨hs, ht, h⟩ := h
 rcases h with h | h | h | h | ⟨h1, h2⟩
 ·have := on_box h; simp only [NearP, lowS, highS] at *; omega
 ·have := on_box h; simp only [NearP, lowS, highS] at *; omega
 ·have := on_box h; simp only [NearP, lowS, highS] at *; omega
 ·have := on_box h; simp only [NearP, lowS, highS] at *; omega
 ·unfold crsF at h1 h2
  rw [if_pos (All3_line hs ht.1), if_pos (All3_line hs ht.2.1)] at h1
  rw [if_pos (All3_line ht hs.1), if_pos (All3_line ht hs.2.1)] at h2
  exact cross_near h1 h2
theorem ACalls.res {P : Program} {G : GInv} {f : FuncId} {args : List A} {r r' : A} (h : ACalls P G f args r) (hr : ∀ im w v, RelI im w r v → RelI im w r' v) : ACalls P G f args r' := by
 refine ⟨h.1, fun im w vs h1 h2 h3 h4 => ?_⟩
 refine Calls_mono (h.2 im w vs h1 h2 h3 h4) ?_
 rintro e w' ⟨v, e1, e2, e3⟩
 exact ⟨v, e1, hr _ _ _ e2, e3⟩
theorem pairs_all (hns : ¬ (default : DRT).ns) (l : List Sg) (hk : chk l = 0) : ACalls Tryz.prog G 74 [sgsA l] (.tup [.sl (refR l).length 2 (rowE ePr (refR l)), .int .i64 0]) := by
 by_cases h0 : l.length = 0
 ·have hz : (refR l).length = 0 := by have := refR_len l; rw [h0] at this; omega
  rw [hz]
  refine ACalls.res (pairs_nil l h0) fun im w v h => ?_
  cases h with
  | tup _ vs hl hr =>
   refine .tup _ vs (by simpa using hl) fun j h h' => ?_
   match j, h with
   | 0, _ =>
    have := hr 0 (by simp) h'
    show RelI im w (.sl 0 2 _) vs[0]
    have this : RelI im w .nils vs[0] := this
    generalize vs[0] = x at this
    cases this; exact .sl0 _ _
   | 1, _ => exact hr 1 (by simp) h'
 ·exact pairs_c hns l (by omega) hk
end Go.Proofs.YtcomiiakkhafpaaGreat

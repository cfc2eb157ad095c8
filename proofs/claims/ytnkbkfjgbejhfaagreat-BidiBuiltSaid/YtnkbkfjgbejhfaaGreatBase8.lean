/-
  The walks and plain laws, part 8.
-/
import Derived.Test.YtnkbkfjgbejhfaaGreatBase7
import Derived.Test.YtnkbkfjgbejhfaaGreatBase3
set_option linter.unusedSimpArgs false
set_option linter.unusedSectionVars false
set_option linter.unusedVariables false
set_option maxRecDepth 100000
set_option maxHeartbeats 2000000
namespace Go.Proofs.YtnkbkfjgbejhfaaGreat
open Go.Proofs.YtnkbkfjgbejhfaaGreat.Am Go.HeapL
variable [Inhabited DRT]
variable {G : GInv}
def rr (n : Nat) (r : Nat → Int) (k t : Nat) : Int := if t < k ∨ n < k + t + 1 then r (n - 1 - t) else r t
theorem rr_zero (n : Nat) (r : Nat → Int) (t : Nat) (h : t < n) : rr n r 0 t = r t := by unfold rr; rw [if_neg (by omega)]
theorem rr_end {n k : Nat} {r : Nat → Int} (h : ¬ (k : Int) < (n : Int) - 1 - k) (t : Nat) (ht : t < n) : rr n r k t = r (n - 1 - t) := by
 unfold rr
 split
 ·rfl
 ·congr 1; omega
theorem rev_fit {n k : Nat} {r : Nat → Int} (h : (k : Int) < (n : Int) - 1 - k) (t : Nat) (ht : t < n) :
  updRow (updRow (fun t => [A.int .i64 (rr n r k t)]) (k : Int).toNat [A.int .i64 (rr n r k ((n : Int) - 1 - k).toNat)]) ((n : Int) - 1 - k).toNat [A.int .i64 (rr n r k (k : Int).toNat)] t = [A.int .i64 (rr n r (k + 1) t)] := by
 unfold updRow
 split
 ·rename_i e; subst e
  congr 2
  unfold rr
  rw [if_neg (by omega), if_pos (by omega)]
  congr 1; omega
 ·rename_i h1
  split
  ·rename_i e; subst e
   congr 2
   unfold rr
   rw [if_neg (by omega), if_pos (by omega)]
   congr 1; omega
  ·rename_i h2
   show [A.int .i64 (rr n r k t)] = [A.int .i64 (rr n r (k + 1) t)]
   congr 2
   unfold rr
   by_cases h3 : t < k ∨ n < k + t + 1
   ·rw [if_pos h3, if_pos (by omega)]
   ·rw [if_neg h3, if_neg (by omega)]
theorem reverse_c (n : Nat) (r : Nat → Int) (hn : n ≤ 1000000) :
  MCalls Tryz.prog G 28 [.own 1] [.ghost [.own 1, .junk], .row 3 1 n fun k => [.int .i64 (r k)]] (.tup []) [.ghost [.own 1, .junk], .row 3 1 n fun k => [.int .i64 (r (n - 1 - k))]] := by
 refine MCalls.of_WA ttok Tryz.func28 rfl rfl _ rfl ?_
 conv => whnf
 repeat' (first | refine sq ?_ | refine bk ?_ | ((first | refine rg ttok ?_ | refine dw ttok mixed ?_ | refine cd ?_ | refine sk ?_ | refine xt ?_ | refine rt ?_); conv => whnf) | (refine And.intro (fun h => ?_) (fun h => ?_) <;> (try simp only [brsA] at h) <;> conv => whnf) | ((first | refine wf ?_ | refine wp' ?_ | refine ai ?_ | refine And.intro rfl ?_ | refine an ?_ | fail); conv => whnf))
 refine WA_loopI (fun k => 2 * k ≤ n + 1) (fun k => [(2, .int .i64 (k : Int)), (3, .int .i64 ((n : Int) - 1 - k))]) (fun k => [.ghost [.own 1, .junk], .row 3 1 n fun t => [.int .i64 (rr n r k t)]]) (fun k => n + 1 - k) 0 (by omega) ?_ ?_
 ·conv => whnf
  repeat (first | exact fa | ((first | refine fb ?_ | (refine And.intro ?_ ?_; rotate_left)); conv => whnf))
  ·exact Or.inl fun t ht => by show [A.int .i64 (r t)] = [A.int .i64 (rr n r 0 t)]; rw [rr_zero n r t ht]
  ·omega
 ·intro k hk
  have hk : 2 * k ≤ n + 1 := hk
  conv => whnf
  repeat' (first | ((rw [updRow_ne (show ((n : Int) - 1 - k).toNat ≠ (k : Int).toNat by omega)]; conv => whnf)) | refine sq ?_ | refine bk ?_ | ((first | refine rg ttok ?_ | refine dw ttok mixed ?_ | refine cd ?_ | refine sk ?_ | refine xt ?_ | refine rt ?_); conv => whnf) | (refine And.intro (fun h => ?_) (fun h => ?_) <;> (try simp only [brsA] at h) <;> conv => whnf) | ((first | refine wf ?_ | refine wp' ?_ | refine ai ?_ | refine And.intro rfl ?_ | refine an ?_ | fail); conv => whnf))
  ·have h' : (k : Int) < (n : Int) - 1 - k := h
   refine ⟨k + 1, (by show 2 * (k + 1) ≤ n + 1; omega), (by show n + 1 - (k + 1) < n + 1 - k; omega), ?_⟩
   conv => whnf
   repeat (first | exact fa | ((first | refine fb ?_ | (refine And.intro ?_ ?_; rotate_left)); conv => whnf))
   ·exact Or.inl fun t ht => rev_fit h' t ht
   ·omega
  ·have h' : ¬ (k : Int) < (n : Int) - 1 - k := h
   exact Or.inl fun t ht => by show [A.int .i64 (rr n r k t)] = [A.int .i64 (r (n - 1 - t))]; rw [rr_end h' t ht]
end Go.Proofs.YtnkbkfjgbejhfaaGreat
namespace Go.Proofs.YtnkbkfjgbejhfaaGreat
open Go.Proofs.YtnkbkfjgbejhfaaGreat.Am Go.HeapL
variable [Inhabited DRT]
variable {G : GInv}
theorem row_snocI (p : List Int) (i : Nat) (r2 : Nat → List A) (h2 : r2 0 = [A.int .i64 (p.getD i (-1))]) (k : Nat) (hk : k < i + 1) :
  rowCat i (fun k => [A.int .i64 (p.getD k (-1))]) r2 k = [A.int .i64 (p.getD k (-1))] := by
 unfold rowCat
 split
 ·rfl
 ·rename_i h
  have : ¬ k < i := fun h' => by
   have h3 : Nat.blt k i = true := Nat.ble_eq_true_of_le (show k + 1 ≤ i from h')
   rw [h3] at h; cases h
  have e : k = i := by omega
  subst e
  rw [Nat.sub_self]; exact h2
theorem back_n (S : Sd) (N : Nat) (lk ok : Int → List It) (q : Bool) (v : Int) (p : List Int) (hl : p.length ≤ 1000000) (h0 : p.getD 0 (-1) = v)
  (hp : ∀ i, i < p.length → 0 ≤ p.getD i (-1) ∧ (S.c (p.getD i (-1))).isSome = true ∧ S.f (p.getD i (-1)) = p.getD (i + 1) (-1)) :
  MCalls Tryz.prog G 27 [sideA S N lk ok q, .int .i64 v] [] (.own 0) [.row 3 1 p.length fun k => [.int .i64 (p.getD k (-1))]] := by
 subst h0
 refine MCalls.of_WA ttok Tryz.func27 rfl rfl _ rfl ?_
 conv => whnf
 repeat' (first | refine sq ?_ | refine bk ?_ | ((first | refine rg ttok ?_ | refine dw ttok mixed ?_ | refine cd ?_ | refine sk ?_ | refine xt ?_ | refine rt ?_); conv => whnf) | (refine And.intro (fun h => ?_) (fun h => ?_) <;> (try simp only [brsA] at h) <;> conv => whnf) | ((first | refine wf ?_ | refine wp' ?_ | refine ai ?_ | refine And.intro rfl ?_ | refine an ?_ | fail); conv => whnf))
 refine WA_nil 5 3 1 rfl ?_
 conv => whnf
 refine WA_loopI (fun i => i ≤ p.length) (fun i => [(1, .int .i64 (p.getD i (-1))), (5, .own 0)]) (fun i => [.row 3 1 i fun k => [.int .i64 (p.getD k (-1))]]) (fun i => p.length - i) 0 (by omega) ?_ ?_
 ·conv => whnf
  repeat (first | exact fa | ((first | refine fb ?_ | (refine And.intro ?_ ?_; rotate_left)); conv => whnf))
 ·intro i hi
  have hi : i ≤ p.length := hi
  have hpi := hp i
  have hend : ¬ i < p.length → p.getD i (-1) = -1 := fun h => by rw [List.getD_eq_getElem?_getD, List.getElem?_eq_none (by omega)]; rfl
  have hlt : 0 ≤ p.getD i (-1) → i < p.length := fun h => Classical.byContradiction fun hn => by have := hend hn; omega
  conv => whnf
  repeat' (first | refine sq ?_ | refine bk ?_ | ((first | refine rg ttok ?_ | refine dw ttok mixed ?_ | refine cd ?_ | refine sk ?_ | refine xt ?_ | refine rt ?_); conv => whnf) | (refine And.intro (fun h => ?_) (fun h => ?_) <;> (try simp only [brsA] at h) <;> conv => whnf) | ((first | refine wf ?_ | refine wp' ?_ | refine ai ?_ | refine And.intro rfl ?_ | refine an ?_ | fail); conv => whnf))
  ·rename_i g
   have hlt := hlt g
   refine ⟨i + 1, (by show i + 1 ≤ p.length; omega), (by show p.length - (i + 1) < p.length - i; omega), ?_⟩
   conv => whnf
   repeat (first | exact fa | ((first | refine fb ?_ | (refine And.intro ?_ ?_; rotate_left)); conv => whnf))
   ·exact Or.inl fun k hk => row_snocI p i _ rfl k hk
   ·exact (hpi hlt).2.2
  ·rename_i g
   exact absurd (hpi (hlt g)).2.1 (by rw [show (S.c (p.getD i (-1))).isSome = false from h]; exact Bool.noConfusion)
  ·have e : i = p.length := by
    rcases Nat.lt_or_ge i p.length with h' | h'
    ·have := (hpi h').1; exact absurd this h
    ·omega
   subst e
   repeat (first | exact fa | ((first | refine fb ?_ | (refine And.intro ?_ ?_; rotate_left)); conv => whnf))
theorem back_a (S : Sd) (N : Nat) (lk ok : Int → List It) (q : Bool) (v : Int) (p : List Int) (hl : p.length ≤ 1000000) (h0 : p.getD 0 (-1) = v)
  (hp : ∀ i, i < p.length → 0 ≤ p.getD i (-1) ∧ (S.c (p.getD i (-1))).isSome = true ∧ S.f (p.getD i (-1)) = p.getD (i + 1) (-1)) :
  ACalls Tryz.prog G 27 [sideA S N lk ok q, .int .i64 v] (.sl p.length 1 fun k => [.int .i64 (p.getD k (-1))]) := by
 subst h0
 refine ACalls.of_WA ttok Tryz.func27 rfl rfl _ rfl ?_
 conv => whnf
 repeat' (first | refine sq ?_ | refine bk ?_ | ((first | refine rg ttok ?_ | refine dw ttok mixed ?_ | refine cd ?_ | refine sk ?_ | refine xt ?_ | refine rt ?_); conv => whnf) | (refine And.intro (fun h => ?_) (fun h => ?_) <;> (try simp only [brsA] at h) <;> conv => whnf) | ((first | refine wf ?_ | refine wp' ?_ | refine ai ?_ | refine And.intro rfl ?_ | refine an ?_ | fail); conv => whnf))
 refine WA_nil 5 3 1 rfl ?_
 conv => whnf
 refine WA_loopI (fun i => i ≤ p.length) (fun i => [(1, .int .i64 (p.getD i (-1))), (5, .own 0)]) (fun i => [.row 3 1 i fun k => [.int .i64 (p.getD k (-1))]]) (fun i => p.length - i) 0 (by omega) ?_ ?_
 ·conv => whnf
  repeat (first | exact fa | ((first | refine fb ?_ | (refine And.intro ?_ ?_; rotate_left)); conv => whnf))
 ·intro i hi
  have hi : i ≤ p.length := hi
  have hpi := hp i
  have hend : ¬ i < p.length → p.getD i (-1) = -1 := fun h => by rw [List.getD_eq_getElem?_getD, List.getElem?_eq_none (by omega)]; rfl
  have hlt : 0 ≤ p.getD i (-1) → i < p.length := fun h => Classical.byContradiction fun hn => by have := hend hn; omega
  conv => whnf
  repeat' (first | refine sq ?_ | refine bk ?_ | ((first | refine rg ttok ?_ | refine dw ttok mixed ?_ | refine cd ?_ | refine sk ?_ | refine xt ?_ | refine rt ?_); conv => whnf) | (refine And.intro (fun h => ?_) (fun h => ?_) <;> (try simp only [brsA] at h) <;> conv => whnf) | ((first | refine wf ?_ | refine wp' ?_ | refine ai ?_ | refine And.intro rfl ?_ | refine an ?_ | fail); conv => whnf))
  ·rename_i g
   have hlt := hlt g
   refine ⟨i + 1, (by show i + 1 ≤ p.length; omega), (by show p.length - (i + 1) < p.length - i; omega), ?_⟩
   conv => whnf
   repeat (first | exact fa | ((first | refine fb ?_ | (refine And.intro ?_ ?_; rotate_left)); conv => whnf))
   ·exact Or.inl fun k hk => row_snocI p i _ rfl k hk
   ·exact (hpi hlt).2.2
  ·rename_i g
   exact absurd (hpi (hlt g)).2.1 (by rw [show (S.c (p.getD i (-1))).isSome = false from h]; exact Bool.noConfusion)
  ·have e : i = p.length := by
    rcases Nat.lt_or_ge i p.length with h' | h'
    ·have := (hpi h').1; exact absurd this h
    ·omega
   subst e
   repeat (first | exact fa | ((first | refine fb ?_ | (refine And.intro ?_ ?_; rotate_left)); conv => whnf))
end Go.Proofs.YtnkbkfjgbejhfaaGreat
namespace Go.Proofs.YtnkbkfjgbejhfaaGreat
open Go.Proofs.YtnkbkfjgbejhfaaGreat.Am Go.HeapL
variable [Inhabited DRT]
variable {G : GInv}
abbrev itmA (l : List It) : A := .sl l.length 2 (itR l)
def rbadI (n : Nat) (a : It) : Bool := decide (a.2 < 0) || decide ((n : Int) ≤ a.2) || decide (a.1 < 0) || decide (1152921504606846976 < a.1)
theorem badI_iff {n : Nat} {a : It} : rbadI n a = false ↔ 0 ≤ a.2 ∧ a.2 < n ∧ 0 ≤ a.1 ∧ a.1 ≤ 1152921504606846976 := by
 unfold rbadI
 simp only [Bool.or_eq_false_iff, decide_eq_false_iff_not]
 omega
theorem badI_true {n : Nat} {a : It} : rbadI n a = true ↔ a.2 < 0 ∨ (n : Int) ≤ a.2 ∨ a.1 < 0 ∨ 1152921504606846976 < a.1 := by
 unfold rbadI
 simp only [Bool.or_eq_true, decide_eq_true_eq]
 omega
theorem itp_iff (n : Nat) (l : List It) : ItP n l ↔ l.length ≤ 1000 ∧ l.any (rbadI n) = false := by
 unfold ItP
 rw [List.any_eq_false]
 constructor
 ·rintro ⟨h, h2⟩
  refine ⟨h, fun x hx => ?_⟩
  obtain ⟨i, hi, rfl⟩ := List.getElem_of_mem hx
  have := h2 i hi
  rw [List.getD_eq_getElem?_getD, List.getElem?_eq_getElem hi] at this
  have := badI_iff.2 (show 0 ≤ l[i].2 ∧ l[i].2 < n ∧ 0 ≤ l[i].1 ∧ l[i].1 ≤ 1152921504606846976 from this)
  rw [this]; exact Bool.noConfusion
 ·rintro ⟨h, h2⟩
  refine ⟨h, fun i hi => ?_⟩
  have := h2 l[i] (List.getElem_mem hi)
  rw [List.getD_eq_getElem?_getD, List.getElem?_eq_getElem hi]
  exact badI_iff.1 (by simpa using this)
theorem clo2_c (rk : List Int) (ls : List Lk) (a : It) (hr : rk.length ≤ 1000000) :
  ACalls Tryz.prog G 78 [.agg [.int .i64 a.1, .int .i64 a.2], .bref [intsA rk, lksA ls] 0] (.sb (rbadI rk.length a)) := by
 refine ACalls.of_WA ttok Tryz.func78 rfl rfl _ rfl ?_
 conv => whnf
 repeat' (first | refine sq ?_ | refine bk ?_ | ((first | refine rg ttok ?_ | refine dw ttok mixed ?_ | refine cd ?_ | refine sk ?_ | refine xt ?_ | refine rt ?_); conv => whnf) | (refine And.intro (fun h => ?_) (fun h => ?_) <;> (try simp only [brsA] at h) <;> conv => whnf) | ((first | refine wf ?_ | refine wp' ?_ | refine ai ?_ | refine And.intro rfl ?_ | refine an ?_ | fail); conv => whnf))
 all_goals first
  | exact (badI_true.2 (by omega)).symm
  | (rw [Bool.eq_iff_iff, badI_true, decide_eq_true_eq]; omega)
theorem idx2_c (rk : List Int) (ls : List Lk) (l : List It) (hr : rk.length ≤ 1000000) (hl : l.length ≤ 1000000) :
  ACalls Tryz.prog G 86 [itmA l, .fn 78 [.bref [intsA rk, lksA ls] 0]] (.int .i64 (rfidx (rbadI rk.length) l)) := by
 refine ACalls.of_WA ttok Tryz.func86 rfl rfl _ rfl ?_
 conv => whnf
 repeat' (first | refine sq ?_ | refine bk ?_ | ((first | refine rg ttok ?_ | refine dw ttok mixed ?_ | refine cd ?_ | refine sk ?_ | refine xt ?_ | refine rt ?_); conv => whnf) | (refine And.intro (fun h => ?_) (fun h => ?_) <;> (try simp only [brsA] at h) <;> conv => whnf) | ((first | refine wf ?_ | refine wp' ?_ | refine ai ?_ | refine And.intro rfl ?_ | refine an ?_ | fail); conv => whnf))
 refine WA_loopI (fun i => i ≤ l.length ∧ ∀ j, j < i → rbadI rk.length (l.getD j (0, 0)) = false) (fun i => [(8, .int .i64 (i : Int))]) (fun i => []) (fun i => l.length - i) 0 ⟨by omega, fun j h => by omega⟩ ?_ ?_
 ·conv => whnf
  repeat (first | exact fa | ((first | refine fb ?_ | (refine And.intro ?_ ?_; rotate_left)); conv => whnf))
 ·rintro i ⟨hi, hI⟩
  have h1 := clo2_c (G := G) rk ls (l.getD i (0, 0)) hr
  conv => whnf
  repeat' (first | refine sq ?_ | refine bk ?_ | ((first | refine rg ttok ?_ | refine dw ttok mixed ?_ | refine cd ?_ | refine sk ?_ | refine xt ?_ | refine rt ?_); conv => whnf) | (refine And.intro (fun h => ?_) (fun h => ?_) <;> (try simp only [brsA] at h) <;> conv => whnf) | (refine Or.inl ?_; (conv => whnf); refine ⟨_, h1, ?_⟩; conv => whnf) | ((first | refine wf ?_ | refine wp' ?_ | refine ai ?_ | refine And.intro rfl ?_ | refine an ?_ | fail); conv => whnf))
  ·rw [rfidx_at (by omega) h hI]
  ·refine ⟨i + 1, ⟨(by show i + 1 ≤ l.length; omega), fun j hj => ?_⟩, (by show l.length - (i + 1) < l.length - i; omega), ?_⟩
   ·have hj : j < i + 1 := hj
    by_cases e : j = i
    ·rw [e]; exact h
    ·exact hI j (by omega)
   ·conv => whnf
    repeat (first | exact fa | ((first | refine fb ?_ | (refine And.intro ?_ ?_; rotate_left)); conv => whnf))
  ·rw [rfidx_none (fun j hj => hI j (by omega))]
theorem con2_c (rk : List Int) (ls : List Lk) (l : List It) (hr : rk.length ≤ 1000000) (hl : l.length ≤ 1000000) :
  ACalls Tryz.prog G 77 [itmA l, .fn 78 [.bref [intsA rk, lksA ls] 0]] (.sb (l.any (rbadI rk.length))) := by
 have h1 := idx2_c (G := G) rk ls l hr hl
 refine ACalls.of_WA ttok Tryz.func77 rfl rfl _ rfl ?_
 conv => whnf
 repeat' (first | refine sq ?_ | refine bk ?_ | ((first | refine rg ttok ?_ | refine dw ttok mixed ?_ | refine cd ?_ | refine sk ?_ | refine xt ?_ | refine rt ?_); conv => whnf) | (refine And.intro (fun h => ?_) (fun h => ?_) <;> (try simp only [brsA] at h) <;> conv => whnf) | (refine Or.inl ?_; (conv => whnf); refine ⟨_, h1, ?_⟩; conv => whnf) | ((first | refine wf ?_ | refine wp' ?_ | refine ai ?_ | refine And.intro rfl ?_ | refine an ?_ | fail); conv => whnf))
 rw [← rfidx_any]
theorem itemsB_c (rk : List Int) (ls : List Lk) (l : List It) (hr : rk.length ≤ 1000000) (hl : (l.length : Int) ≤ 4611686018427387904) :
  ACalls Tryz.prog G 46 [.agg [intsA rk, lksA ls], itmA l] (.sb (decide (ItP rk.length l))) := by
 have h1 := fun h => con2_c (G := G) rk ls l hr h
 refine ACalls.of_WA ttok Tryz.func46 rfl rfl _ rfl ?_
 conv => whnf
 repeat' (first | refine sq ?_ | refine bk ?_ | ((first | refine rg ttok ?_ | refine dw ttok mixed ?_ | refine cd ?_ | refine sk ?_ | refine xt ?_ | refine rt ?_); conv => whnf) | (refine And.intro (fun h => ?_) (fun h => ?_) <;> (try simp only [brsA] at h) <;> conv => whnf) | (refine Or.inr (Or.inr (Or.inl ?_)); (conv => whnf); refine ⟨_, (h1 (by omega)), ?_⟩; conv => whnf) | ((first | refine wf ?_ | refine wp' ?_ | refine ai ?_ | refine And.intro rfl ?_ | refine an ?_ | fail); conv => whnf))
 ·have e := itp_iff rk.length l
  cases hb : l.any (rbadI rk.length) with
  | true =>
   rw [hb] at e
   exact (decide_eq_false (fun hi => Bool.noConfusion (e.1 hi).2)).symm
  | false =>
   rw [hb] at e
   exact (decide_eq_true (e.2 ⟨by omega, rfl⟩)).symm
 ·exact (decide_eq_false (fun hi => h (by have := hi.1; omega))).symm
theorem check_c (rk : List Int) (ls : List Lk) (sa sz : List It) (hl : ls.length ≤ 1000000) (hr : rk.length ≤ 1000000) (hla : (sa.length : Int) ≤ 4611686018427387904) (hlz : (sz.length : Int) ≤ 4611686018427387904) :
  ACalls Tryz.prog G 23 [.agg [intsA rk, lksA ls], itmA sa, itmA sz] (.int .i64 (if MayP rk ls ∧ ItP rk.length sa ∧ ItP rk.length sz then 0 else 1)) := by
 have h1 := may_c (G := G) rk ls hl hr
 have h2 := itemsB_c (G := G) rk ls sa hr hla
 have h3 := itemsB_c (G := G) rk ls sz hr hlz
 refine ACalls.of_WA ttok Tryz.func23 rfl rfl _ rfl ?_
 conv => whnf
 repeat' (first | refine sq ?_ | refine bk ?_ | ((first | refine rg ttok ?_ | refine dw ttok mixed ?_ | refine cd ?_ | refine sk ?_ | refine xt ?_ | refine rt ?_); conv => whnf) | (refine And.intro (fun h => ?_) (fun h => ?_) <;> (try simp only [brsA] at h) <;> conv => whnf) | (refine Or.inl ?_; (conv => whnf); (first | refine ⟨_, h1, ?_⟩ | refine ⟨_, h2, ?_⟩ | refine ⟨_, h3, ?_⟩); conv => whnf) | ((first | refine wf ?_ | refine wp' ?_ | refine ai ?_ | refine And.intro rfl ?_ | refine an ?_ | fail); conv => whnf))
 ·exact (if_neg (fun hc => h hc.2.2)).symm
 ·exact (if_pos ⟨by assumption, by assumption, by assumption⟩).symm
 ·exact (if_neg (fun hc => h hc.2.1)).symm
 ·exact (if_neg (fun hc => h hc.1)).symm
end Go.Proofs.YtnkbkfjgbejhfaaGreat
namespace Go.Proofs.YtnkbkfjgbejhfaaGreat
open Go.Proofs.YtnkbkfjgbejhfaaGreat.Am Go.HeapL
variable [Inhabited DRT]
variable {G : GInv}
abbrev Jx (rk : List Int) (ls : List Lk) (sa sz : List It) (q : Bool) (s : St) : Prop := ∃ Da Dz, J rk.length sa sz (upE rk ls) (dnE rk ls) q Da Dz s
theorem J0 {rk : List Int} {ls : List Lk} {sa sz : List It} (q : Bool) (hd : Dat rk.length sa (upE rk ls)) (hd' : Dat rk.length sz (dnE rk ls)) : J rk.length sa sz (upE rk ls) (dnE rk ls) q [] [] (st0 sa sz) := by
 obtain ⟨a1, a2, a3, a4⟩ := beg_inv hd sa Sd0 (fun x h => h) (inv0 _ _ _)
 obtain ⟨z1, z2, z3, z4⟩ := beg_inv hd' sz Sd0 (fun x h => h) (inv0 _ _ _)
 exact ⟨a1, z1, a3, z3, fun u hu => by simp at hu, fun u hu => by simp at hu, fun v h => by simp at h, .inl ⟨rfl, rfl⟩⟩
theorem wle_up {rk : List Int} {ls : List Lk} (hS : SortedP rk.length ls) (v : Int) (i : Nat) (hi : i < (upE rk ls v).length) : 0 ≤ ((upE rk ls v).getD i (0, 0)).1 ∧ ((upE rk ls v).getD i (0, 0)).1 ≤ 1152921504606846976 := by
 have hm : (((upE rk ls v).getD i (0, 0)).1, ((upE rk ls v).getD i (0, 0)).2) ∈ upE rk ls v := mem_gt hi
 obtain ⟨j, hj, e1, e2, e3, _⟩ := (upE_mem rk ls v _ _).1 hm
 have ho := (hS j hj).1
 unfold okL at ho
 rw [← e3]; omega
theorem wle_dn {rk : List Int} {ls : List Lk} (hS : SortedP rk.length ls) (v : Int) (i : Nat) (hi : i < (dnE rk ls v).length) : 0 ≤ ((dnE rk ls v).getD i (0, 0)).1 ∧ ((dnE rk ls v).getD i (0, 0)).1 ≤ 1152921504606846976 := by
 have hm : (((dnE rk ls v).getD i (0, 0)).1, ((dnE rk ls v).getD i (0, 0)).2) ∈ dnE rk ls v := mem_gt hi
 obtain ⟨j, hj, e1, e2, e3, _⟩ := (dnE_mem rk ls v _ _).1 hm
 have ho := (hS j hj).1
 unfold okL at ho
 rw [← e3]; omega
theorem search_ok (rk : List Int) (ls : List Lk) (sa sz : List It) (q : Bool) (hM : MayP rk ls) (ha : ItP rk.length sa) (hz : ItP rk.length sz) :
  ∃ s, Jx rk ls sa sz q s ∧ fin q (upE rk ls) (dnE rk ls) s = true ∧ ∀ G, ACalls Tryz.prog G 24 [.agg [intsA rk, lksA ls], itmA sa, itmA sz, .bool q] (srA rk ls q s) := by
 obtain ⟨hr, hl, hR, hS, _⟩ := hM
 have hd := dat_up hS ha
 have hd' := dat_dn hS hz
 have hJ := J0 q hd hd'
 have hJi := itr_J hd hd' hJ
 obtain ⟨N, hN1, hN2⟩ := itr_end hd hd' hJ
 have ll : ∀ v, (upE rk ls v).length ≤ 1000000 ∧ (dnE rk ls v).length ≤ 1000000 := fun v => ⟨Nat.le_trans (filterMap_len _ _) (by omega), Nat.le_trans (filterMap_len _ _) (by omega)⟩
 refine ⟨itr q (upE rk ls) (dnE rk ls) (st0 sa sz) N, ?_, hN2, fun G => ?_⟩
 ·obtain ⟨Da, Dz, h, _⟩ := hJi N
  exact ⟨Da, Dz, h⟩
 ·refine search_c rk ls sa sz q N (by omega) (by omega) hR hS ha.1 hz.1 (fun i hi => ?_) (fun i hi => ?_) hN1 hN2 (fun i => ?_)
  ·obtain ⟨h, _⟩ := beg_inv hd (sa.take i) Sd0 (fun x h => List.mem_of_mem_take h) (inv0 _ _ _)
   exact ⟨h.nd, by have := h.lenL; omega⟩
  ·obtain ⟨h, _⟩ := beg_inv hd' (sz.take i) Sd0 (fun x h => List.mem_of_mem_take h) (inv0 _ _ _)
   exact ⟨h.nd, by have := h.lenL; omega⟩
  ·obtain ⟨Da, Dz, h, _⟩ := hJi i
   refine ⟨TB_of hd h.ia h.iz (by omega) ll (wle_up hS) (wle_dn hS), ?_⟩
   have h2 : ∃ Da', J rk.length sa sz (upE rk ls) (dnE rk ls) q Da' Dz (hlf q (upE rk ls) (dnE rk ls) (itr q (upE rk ls) (dnE rk ls) (st0 sa sz) i)) := by
    cases ho : okT (itr q (upE rk ls) (dnE rk ls) (st0 sa sz) i).a (itr q (upE rk ls) (dnE rk ls) (st0 sa sz) i).b with
    | false => exact ⟨Da, by rw [hlf_id ho]; exact h⟩
    | true => exact ⟨_, (hlf_J hd h ho).1⟩
   obtain ⟨Da', h'⟩ := h2
   exact TB_of hd' h'.iz h'.ia (by omega) (fun v => ⟨(ll v).2, (ll v).1⟩) (wle_dn hS) (wle_up hS)
end Go.Proofs.YtnkbkfjgbejhfaaGreat
namespace Go.Proofs.YtnkbkfjgbejhfaaGreat
open Go.Proofs.YtnkbkfjgbejhfaaGreat.Am Go.HeapL
variable [Inhabited DRT]
variable {G : GInv}
def wayL (pa pz : List Int) : List Int := pa.reverse ++ pz.drop 1
theorem way_len (pa pz : List Int) : pa.length + (pz.length - Int.toNat 1) = (wayL pa pz).length := by
 unfold wayL
 rw [List.length_append, List.length_reverse, List.length_drop]; rfl
theorem way_row (pa pz : List Int) (k : Nat) (hk : k < pa.length + (pz.length - Int.toNat 1)) :
  rowCat pa.length (fun k => [A.int .i64 (pa.getD (pa.length - 1 - k) (-1))]) (fun i => (fun k => [A.int .i64 (pz.getD k (-1))]) (Int.toNat 1 + i)) k = [A.int .i64 ((wayL pa pz).getD k 0)] := by
 have hk : k < pa.length + (pz.length - 1) := hk
 unfold rowCat wayL
 by_cases h : k < pa.length
 ·rw [show Nat.blt k pa.length = true from Nat.ble_eq_true_of_le (show k + 1 ≤ pa.length from h)]
  show [A.int .i64 (pa.getD (pa.length - 1 - k) (-1))] = _
  congr 2
  rw [List.getD_eq_getElem?_getD, List.getD_eq_getElem?_getD, List.getElem?_append_left (by rw [List.length_reverse]; exact h), List.getElem?_reverse h, List.getElem?_eq_getElem (show pa.length - 1 - k < pa.length by omega)]
  rfl
 ·have hb : Nat.blt k pa.length = false := by
   cases hc : Nat.blt k pa.length with
   | false => rfl
   | true => exact absurd (Nat.le_of_ble_eq_true hc) h
  rw [hb]
  show [A.int .i64 (pz.getD (1 + (k - pa.length)) (-1))] = _
  congr 2
  rw [List.getD_eq_getElem?_getD, List.getD_eq_getElem?_getD, List.getElem?_append_right (by rw [List.length_reverse]; omega), List.length_reverse, List.getElem?_drop, List.getElem?_eq_getElem (show 1 + (k - pa.length) < pz.length by omega)]
  rfl
structure Sml (rk : List Int) (ls : List Lk) (sa sz : List It) : Prop where
 hl : ls.length ≤ 1000000
 hr : rk.length ≤ 1000000
 ha : (sa.length : Int) ≤ 4611686018427387904
 hz : (sz.length : Int) ≤ 4611686018427387904
def PB (S : Sd) (p : List Int) : Prop := ∀ i, i < p.length → 0 ≤ p.getD i (-1) ∧ (S.c (p.getD i (-1))).isSome = true ∧ S.f (p.getD i (-1)) = p.getD (i + 1) (-1)
theorem way_none (rk : List Int) (ls : List Lk) (sa sz : List It) (hs : Sml rk ls sa sz) (h : (MayP rk ls ∧ ItP rk.length sa ∧ ItP rk.length sz)) (s : St)
  (h2 : ACalls Tryz.prog G 24 [.agg [intsA rk, lksA ls], itmA sa, itmA sz, .bool false] (srA rk ls false s)) (h3 : s.b.pt < 0) :
  ACalls Tryz.prog G 12 [.agg [intsA rk, lksA ls], itmA sa, itmA sz] (.tup [intsA [], .int .i64 0, .int .i64 12]) := by
 have h1 := check_c (G := G) rk ls sa sz hs.hl hs.hr hs.ha hs.hz
 rw [if_pos h] at h1
 refine ACalls.of_WA ttok Tryz.func12 rfl rfl _ rfl ?_
 conv => whnf
 repeat' (first | refine sq ?_ | refine bk ?_ | ((first | refine rg ttok ?_ | refine dw ttok mixed ?_ | refine cd ?_ | refine sk ?_ | refine xt ?_ | refine rt ?_); conv => whnf) | (refine And.intro (fun h => ?_) (fun h => ?_) <;> (try simp only [brsA] at h) <;> conv => whnf) | (refine Or.inl ?_; (conv => whnf); (first | refine ⟨_, h1, ?_⟩ | refine ⟨_, h2, ?_⟩); conv => whnf) | ((first | refine wf ?_ | refine wp' ?_ | refine ai ?_ | refine And.intro rfl ?_ | refine an ?_ | fail); conv => whnf))
 ·exact absurd trivial h
 ·exact absurd h3 h
theorem way_some (rk : List Int) (ls : List Lk) (sa sz : List It) (hs : Sml rk ls sa sz) (h : (MayP rk ls ∧ ItP rk.length sa ∧ ItP rk.length sz)) (s : St)
  (h2 : ACalls Tryz.prog G 24 [.agg [intsA rk, lksA ls], itmA sa, itmA sz, .bool false] (srA rk ls false s)) (h3 : ¬ s.b.pt < 0) (pa pz : List Int)
  (ha0 : pa.getD 0 (-1) = s.b.pt) (hz0 : pz.getD 0 (-1) = s.b.pt) (hpa : PB s.a pa) (hpz : PB s.z pz) (hla : pa.length ≤ 100000) (hlz : pz.length ≤ 100000) (hlz0 : 1 ≤ pz.length) :
  ACalls Tryz.prog G 12 [.agg [intsA rk, lksA ls], itmA sa, itmA sz] (.tup [intsA (wayL pa pz), .int .i64 s.b.cost, .int .i64 0]) := by
 have h1 := check_c (G := G) rk ls sa sz hs.hl hs.hr hs.ha hs.hz
 rw [if_pos h] at h1
 have h4 := back_n (G := G) s.a rk.length (upE rk ls) (dnE rk ls) false s.b.pt pa (by omega) ha0 hpa
 have h5 := back_a (G := G) s.z rk.length (dnE rk ls) (upE rk ls) false s.b.pt pz (by omega) hz0 hpz
 have h6 := reverse_c (G := G) pa.length (fun k => pa.getD k (-1)) (by omega)
 refine ACalls.of_WA ttok Tryz.func12 rfl rfl _ rfl ?_
 conv => whnf
 repeat' (first | refine sq ?_ | refine bk ?_ | ((first | refine rg ttok ?_ | refine dw ttok mixed ?_ | refine cd ?_ | refine sk ?_ | refine xt ?_ | refine rt ?_); conv => whnf) | (refine And.intro (fun h => ?_) (fun h => ?_) <;> (try simp only [brsA] at h) <;> conv => whnf) | (refine Or.inl ?_; (conv => whnf); (first | refine ⟨_, h1, ?_⟩ | refine ⟨_, h2, ?_⟩ | refine ⟨_, h5, ?_⟩); conv => whnf) | (refine Or.inr (Or.inl ?_); (conv => whnf); refine ⟨_, _, h6, ?_⟩; conv => whnf) | ((first | refine Or.inr (Or.inr (Or.inr ?_)) | refine Or.inr ?_); (conv => whnf); refine ⟨_, _, h4, ?_⟩; conv => whnf) | ((first | refine wf ?_ | refine wp' ?_ | refine ai ?_ | refine And.intro rfl ?_ | refine an ?_ | fail); conv => whnf))
 ·exact absurd trivial h
 ·exact absurd h h3
 ·repeat (first | exact fa | ((first | refine fb ?_ | (refine And.intro ?_ ?_; rotate_left)); conv => whnf))
  ·exact way_len pa pz
  ·exact Or.inl fun k hk => way_row pa pz k hk
theorem cost_c (rk : List Int) (ls : List Lk) (sa sz : List It) (w : List Int) (c e : Int) (h : ACalls Tryz.prog G 12 [.agg [intsA rk, lksA ls], itmA sa, itmA sz] (.tup [intsA w, .int .i64 c, .int .i64 e])) :
  ACalls Tryz.prog G 9 [.agg [intsA rk, lksA ls], itmA sa, itmA sz] (.tup [.int .i64 c, .int .i64 e]) := by
 refine ACalls.of_WA ttok Tryz.func9 rfl rfl _ rfl ?_
 conv => whnf
 repeat' (first | refine sq ?_ | refine bk ?_ | ((first | refine rg ttok ?_ | refine dw ttok mixed ?_ | refine cd ?_ | refine sk ?_ | refine xt ?_ | refine rt ?_); conv => whnf) | (refine And.intro (fun h => ?_) (fun h => ?_) <;> (try simp only [brsA] at h) <;> conv => whnf) | (refine Or.inl ?_; (conv => whnf); refine ⟨_, h, ?_⟩; conv => whnf) | ((first | refine wf ?_ | refine wp' ?_ | refine ai ?_ | refine And.intro rfl ?_ | refine an ?_ | fail); conv => whnf))
theorem quick_none (rk : List Int) (ls : List Lk) (sa sz : List It) (hs : Sml rk ls sa sz) (h : (MayP rk ls ∧ ItP rk.length sa ∧ ItP rk.length sz)) (s : St) (h2 : ACalls Tryz.prog G 24 [.agg [intsA rk, lksA ls], itmA sa, itmA sz, .bool true] (srA rk ls true s)) (h3 : s.b.pt < 0) :
  ACalls Tryz.prog G 10 [.agg [intsA rk, lksA ls], itmA sa, itmA sz] (.tup [.int .i64 0, .int .i64 12]) := by
 have h1 := check_c (G := G) rk ls sa sz hs.hl hs.hr hs.ha hs.hz
 rw [if_pos h] at h1
 refine ACalls.of_WA ttok Tryz.func10 rfl rfl _ rfl ?_
 conv => whnf
 repeat' (first | refine sq ?_ | refine bk ?_ | ((first | refine rg ttok ?_ | refine dw ttok mixed ?_ | refine cd ?_ | refine sk ?_ | refine xt ?_ | refine rt ?_); conv => whnf) | (refine And.intro (fun h => ?_) (fun h => ?_) <;> (try simp only [brsA] at h) <;> conv => whnf) | (refine Or.inl ?_; (conv => whnf); (first | refine ⟨_, h1, ?_⟩ | refine ⟨_, h2, ?_⟩); conv => whnf) | ((first | refine wf ?_ | refine wp' ?_ | refine ai ?_ | refine And.intro rfl ?_ | refine an ?_ | fail); conv => whnf))
 ·exact absurd trivial h
 ·exact absurd h3 h
theorem quick_some (rk : List Int) (ls : List Lk) (sa sz : List It) (hs : Sml rk ls sa sz) (h : (MayP rk ls ∧ ItP rk.length sa ∧ ItP rk.length sz)) (s : St) (h2 : ACalls Tryz.prog G 24 [.agg [intsA rk, lksA ls], itmA sa, itmA sz, .bool true] (srA rk ls true s)) (h3 : ¬ s.b.pt < 0) :
  ACalls Tryz.prog G 10 [.agg [intsA rk, lksA ls], itmA sa, itmA sz] (.tup [.int .i64 s.b.cost, .int .i64 0]) := by
 have h1 := check_c (G := G) rk ls sa sz hs.hl hs.hr hs.ha hs.hz
 rw [if_pos h] at h1
 refine ACalls.of_WA ttok Tryz.func10 rfl rfl _ rfl ?_
 conv => whnf
 repeat' (first | refine sq ?_ | refine bk ?_ | ((first | refine rg ttok ?_ | refine dw ttok mixed ?_ | refine cd ?_ | refine sk ?_ | refine xt ?_ | refine rt ?_); conv => whnf) | (refine And.intro (fun h => ?_) (fun h => ?_) <;> (try simp only [brsA] at h) <;> conv => whnf) | (refine Or.inl ?_; (conv => whnf); (first | refine ⟨_, h1, ?_⟩ | refine ⟨_, h2, ?_⟩); conv => whnf) | ((first | refine wf ?_ | refine wp' ?_ | refine ai ?_ | refine And.intro rfl ?_ | refine an ?_ | fail); conv => whnf))
 ·exact absurd trivial h
 ·exact absurd h h3
end Go.Proofs.YtnkbkfjgbejhfaaGreat
namespace Go.Proofs.YtnkbkfjgbejhfaaGreat
open Go.Proofs.YtnkbkfjgbejhfaaGreat.Am Go.HeapL
variable [Inhabited DRT]
variable {G : GInv}
theorem refItems_c (rk : List Int) (ls : List Lk) (l : List It) (hr : rk.length ≤ 1000000) (hl : l.length ≤ 1000000) :
  ACalls Tryz.prog G 22 [.agg [intsA rk, lksA ls], itmA l] (.sb (decide (ItP rk.length l))) := by
 refine ACalls.of_WA ttok Tryz.func22 rfl rfl _ rfl ?_
 conv => whnf
 repeat' (first | refine sq ?_ | refine bk ?_ | ((first | refine rg ttok ?_ | refine dw ttok mixed ?_ | refine cd ?_ | refine sk ?_ | refine xt ?_ | refine rt ?_); conv => whnf) | (refine And.intro (fun h => ?_) (fun h => ?_) <;> (try simp only [brsA] at h) <;> conv => whnf) | ((first | refine wf ?_ | refine wp' ?_ | refine ai ?_ | refine And.intro rfl ?_ | refine an ?_ | fail); conv => whnf))
 refine WA_loopI (fun i => i ≤ l.length ∧ ∀ j, j < i → rbadI rk.length (l.getD j (0, 0)) = false) (fun i => [(5, .int .i64 (i : Int))]) (fun i => [.box 32 [intsA rk, lksA ls]]) (fun i => l.length - i) 0 ⟨by omega, fun j h => by omega⟩ ?_ ?_
 ·conv => whnf
  repeat (first | exact fa | ((first | refine fb ?_ | (refine And.intro ?_ ?_; rotate_left)); conv => whnf))
 ·rintro i ⟨hi, hI⟩
  have hi : i ≤ l.length := hi
  have hbad : i < l.length → rbadI rk.length (l.getD i (0, 0)) = true → decide (ItP rk.length l) = false := fun h hb => decide_eq_false fun hp => by
   have := badI_iff.2 (hp.2 i h)
   rw [this] at hb; cases hb
  conv => whnf
  repeat' (first | refine sq ?_ | refine bk ?_ | ((first | refine rg ttok ?_ | refine dw ttok mixed ?_ | refine cd ?_ | refine sk ?_ | refine xt ?_ | refine rt ?_); conv => whnf) | (refine And.intro (fun h => ?_) (fun h => ?_) <;> (try simp only [brsA] at h) <;> conv => whnf) | ((first | refine wf ?_ | refine wp' ?_ | refine ai ?_ | refine And.intro rfl ?_ | refine an ?_ | fail); conv => whnf))
  ·exact (hbad (by omega) (badI_true.2 (.inl h))).symm
  ·exact (hbad (by omega) (badI_true.2 (.inr (.inl h)))).symm
  ·exact (hbad (by omega) (badI_true.2 (.inr (.inr (.inl h))))).symm
  ·exact (hbad (by omega) (badI_true.2 (.inr (.inr (.inr h))))).symm
  ·have hg : rbadI rk.length (l.getD i (0, 0)) = false := badI_iff.2 (show 0 ≤ (l.getD (i : Int).toNat (0, 0)).2 ∧ (l.getD (i : Int).toNat (0, 0)).2 < rk.length ∧ 0 ≤ (l.getD (i : Int).toNat (0, 0)).1 ∧ (l.getD (i : Int).toNat (0, 0)).1 ≤ 1152921504606846976 from by omega)
   refine ⟨i + 1, ⟨(by show i + 1 ≤ l.length; omega), fun j hj => ?_⟩, (by show l.length - (i + 1) < l.length - i; omega), ?_⟩
   ·have hj : j < i + 1 := hj
    by_cases e : j = i
    ·rw [e]; exact hg
    ·exact hI j (by omega)
   ·conv => whnf
    repeat (first | exact fa | ((first | refine fb ?_ | (refine And.intro ?_ ?_; rotate_left)); conv => whnf))
  ·have e : i = l.length := by omega
   subst e
   rw [decide_eq_decide]
   exact ⟨fun h => ⟨by omega, fun j hj => badI_iff.1 (hI j hj)⟩, fun h => by have := h.1; omega⟩
theorem refMay33_c (rk : List Int) (ls : List Lk) (sa sz : List It) (hl : ls.length ≤ 1000000) (hr : rk.length ≤ 1000000) (ha : sa.length ≤ 1000000) (hz : sz.length ≤ 1000000) :
  ACalls Tryz.prog G 8 [.agg [intsA rk, lksA ls], itmA sa, itmA sz] (.sb (decide (MayP rk ls ∧ ItP rk.length sa ∧ ItP rk.length sz))) := by
 have h1 := refMay_c (G := G) rk ls hl hr
 have h2 := refItems_c (G := G) rk ls sa hr ha
 have h3 := refItems_c (G := G) rk ls sz hr hz
 refine ACalls.of_WA ttok Tryz.func8 rfl rfl _ rfl ?_
 conv => whnf
 repeat' (first | refine sq ?_ | refine bk ?_ | ((first | refine rg ttok ?_ | refine dw ttok mixed ?_ | refine cd ?_ | refine sk ?_ | refine xt ?_ | refine rt ?_); conv => whnf) | (refine And.intro (fun h => ?_) (fun h => ?_) <;> (try simp only [brsA] at h) <;> conv => whnf) | (refine Or.inl ?_; (conv => whnf); (first | refine ⟨_, h1, ?_⟩ | refine ⟨_, h2, ?_⟩ | refine ⟨_, h3, ?_⟩); conv => whnf) | ((first | refine wf ?_ | refine wp' ?_ | refine ai ?_ | refine And.intro rfl ?_ | refine an ?_ | fail); conv => whnf))
 ·rename_i g
  rw [decide_eq_decide]
  exact ⟨fun hz => ⟨g, h, hz⟩, fun hc => hc.2.2⟩
 ·exact (decide_eq_false fun hc => h hc.2.1).symm
 ·exact (decide_eq_false fun hc => h hc.1).symm
end Go.Proofs.YtnkbkfjgbejhfaaGreat
namespace Go.Proofs.YtnkbkfjgbejhfaaGreat
open Go.Proofs.YtnkbkfjgbejhfaaGreat.Am Go.HeapL
variable [Inhabited DRT]
variable {G : GInv}
end Go.Proofs.YtnkbkfjgbejhfaaGreat
namespace Go.Proofs.YtnkbkfjgbejhfaaGreat
open Go.Proofs.YtnkbkfjgbejhfaaGreat.Am Go.HeapL
variable [Inhabited DRT]
variable {G : GInv}
end Go.Proofs.YtnkbkfjgbejhfaaGreat
namespace Go.Proofs.YtnkbkfjgbejhfaaGreat
open Go.Proofs.YtnkbkfjgbejhfaaGreat.Am Go.HeapL
variable [Inhabited DRT]
variable {G : GInv}
end Go.Proofs.YtnkbkfjgbejhfaaGreat
namespace Go.Proofs.YtnkbkfjgbejhfaaGreat
open Go.Proofs.YtnkbkfjgbejhfaaGreat.Am Go.HeapL
variable [Inhabited DRT]
structure Good (ls : List Lk) (sa sz : List It) (w : List Int) (ka kz : Int) : Prop where
 l1 : 1 ≤ w.length
 l2 : w.length ≤ 1000000
 ch : chn ls w
 m1 : (ka, w.getD 0 0) ∈ sa
 m2 : ∀ k', (k', w.getD 0 0) ∈ sa → ka ≤ k'
 n1 : (kz, w.getD (w.length - 1) 0) ∈ sz
 n2 : ∀ k', (k', w.getD (w.length - 1) 0) ∈ sz → kz ≤ k'
theorem lastD_append (xs : List Int) (v : Int) (ys : List Int) : (xs ++ v :: ys).getLastD 0 = (v :: ys).getLastD 0 := by
 rw [List.getLastD_eq_getLast?, List.getLastD_eq_getLast?, List.getLast?_append]
 cases h : (v :: ys).getLast? with
 | none => simp at h
 | some a => rfl
theorem last_getD (l : List Int) (h : 1 ≤ l.length) : l.getD (l.length - 1) 0 = l.getLastD 0 := by
 rw [List.getLastD_eq_getLast?, List.getLast?_eq_getElem?, List.getD_eq_getElem?_getD]
theorem first_rev (l : List Int) : l.reverse.getD 0 0 = l.getLastD 0 := by
 rw [List.getLastD_eq_getLast?, List.getD_eq_getElem?_getD, ← List.head?_eq_getElem?, List.head?_reverse]
theorem way_join {rk : List Int} {ls : List Lk} {sa sz : List It} (hS : SortedP rk.length ls) {pa pz : List Int} {ka kz pt : Int} (h1 : PC sa (upE rk ls) pa ka) (h2 : PC sz (dnE rk ls) pz kz)
  (ha : pa.head? = some pt) (hz : pz.head? = some pt) (hla : pa.length ≤ 100000) (hlz : pz.length ≤ 100000) :
  ∃ k0 k1, Good ls sa sz (wayL pa pz) k0 k1 ∧ k0 + k1 + wsum ls (wayL pa pz) = ka + kz := by
 obtain ⟨c1, k0, a1, a2, a3⟩ := pc_up hS h1
 obtain ⟨c2, k1, b1, b2, b3⟩ := pc_dn hS h2
 cases pa with
 | nil => cases ha
 | cons x xs =>
  cases pz with
  | nil => cases hz
  | cons y ys =>
   simp only [List.head?_cons, Option.some.injEq] at ha hz
   subst ha; subst hz
   have e : wayL (y :: xs) (y :: ys) = xs.reverse ++ y :: ys := by
    unfold wayL
    simp
   have hf : (xs.reverse ++ y :: ys).getD 0 0 = (y :: xs).getLastD 0 := by
    rw [← first_rev, List.reverse_cons]
    cases xs.reverse <;> rfl
   have hg : (xs.reverse ++ y :: ys).getD ((xs.reverse ++ y :: ys).length - 1) 0 = (y :: ys).getLastD 0 := by
    rw [last_getD _ (by rw [List.length_append, List.length_cons]; omega), lastD_append]
   simp only [List.reverse_cons] at c1 a3
   rw [e]
   refine ⟨k0, k1, ⟨by rw [List.length_append, List.length_cons]; omega, by rw [List.length_cons] at hla hlz; rw [List.length_append, List.length_reverse, List.length_cons]; omega, chn_app ls y ys _ c1 c2, ?_, ?_, ?_, ?_⟩, ?_⟩
   ·rw [hf]; exact a1
   ·rw [hf]; exact a2
   ·rw [hg]; exact b1
   ·rw [hg]; exact b2
   ·rw [wsum_app, a3, b3]; omega
theorem pth_PB {n : Int} {st : List It} {lk : Int → List It} {D : List Int} {S : Sd} (h : Inv n st lk D S) (p : List Int) (hp : ∀ i, i < p.length → ∃ k', S.c (p.getD i (-1)) = some k' ∧ S.f (p.getD i (-1)) = p.getD (i + 1) (-1)) : PB S p := fun i hi => by
 obtain ⟨k', e1, e2⟩ := hp i hi
 have := h.rng _ _ e1
 exact ⟨this.1, by rw [e1]; rfl, e2⟩
/-- What Way answers. -/
theorem way_law (rk : List Int) (ls : List Lk) (sa sz : List It) (hs : Sml rk ls sa sz) (h : MayP rk ls ∧ ItP rk.length sa ∧ ItP rk.length sz) :
  ∃ (w : List Int) (c e : Int) (s : St), (∀ G, ACalls Tryz.prog G 12 [.agg [intsA rk, lksA ls], itmA sa, itmA sz] (.tup [intsA w, .int .i64 c, .int .i64 e])) ∧
   (∀ G, ACalls Tryz.prog G 24 [.agg [intsA rk, lksA ls], itmA sa, itmA sz, .bool false] (srA rk ls false s)) ∧ Jx rk ls sa sz false s ∧
   ((minV (two sa sz (upE rk ls) (dnE rk ls)) = NC ∧ w = [] ∧ c = 0 ∧ e = 12) ∨
    (minV (two sa sz (upE rk ls) (dnE rk ls)) < NC ∧ minV (two sa sz (upE rk ls) (dnE rk ls)) = c ∧ e = 0 ∧ ∃ ka kz, Good ls sa sz w ka kz ∧ ka + kz + wsum ls w = c)) := by
 obtain ⟨s, ⟨Da, Dz, hJ⟩, hf, hc⟩ := search_ok rk ls sa sz false h.1 h.2.1 h.2.2
 obtain ⟨hr, hl, hR, hS, _⟩ := h.1
 have hd := dat_up hS h.2.1
 have hd' := dat_dn hS h.2.2
 have hm := minV_eq (fin_isMin hd hd' hJ hf)
 rcases hJ.bb with ⟨h1, h2⟩ | ⟨h0, h1, _⟩
 ·exact ⟨[], 0, 12, s, fun G => way_none rk ls sa sz hs h s (hc G) (by omega), hc, ⟨Da, Dz, hJ⟩, .inl ⟨by rw [hm, h2], rfl, rfl, rfl⟩⟩
 ·obtain ⟨ka, kz, e1, e2, e3⟩ := fin_sum hd hd' hJ hf (by omega)
  have ra := hJ.ia.rng _ _ e1
  obtain ⟨Na, _, pa1, pa2, pa3, pa4⟩ := pth_ok hJ.ia hJ.ba (rkN rk) (rise_up hR hS) rk.length s.b.pt ka (by have := rkN_le hR (v := s.b.pt) ⟨ra.1, ra.2.1⟩; omega) e1
  obtain ⟨Nz, _, pz1, pz2, pz3, pz4⟩ := pth_ok hJ.iz hJ.bz (rkN rk) (rise_dn hR hS) rk.length s.b.pt kz (by have := rkN_le hR (v := s.b.pt) ⟨ra.1, ra.2.1⟩; omega) e2
  generalize pth s.a.f Na s.b.pt = pa at *
  generalize pth s.z.f Nz s.b.pt = pz at *
  obtain ⟨k0, k1, g, hg⟩ := way_join hS pa1 pz1 pa3 pz3 (by omega) (by omega)
  have gd : ∀ p : List Int, p.head? = some s.b.pt → p.getD 0 (-1) = s.b.pt := fun p hp => by
   cases p with
   | nil => cases hp
   | cons x l => simpa using hp
  refine ⟨wayL pa pz, s.b.cost, 0, s, fun G => way_some rk ls sa sz hs h s (hc G) (by omega) pa pz (gd pa pa3) (gd pz pz3) (pth_PB hJ.ia pa pa4) (pth_PB hJ.iz pz pz4) (by omega) (by omega) ?_, hc, ⟨Da, Dz, hJ⟩, .inr ⟨by rw [hm]; exact h1, hm, rfl, k0, k1, g, by rw [hg, e3]⟩⟩
  cases pz with
  | nil => cases pz3
  | cons x l => rw [List.length_cons]; omega
end Go.Proofs.YtnkbkfjgbejhfaaGreat
namespace Go.Proofs.YtnkbkfjgbejhfaaGreat
open Go.Proofs.YtnkbkfjgbejhfaaGreat.Am Go.HeapL
variable [Inhabited DRT]
variable {G : GInv}
def rk0 : List Int := [0, 2, 1]
def ls0 : List Lk := [⟨0, 1, 7, -1⟩, ⟨1, 2, 4, -1⟩]
def sa0 : List It := [(1, 0)]
def sz0 : List It := [(2, 2)]
theorem ok0 : MayP rk0 ls0 ∧ ItP rk0.length sa0 ∧ ItP rk0.length sz0 := by decide
theorem two0 : two sa0 sz0 (upE rk0 ls0) (dnE rk0 ls0) 14 :=
 ⟨1, 8, 6, .step (u := 0) (d := 1) (w := 7) (.start (by decide)) (by decide), .step (u := 2) (d := 2) (w := 4) (.start (by decide)) (by decide), rfl⟩
theorem pos0 (x y : Int) (h : 0 ≤ posL ls0 x y) : (x = 0 ∧ y = 1 ∧ wAt ls0 x y = 7) ∨ (x = 1 ∧ y = 2 ∧ wAt ls0 x y = 4) := by
 rcases posL_cases ls0 x y with ⟨h1, _⟩ | ⟨i, h1, h2, h3, h4⟩
 ·omega
 ·unfold wAt
  rw [h1]
  have : i = 0 ∨ i = 1 := by have : i < 2 := h2; omega
  rcases this with rfl | rfl
  ·exact .inl ⟨h3.symm, h4.symm, rfl⟩
  ·exact .inr ⟨h3.symm, h4.symm, rfl⟩
theorem good0 {w : List Int} {ka kz : Int} (h : Good ls0 sa0 sz0 w ka kz) : ka + kz + wsum ls0 w = 14 ∧ w = [0, 1, 2] := by
 have m1 := h.m1
 have n1 := h.n1
 simp only [sa0, sz0, List.mem_singleton, Prod.mk.injEq] at m1 n1
 have hc := h.ch
 match w, h.l1, m1, n1, hc with
 | [x], _, m1, n1, _ => simp at m1 n1; omega
 | [x, y], _, m1, n1, hc =>
  have := pos0 x y hc.1
  simp at m1 n1; omega
 | [x, y, z], _, m1, n1, hc =>
  have p1 := pos0 x y hc.1
  have p2 := pos0 y z hc.2.1
  simp at m1 n1
  simp only [wsum]
  refine ⟨by omega, ?_⟩
  rw [show x = 0 by omega, show y = 1 by omega, show z = 2 by omega]
 | x :: y :: z :: u :: l, _, m1, n1, hc =>
  have p1 := pos0 x y hc.1
  have p2 := pos0 y z hc.2.1
  have p3 := pos0 z u hc.2.2.1
  simp at m1; omega
theorem way0 (G : GInv) : ACalls Tryz.prog G 12 [.agg [intsA rk0, lksA ls0], itmA sa0, itmA sz0] (.tup [intsA [0, 1, 2], .int .i64 14, .int .i64 0]) := by
 obtain ⟨w, c, e, s, h1, _, _, h | ⟨_, _, he, ka, kz, hg, hw⟩⟩ := way_law rk0 ls0 sa0 sz0 ⟨by decide, by decide, by decide, by decide⟩ ok0
 ·have hm := minV_min (P := two sa0 sz0 (upE rk0 ls0) (dnE rk0 ls0)) (by
   rintro d ⟨v, a, b, w1, w2, rfl⟩
   have a1 := (wk_ok (dat_up ok0.1.2.2.2.1 ok0.2.1) w1).2.2
   have a2 := (wk_ok (dat_dn ok0.1.2.2.2.1 ok0.2.2) w2).2.2
   omega)
  have := hm.2.1 14 two0
  rw [h.1] at this
  unfold NC at this
  omega
 ·obtain ⟨g1, g2⟩ := good0 hg
  have := h1 G
  rw [g2, he, ← hw, g1] at this
  exact this
theorem lit2 : andL (fitA.fitL 6 0 [A.agg [.sl 3 1 fun i => takeL 1 (List.drop (i * 1) [A.int .i64 0, A.int .i64 2, A.int .i64 1]), .sl 2 4 fun i => takeL 4 (List.drop (i * 4) [A.int .i64 0, A.int .i64 1, A.int .i64 7, A.int .i64 (-1), A.int .i64 1, A.int .i64 2, A.int .i64 4, A.int .i64 (-1)])], .sl 1 2 fun i => takeL 2 (List.drop (i * 2) [A.int .i64 1, A.int .i64 0]), .sl 1 2 fun i => takeL 2 (List.drop (i * 2) [A.int .i64 2, A.int .i64 2])] [.agg [intsA rk0, lksA ls0], itmA sa0, itmA sz0]) := by
 conv => whnf
 repeat (first | exact fa | ((first | refine fb ?_ | (refine And.intro ?_ ?_; rotate_left)); conv => whnf))
 all_goals (refine Or.inl fun i hi => ?_; rcases i with _ | _ | _ | _ | i <;> first | rfl | omega)
theorem awake_c : ACalls Tryz.prog G 6 [] (.bool true) := by
 have h1 := (way0 G).fit lit2
 refine ACalls.of_WA ttok Tryz.func6 rfl rfl _ rfl ?_
 conv => whnf
 repeat' (first | refine sq ?_ | refine bk ?_ | ((first | refine rg ttok ?_ | refine dw ttok mixed ?_ | refine cd ?_ | refine sk ?_ | refine xt ?_ | refine rt ?_); conv => whnf) | (refine And.intro (fun h => ?_) (fun h => ?_) <;> (try simp only [brsA] at h) <;> conv => whnf) | (refine Or.inr (Or.inr (Or.inl ?_)); (conv => whnf); refine ⟨_, h1, ?_⟩; conv => whnf) | ((first | refine wf ?_ | refine wp' ?_ | refine ai ?_ | refine And.intro rfl ?_ | refine an ?_ | fail); conv => whnf))
 all_goals first
  | (exfalso; exact h trivial)
  | (exfalso; exact h rfl)
  | rfl
end Go.Proofs.YtnkbkfjgbejhfaaGreat

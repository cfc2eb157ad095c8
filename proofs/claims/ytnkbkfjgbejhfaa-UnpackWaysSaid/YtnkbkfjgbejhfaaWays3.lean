/-
  The law of ways: where there is one.
-/
import Derived.Test.YtnkbkfjgbejhfaaWays2
set_option linter.unusedSimpArgs false
set_option linter.unusedSectionVars false
set_option linter.unusedVariables false
set_option maxRecDepth 100000
set_option maxHeartbeats 4000000
namespace Go.Proofs.Ytnkbkfjgbejhfaa
open Go.Proofs.Ytnkbkfjgbejhfaa.Am Go.HeapL
variable [Inhabited DRT]
variable {G : GInv}
theorem csA_nn {g : Gr} : ∀ (a : Int) (l : List Int), arA g a l → 0 ≤ csA g a l
 | _, [], _ => Int.le_refl _
 | a, x :: l, h => by
  have := csA_nn x l h.2
  have := h.1
  show 0 ≤ arcW g a x + csA g x l
  omega
theorem drop_cons {l : List Int} {i : Nat} (h : i < l.length) : l.drop i = l.getD i 0 :: l.drop (i + 1) := by
 rw [List.drop_eq_getElem_cons h, List.getD_eq_getElem?_getD, List.getElem?_eq_getElem h]; rfl
theorem ways_good (g : Gr) (rk : List Int) (ls : List Lk) (hB : Blt G g rk ls) (l : List Int) (h0 : 0 < l.length) (h12 : l.length ≤ 12) (hm : GMay g) (hW : WayP rk ls l l.length) (W : List Int) (hW1 : 1 ≤ W.length) (hW2 : W.length ≤ 100000) (hWa : W.getD 0 0 = l.getD 0 0) (hWz : W.getD (W.length - 1) 0 = l.getD (l.length - 1) 0) (hWk : arA g (W.getD 0 0) (W.drop 1)) (hWs : csA g (W.getD 0 0) (W.drop 1) = wayS ls l (l.length - 1))
  (hy : ACalls Try.prog G 23 [.agg [intsA rk, lksA ls], intsA l] (.tup [intsA W, .int .i64 0])) (hAw : ACalls Try.prog G 22 [] (.bool true)) : ACalls Try.prog G 6 [gA g, intsA l] (.bool true) := by
 obtain ⟨h1, h2, hsz, ho, hrl, hn, hst, hl, hS, hM, hw⟩ := hB
 have hSb := wayS_bd hS hw (rk := rk) (l := l) (l.length - 1) (by omega) (by rw [show l.length - 1 + 1 = l.length by omega]; exact hW)
 have hWz' : W.getD ((W.length : Int) - 1).toNat 0 = l.getD ((l.length : Int) - 1).toNat 0 := by rw [show ((W.length : Int) - 1).toNat = W.length - 1 by omega, show ((l.length : Int) - 1).toNat = l.length - 1 by omega]; exact hWz
 have hWa' : W.getD (Int.toNat 0) 0 = l.getD (Int.toNat 0) 0 := hWa
 refine ACalls.of_WA ttok Try.func6 rfl rfl _ rfl ?_
 conv => whnf
 repeat' (first | ((exfalso; exact h trivial)) | ((exfalso; exact h rfl)) | (exact Bool.noConfusion h) | refine sq ?_ | refine bk ?_ | ((first | refine rg ttok ?_ | refine dw ttok mixed ?_ | refine cd ?_ | refine sk ?_ | refine xt ?_ | refine rt ?_); conv => whnf) | (refine And.intro (fun h => ?_) (fun h => ?_) <;> (try simp only [brsA] at h) <;> first | (exfalso; omega) | (conv => whnf)) | (refine Or.inl ?_; (conv => whnf); (first | refine ⟨_, h1, ?_⟩ | refine ⟨_, h2, ?_⟩ | refine ⟨_, hAw, ?_⟩ | refine ⟨_, ho, ?_⟩ | refine ⟨_, hsz, ?_⟩ | refine ⟨_, hy, ?_⟩); conv => whnf) | ((first | refine wf ?_ | refine wp' ?_ | refine ai ?_ | refine And.intro rfl ?_ | refine an ?_ | fail); conv => whnf))
 refine WA_loopI (fun i : Nat => i ≤ l.length ∧ WayP rk ls l i) (fun i => [(10, .int .i64 (i : Int)), (9, .int .i64 (wayS ls l (i - 1))), (11, .junk), (12, .junk)]) (fun _ => [.box 24 [intsA g.st, intsA g.hd, intsA g.wt], .box 29 [intsA rk, lksA ls]]) (fun i => l.length - i) 0 ⟨Nat.zero_le _, fun i hi => by omega⟩ ?_ ?_
 ·conv => whnf
  repeat (first | exact fa | ((first | refine fb ?_ | (refine And.intro ?_ ?_; rotate_left)); conv => whnf))
 ·rintro i ⟨hi, hI⟩
  have hi : i ≤ l.length := hi
  by_cases e : i = l.length
  ·subst e
   conv => whnf
   repeat' (first | ((exfalso; exact h trivial)) | ((exfalso; exact h rfl)) | (exact Bool.noConfusion h) | ((exact absurd h (Int.lt_irrefl _))) | refine sq ?_ | refine bk ?_ | ((first | refine rg ttok ?_ | refine dw ttok mixed ?_ | refine cd ?_ | refine sk ?_ | refine xt ?_ | refine rt ?_); conv => whnf) | (refine And.intro (fun h => ?_) (fun h => ?_) <;> (try simp only [brsA] at h) <;> first | (exfalso; omega) | (conv => whnf)) | (refine Or.inl ?_; (conv => whnf); refine ⟨_, hAw, ?_⟩; conv => whnf) | ((first | refine wf ?_ | refine wp' ?_ | refine ai ?_ | refine And.intro rfl ?_ | refine an ?_ | fail); conv => whnf))
   refine WA_loopI (ι := Nat) (fun i => 1 ≤ i ∧ i ≤ W.length ∧ arA g (W.getD (i - 1) 0) (W.drop i) ∧ csA g (W.getD (i - 1) 0) (W.drop i) ≤ 211106232532992) (fun i => [(13, .int .i64 (i : Int)), (9, .int .i64 (csA g (W.getD (i - 1) 0) (W.drop i))), (14, .junk)]) (fun _ => [.box 24 [intsA g.st, intsA g.hd, intsA g.wt], .box 29 [intsA rk, lksA ls]]) (fun i => W.length - i) 1 ⟨Nat.le_refl _, hW1, hWk, by show csA g (W.getD 0 0) (W.drop 1) ≤ _; rw [hWs]; omega⟩ ?_ ?_
   ·conv => whnf
    repeat (first | exact fa | ((first | refine fb ?_ | (refine And.intro ?_ ?_; rotate_left)); conv => whnf))
    exact hWs.symm
   ·rintro k ⟨k1, k2, k3, k4⟩
    have k1 : 1 ≤ k := k1
    have k2 : k ≤ W.length := k2
    have k5 := csA_nn _ _ k3
    by_cases ek : k = W.length
    ·have e0 : csA g (W.getD (k - 1) 0) (W.drop k) = 0 := by rw [ek, List.drop_length]; rfl
     subst ek
     conv => whnf
     repeat' (first | ((exact absurd h (Int.lt_irrefl _))) | refine sq ?_ | refine bk ?_ | ((first | refine rg ttok ?_ | refine dw ttok mixed ?_ | refine cd ?_ | refine sk ?_ | refine xt ?_ | refine rt ?_); conv => whnf) | (refine And.intro (fun h => ?_) (fun h => ?_) <;> (try simp only [brsA] at h) <;> conv => whnf) | (refine Or.inl ?_; (conv => whnf); refine ⟨_, hAw, ?_⟩; conv => whnf) | ((first | refine wf ?_ | refine wp' ?_ | refine ai ?_ | refine And.intro rfl ?_ | refine an ?_ | fail); conv => whnf))
     all_goals first | (exfalso; omega) | skip
    ·have hd := drop_cons (show k < W.length by omega)
     have a1 : 0 ≤ arcW g (W.getD ((k : Int) - 1).toNat 0) (W.getD (k : Int).toNat 0) := by
      rw [hd] at k3
      rw [show ((k : Int) - 1).toNat = k - 1 by omega]; exact k3.1
     have a2 : csA g (W.getD (k - 1) 0) (W.drop k) = arcW g (W.getD ((k : Int) - 1).toNat 0) (W.getD (k : Int).toNat 0) + csA g (W.getD (k + 1 - 1) 0) (W.drop (k + 1)) := by
      rw [hd, show ((k : Int) - 1).toNat = k - 1 by omega]; rfl
     have a3 : arA g (W.getD (k + 1 - 1) 0) (W.drop (k + 1)) := by
      rw [hd] at k3; exact k3.2
     have a4 := csA_nn _ _ a3
     conv => whnf
     repeat' (first | refine sq ?_ | refine bk ?_ | ((first | refine rg ttok ?_ | refine dw ttok mixed ?_ | refine cd ?_ | refine sk ?_ | refine xt ?_ | refine rt ?_); conv => whnf) | (refine And.intro (fun h => ?_) (fun h => ?_) <;> (try simp only [brsA] at h) <;> first | (exfalso; omega) | (conv => whnf)) | (refine Or.inl ?_; (conv => whnf); refine ⟨_, arc_c g hm _ _, ?_⟩; conv => whnf) | ((first | refine wf ?_ | refine wp' ?_ | refine ai ?_ | refine And.intro rfl ?_ | refine an ?_ | fail); conv => whnf))
     ·refine ⟨k + 1, ⟨by omega, by omega, a3, by omega⟩, (by show W.length - (k + 1) < W.length - k; omega), ?_⟩
      conv => whnf
      repeat (first | exact fa | ((first | refine fb ?_ | (refine And.intro ?_ ?_; rotate_left)); conv => whnf))
      all_goals first | omega | skip
  ·have hv : 0 ≤ l.getD (i : Int).toNat 0 ∧ l.getD (i : Int).toNat 0 < rk.length := (hW i (by omega)).1
   by_cases ei : i = 0
   ·subst ei
    conv => whnf
    repeat' (first | ((exfalso; exact h trivial)) | ((exfalso; exact h rfl)) | (exact Bool.noConfusion h) | refine sq ?_ | refine bk ?_ | ((first | refine rg ttok ?_ | refine dw ttok mixed ?_ | refine cd ?_ | refine sk ?_ | refine xt ?_ | refine rt ?_); conv => whnf) | (refine And.intro (fun h => ?_) (fun h => ?_) <;> (try simp only [brsA] at h) <;> first | (exfalso; omega) | (conv => whnf)) | (refine Or.inl ?_; (conv => whnf); refine ⟨_, hAw, ?_⟩; conv => whnf) | ((first | refine wf ?_ | refine wp' ?_ | refine ai ?_ | refine And.intro rfl ?_ | refine an ?_ | fail); conv => whnf))
    ·refine ⟨0 + 1, ⟨by omega, wayP_step hI ⟨by assumption, h⟩ (fun h => by omega)⟩, (by show l.length - (0 + 1) < l.length - 0; omega), ?_⟩
     conv => whnf
     repeat (first | exact fa | ((first | refine fb ?_ | (refine And.intro ?_ ?_; rotate_left)); conv => whnf))
   ·have hb := wayS_bd hS hw (rk := rk) (l := l) (i - 1) (by omega) (by rw [show i - 1 + 1 = i by omega]; exact hI)
    have hz : 0 ≤ posL ls (l.getD ((i : Int) - 1).toNat 0) (l.getD (i : Int).toNat 0) := by rw [show ((i : Int) - 1).toNat = i - 1 by omega]; exact (hW i (by omega)).2 (by omega)
    have hp := posL_in hS (l.getD ((i : Int) - 1).toNat 0) (l.getD (i : Int).toNat 0)
    have hq := fun h => hw (lkP ls (l.getD ((i : Int) - 1).toNat 0) (l.getD (i : Int).toNat 0)) (lkP_mem hS h)
    unfold lkP at hq
    conv => whnf
    repeat' (first | ((exfalso; exact h trivial)) | ((exfalso; exact h rfl)) | (exact Bool.noConfusion h) | refine sq ?_ | refine bk ?_ | ((first | refine rg ttok ?_ | refine dw ttok mixed ?_ | refine cd ?_ | refine sk ?_ | refine xt ?_ | refine rt ?_); conv => whnf) | (refine And.intro (fun h => ?_) (fun h => ?_) <;> (try simp only [brsA] at h) <;> first | (exfalso; omega) | (conv => whnf)) | (refine Or.inl ?_; (conv => whnf); (first | refine ⟨_, refLink_p _ _ _ (by omega), ?_⟩ | refine ⟨_, hAw, ?_⟩); conv => whnf) | ((first | refine wf ?_ | refine wp' ?_ | refine ai ?_ | refine And.intro rfl ?_ | refine an ?_ | fail); conv => whnf))
    ·have es : wayS ls l (i + 1 - 1) = wayS ls l (i - 1) + (ls.getD (posL ls (l.getD ((i : Int) - 1).toNat 0) (l.getD (i : Int).toNat 0)).toNat default).w := by
      obtain ⟨j, rfl⟩ : ∃ j, i = j + 1 := ⟨i - 1, by omega⟩
      rw [show ((j + 1 : Nat) : Int).toNat = j + 1 by omega, show (((j + 1 : Nat) : Int) - 1).toNat = j by omega]
      rfl
     have hp' : 0 ≤ posL ls (l.getD (i - 1) 0) (l.getD i 0) := by
      have h := h
      rw [show ((i : Int) - 1).toNat = i - 1 by omega, Int.toNat_natCast] at h
      exact h
     refine ⟨i + 1, ⟨by omega, wayP_step hI ⟨by assumption, by assumption⟩ (fun _ => hp')⟩, (by show l.length - (i + 1) < l.length - i; omega), ?_⟩
     conv => whnf
     repeat (first | exact fa | ((first | refine fb ?_ | (refine And.intro ?_ ?_; rotate_left)); conv => whnf))
     all_goals first | exact es.symm | skip
end Go.Proofs.Ytnkbkfjgbejhfaa

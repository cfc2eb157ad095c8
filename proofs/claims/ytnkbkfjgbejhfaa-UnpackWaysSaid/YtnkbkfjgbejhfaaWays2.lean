/-
  The law of ways: where there is none.
-/
import Derived.Test.YtnkbkfjgbejhfaaWays1
set_option linter.unusedSimpArgs false
set_option linter.unusedSectionVars false
set_option linter.unusedVariables false
set_option maxRecDepth 100000
set_option maxHeartbeats 4000000
namespace Go.Proofs.Ytnkbkfjgbejhfaa
open Go.Proofs.Ytnkbkfjgbejhfaa.Am Go.HeapL
variable [Inhabited DRT]
variable {G : GInv}
theorem ways_far (g : Gr) (l : List Int) (hn : ¬ (NearG g ∧ l.length ≤ 12)) (hAw : ACalls Try.prog G 22 [] (.bool true)) : ACalls Try.prog G 6 [gA g, intsA l] (.bool true) := by
 have h1 := small_c (G := G) g
 have h2 := fun a b c => may_near (G := G) (g := g) a b c
 unfold NearG at hn
 by_cases hs : g.st.length ≤ 40 ∧ g.hd.length ≤ 300 ∧ g.wt.length ≤ 300
 ·have h2 := h2 hs.1 hs.2.1 hs.2.2
  rw [decide_eq_true hs] at h1
  by_cases hm : GMay g
  ·rw [decide_eq_true hm] at h2
   have hl : 14 < g.st.length ∨ 12 < l.length := by
    by_cases e : 14 < g.st.length
    ·exact .inl e
    ·by_cases e2 : 12 < l.length
     ·exact .inr e2
     ·exact absurd ⟨⟨by omega, hs.2.1, hs.2.2, hm⟩, by omega⟩ hn
   clear hn hm
   refine ACalls.of_WA ttok Try.func6 rfl rfl _ rfl ?_
   conv => whnf
   repeat' (first | ((exfalso; exact h trivial)) | ((exfalso; exact h rfl)) | (exact Bool.noConfusion h) | refine sq ?_ | refine bk ?_ | ((first | refine rg ttok ?_ | refine dw ttok mixed ?_ | refine cd ?_ | refine sk ?_ | refine xt ?_ | refine rt ?_); conv => whnf) | (refine And.intro (fun h => ?_) (fun h => ?_) <;> (try simp only [brsA] at h) <;> first | (exfalso; omega) | (conv => whnf)) | (refine Or.inl ?_; (conv => whnf); (first | refine ⟨_, h1, ?_⟩ | refine ⟨_, h2, ?_⟩ | refine ⟨_, hAw, ?_⟩); conv => whnf) | ((first | refine wf ?_ | refine wp' ?_ | refine ai ?_ | refine And.intro rfl ?_ | refine an ?_ | fail); conv => whnf))
  ·rw [decide_eq_false hm] at h2
   clear hn
   refine ACalls.of_WA ttok Try.func6 rfl rfl _ rfl ?_
   conv => whnf
   repeat' (first | ((exfalso; exact h trivial)) | ((exfalso; exact h rfl)) | (exact Bool.noConfusion h) | refine sq ?_ | refine bk ?_ | ((first | refine rg ttok ?_ | refine dw ttok mixed ?_ | refine cd ?_ | refine sk ?_ | refine xt ?_ | refine rt ?_); conv => whnf) | (refine And.intro (fun h => ?_) (fun h => ?_) <;> (try simp only [brsA] at h) <;> first | (exfalso; omega) | (conv => whnf)) | (refine Or.inl ?_; (conv => whnf); (first | refine ⟨_, h1, ?_⟩ | refine ⟨_, h2, ?_⟩ | refine ⟨_, hAw, ?_⟩); conv => whnf) | ((first | refine wf ?_ | refine wp' ?_ | refine ai ?_ | refine And.intro rfl ?_ | refine an ?_ | fail); conv => whnf))
 ·rw [decide_eq_false hs] at h1
  clear hn hs
  refine ACalls.of_WA ttok Try.func6 rfl rfl _ rfl ?_
  conv => whnf
  repeat' (first | ((exfalso; exact h trivial)) | ((exfalso; exact h rfl)) | (exact Bool.noConfusion h) | refine sq ?_ | refine bk ?_ | ((first | refine rg ttok ?_ | refine dw ttok mixed ?_ | refine cd ?_ | refine sk ?_ | refine xt ?_ | refine rt ?_); conv => whnf) | (refine And.intro (fun h => ?_) (fun h => ?_) <;> (try simp only [brsA] at h) <;> first | (exfalso; omega) | (conv => whnf)) | (refine Or.inl ?_; (conv => whnf); (first | refine ⟨_, h1, ?_⟩ | refine ⟨_, hAw, ?_⟩); conv => whnf) | ((first | refine wf ?_ | refine wp' ?_ | refine ai ?_ | refine And.intro rfl ?_ | refine an ?_ | fail); conv => whnf))
/-- What the law asks of what is built. -/
structure Blt (G : GInv) (g : Gr) (rk : List Int) (ls : List Lk) : Prop where
 h1 : ACalls Try.prog G 7 [gA g] (.sb true)
 h2 : ACalls Try.prog G 8 [gA g] (.sb true)
 hsz : ACalls Try.prog G 11 [gA g] (.int .i64 (g.n : Int))
 ho : ACalls Try.prog G 10 [gA g] (.tup [.agg [intsA rk, lksA ls], .int .i64 0])
 hrl : rk.length = g.n
 hn : g.n ≤ 13
 hst : g.st.length ≤ 14
 hl : ls.length ≤ 784
 hS : SortedP g.n ls
 hM : MayP rk ls
 hw : ∀ x ∈ ls, 0 ≤ x.w ∧ x.w ≤ 17592186044416
theorem blt (hns : (default : DRT).ns) (g : Gr) (hn : NearG g) : Blt G g (ofB g).rk (lsB g) := by
 obtain ⟨l1, l2, l3, hm⟩ := hn
 have h1 := small_c (G := G) g
 rw [decide_eq_true (by omega)] at h1
 have h2 := may_near (G := G) (g := g) (by omega) l2 l3
 rw [decide_eq_true hm] at h2
 have hg1 := hm.1.1
 have hn' : (g.st.length : Int) - 1 = g.n := by show _ = ((g.st.length - 1 : Nat) : Int); omega
 have h28 : g.n ≤ 28 := by omega
 have hok := hm.ok
 have hsz := rsize19_c (G := G) g (by omega)
 rw [hn'] at hsz
 have hll := fin_len hok h28
 have h13 : g.n * g.n ≤ 28 * 28 := Nat.mul_le_mul h28 h28
 refine ⟨h1, h2, hsz, of_ok (G := G) hns g hm h28, fin_rl hok h28, by omega, l1, by omega, fin_sorted hok h28, fin_may hok h28, fun x hx => ?_⟩
 have hk := (fin_BI hok h28).kd ((fin_mem x).1 hx)
 have hp : (2147483648 : Int) * 2 ^ g.n ≤ 17592186044416 := by
  have h2 : (2 : Nat) ^ g.n ≤ 2 ^ 13 := Nat.pow_le_pow_right (by omega) (by omega)
  have e : ((2 ^ g.n : Nat) : Int) = (2 : Int) ^ g.n := by simp
  rw [← e]
  have e2 : (2 : Nat) ^ 13 = 8192 := by decide
  omega
 exact ⟨hk.2.2.2.2.1, by omega⟩
theorem ways_nil (g : Gr) (rk : List Int) (ls : List Lk) (hB : Blt G g rk ls) (l : List Int) (h0 : l.length = 0) (hAw : ACalls Try.prog G 22 [] (.bool true)) : ACalls Try.prog G 6 [gA g, intsA l] (.bool true) := by
 obtain ⟨h1, h2, hsz, ho, hrl, hn, hst, hl, hS, hM, hw⟩ := hB
 have hy := way_nil (G := G) rk ls (by omega) (by omega) hM l h0
 refine ACalls.of_WA ttok Try.func6 rfl rfl _ rfl ?_
 conv => whnf
 repeat' (first | ((exfalso; exact h trivial)) | ((exfalso; exact h rfl)) | (exact Bool.noConfusion h) | refine sq ?_ | refine bk ?_ | ((first | refine rg ttok ?_ | refine dw ttok mixed ?_ | refine cd ?_ | refine sk ?_ | refine xt ?_ | refine rt ?_); conv => whnf) | (refine And.intro (fun h => ?_) (fun h => ?_) <;> (try simp only [brsA] at h) <;> first | (exfalso; omega) | (conv => whnf)) | (refine Or.inl ?_; (conv => whnf); (first | refine ⟨_, h1, ?_⟩ | refine ⟨_, h2, ?_⟩ | refine ⟨_, hAw, ?_⟩ | refine ⟨_, ho, ?_⟩ | refine ⟨_, hsz, ?_⟩ | refine ⟨_, hy, ?_⟩); conv => whnf) | ((first | refine wf ?_ | refine wp' ?_ | refine ai ?_ | refine And.intro rfl ?_ | refine an ?_ | fail); conv => whnf))
end Go.Proofs.Ytnkbkfjgbejhfaa
namespace Go.Proofs.Ytnkbkfjgbejhfaa
open Go.Proofs.Ytnkbkfjgbejhfaa.Am Go.HeapL
variable [Inhabited DRT]
variable {G : GInv}
theorem wayS_bd {n : Nat} {ls : List Lk} (hS : SortedP n ls) (hw : ∀ x ∈ ls, 0 ≤ x.w ∧ x.w ≤ 17592186044416) {rk : List Int} {l : List Int} : ∀ k, k < l.length → WayP rk ls l (k + 1) → 0 ≤ wayS ls l k ∧ wayS ls l k ≤ 17592186044416 * k
 | 0, _, _ => by simp [wayS]
 | k + 1, hk, hW => by
  have ih := wayS_bd hS hw (rk := rk) (l := l) k (by omega) (fun i hi => hW i (by omega))
  have hp := (hW (k + 1) (by omega)).2 (by omega)
  have := hw _ (lkP_mem hS (a := l.getD k 0) (b := l.getD (k + 1) 0) hp)
  unfold wayS
  omega
theorem wayP_step {rk : List Int} {ls : List Lk} {l : List Int} {i : Nat} (h : WayP rk ls l i) (h1 : 0 ≤ l.getD i 0 ∧ l.getD i 0 < rk.length) (h2 : 0 < i → 0 ≤ posL ls (l.getD (i - 1) 0) (l.getD i 0)) : WayP rk ls l (i + 1) := fun j hj => by
 by_cases e : j = i
 ·subst e; exact ⟨h1, h2⟩
 ·exact h j (by omega)
theorem ways_none (g : Gr) (rk : List Int) (ls : List Lk) (hB : Blt G g rk ls) (l : List Int) (h0 : 0 < l.length) (h12 : l.length ≤ 12) (hW : ¬ WayP rk ls l l.length) (hAw : ACalls Try.prog G 22 [] (.bool true)) : ACalls Try.prog G 6 [gA g, intsA l] (.bool true) := by
 obtain ⟨h1, h2, hsz, ho, hrl, hn, hst, hl, hS, hM, hw⟩ := hB
 have hy := way_none (G := G) rk ls (by omega) (by omega) hM l h0 h12 hW
 refine ACalls.of_WA ttok Try.func6 rfl rfl _ rfl ?_
 conv => whnf
 repeat' (first | ((exfalso; exact h trivial)) | ((exfalso; exact h rfl)) | (exact Bool.noConfusion h) | refine sq ?_ | refine bk ?_ | ((first | refine rg ttok ?_ | refine dw ttok mixed ?_ | refine cd ?_ | refine sk ?_ | refine xt ?_ | refine rt ?_); conv => whnf) | (refine And.intro (fun h => ?_) (fun h => ?_) <;> (try simp only [brsA] at h) <;> first | (exfalso; omega) | (conv => whnf)) | (refine Or.inl ?_; (conv => whnf); (first | refine ⟨_, h1, ?_⟩ | refine ⟨_, h2, ?_⟩ | refine ⟨_, hAw, ?_⟩ | refine ⟨_, ho, ?_⟩ | refine ⟨_, hsz, ?_⟩ | refine ⟨_, hy, ?_⟩); conv => whnf) | ((first | refine wf ?_ | refine wp' ?_ | refine ai ?_ | refine And.intro rfl ?_ | refine an ?_ | fail); conv => whnf))
 refine WA_loopI (fun i : Nat => i ≤ l.length ∧ WayP rk ls l i) (fun i => [(10, .int .i64 (i : Int)), (9, .int .i64 (wayS ls l (i - 1))), (11, .junk), (12, .junk)]) (fun _ => [.box 24 [intsA g.st, intsA g.hd, intsA g.wt], .box 29 [intsA rk, lksA ls]]) (fun i => l.length - i) 0 ⟨Nat.zero_le _, fun i hi => by omega⟩ ?_ ?_
 ·conv => whnf
  repeat (first | exact fa | ((first | refine fb ?_ | (refine And.intro ?_ ?_; rotate_left)); conv => whnf))
 ·rintro i ⟨hi, hI⟩
  have hi : i ≤ l.length := hi
  by_cases e : i = l.length
  ·subst e; exact absurd hI hW
  ·by_cases ei : i = 0
   ·subst ei
    conv => whnf
    repeat' (first | ((exfalso; exact h trivial)) | ((exfalso; exact h rfl)) | (exact Bool.noConfusion h) | refine sq ?_ | refine bk ?_ | ((first | refine rg ttok ?_ | refine dw ttok mixed ?_ | refine cd ?_ | refine sk ?_ | refine xt ?_ | refine rt ?_); conv => whnf) | (refine And.intro (fun h => ?_) (fun h => ?_) <;> (try simp only [brsA] at h) <;> first | (exfalso; omega) | (conv => whnf)) | (refine Or.inl ?_; (conv => whnf); refine ⟨_, hAw, ?_⟩; conv => whnf) | ((first | refine wf ?_ | refine wp' ?_ | refine ai ?_ | refine And.intro rfl ?_ | refine an ?_ | fail); conv => whnf))
    ·refine ⟨0 + 1, ⟨by omega, wayP_step hI ⟨by assumption, h⟩ (fun h => by omega)⟩, (by show l.length - (0 + 1) < l.length - 0; omega), ?_⟩
     conv => whnf
     repeat (first | exact fa | ((first | refine fb ?_ | (refine And.intro ?_ ?_; rotate_left)); conv => whnf))
   ·have hb := wayS_bd hS hw (rk := rk) (l := l) (i - 1) (by omega) (by rw [show i - 1 + 1 = i by omega]; exact hI)
    have hp := posL_in hS (l.getD ((i : Int) - 1).toNat 0) (l.getD (i : Int).toNat 0)
    have hq := fun h => hw (lkP ls (l.getD ((i : Int) - 1).toNat 0) (l.getD (i : Int).toNat 0)) (lkP_mem hS h)
    unfold lkP at hq
    conv => whnf
    repeat' (first | ((exfalso; exact h trivial)) | ((exfalso; exact h rfl)) | (exact Bool.noConfusion h) | refine sq ?_ | refine bk ?_ | ((first | refine rg ttok ?_ | refine dw ttok mixed ?_ | refine cd ?_ | refine sk ?_ | refine xt ?_ | refine rt ?_); conv => whnf) | (refine And.intro (fun h => ?_) (fun h => ?_) <;> (try simp only [brsA] at h) <;> first | (exfalso; omega) | (conv => whnf)) | (refine Or.inl ?_; (conv => whnf); (first | refine ⟨_, refLink_p _ _ _ (by omega), ?_⟩ | refine ⟨_, hAw, ?_⟩); conv => whnf) | ((first | refine wf ?_ | refine wp' ?_ | refine ai ?_ | refine And.intro rfl ?_ | refine an ?_ | fail); conv => whnf))
    ·have es : wayS ls l (i + 1 - 1) = wayS ls l (i - 1) + (ls.getD (posL ls (l.getD ((i : Int) - 1).toNat 0) (l.getD (i : Int).toNat 0)).toNat default).w := by
      obtain ⟨j, rfl⟩ : ∃ j, i = j + 1 := ⟨i - 1, by omega⟩
      rw [show ((j + 1 : Nat) : Int).toNat = j + 1 by omega, show (((j + 1 : Nat) : Int) - 1).toNat = j by omega]
      rfl
     have hp' : 0 ≤ posL ls (l.getD (i - 1) 0) (l.getD i 0) := by
      have h := h
      rw [show ((i : Int) - 1).toNat = i - 1 by omega, Int.toNat_natCast] at h
      exact h
     refine ⟨i + 1, ⟨by omega, wayP_step hI ⟨by assumption, by assumption⟩ (fun _ => hp')⟩, (by show l.length - (i + 1) < l.length - i; omega), ?_⟩
     conv => whnf
     repeat (first | exact fa | ((first | refine fb ?_ | (refine And.intro ?_ ?_; rotate_left)); conv => whnf))
     all_goals first | exact es.symm | skip
end Go.Proofs.Ytnkbkfjgbejhfaa

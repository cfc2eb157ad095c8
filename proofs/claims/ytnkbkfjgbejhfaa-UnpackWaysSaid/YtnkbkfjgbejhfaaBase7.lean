/-
  The walks and plain laws, part 7.
-/
import Derived.Test.YtnkbkfjgbejhfaaBase6
set_option linter.unusedSimpArgs false
set_option linter.unusedSectionVars false
set_option linter.unusedVariables false
set_option maxRecDepth 100000
set_option maxHeartbeats 1000000
namespace Go.Proofs.Ytnkbkfjgbejhfaa
open Go.Proofs.Ytnkbkfjgbejhfaa.Am Go.HeapL
variable [Inhabited DRT]
variable {G : GInv}
/-! ### Each link is up from one vertex, or down to one -/
/-- The vertex that a link is told at. -/
def ownL (rk : List Int) (x : Lk) : Int := if rkI rk x.f < rkI rk x.t then x.f else x.t
theorem own_len (rk : List Int) (v : Int) : ∀ ls : List Lk, (∀ x ∈ ls, rkI rk x.f ≠ rkI rk x.t) → (ls.filterMap (upF rk v)).length + (ls.filterMap (downF rk v)).length = (ls.filter fun x => decide (ownL rk x = v)).length
 | [], _ => rfl
 | x :: ls, h => by
  have ih := own_len rk v ls fun y hy => h y (List.mem_cons_of_mem _ hy)
  have hx := h x List.mem_cons_self
  rw [List.filterMap_cons, List.filterMap_cons, List.filter_cons]
  by_cases hl : rkI rk x.f < rkI rk x.t
  ·have eo : ownL rk x = x.f := if_pos hl
   have ed : downF rk v x = none := if_neg fun hc => by
    have h1 := hc.1; subst h1
    have h2 : rkI rk x.t < rkI rk x.f := hc.2
    omega
   rw [eo, ed]
   by_cases e : x.f = v
   ·have eu : upF rk v x = some (x.w, x.t) := if_pos ⟨e, by rw [← e]; exact hl⟩
    rw [eu, decide_eq_true e]
    simp only [List.length_cons, if_true]; omega
   ·have eu : upF rk v x = none := if_neg fun hc => e hc.1
    rw [eu, decide_eq_false e]
    exact ih
  ·have hl' : rkI rk x.t < rkI rk x.f := by omega
   have eo : ownL rk x = x.t := if_neg hl
   have eu : upF rk v x = none := if_neg fun hc => by
    have h1 := hc.1; subst h1
    exact hl hc.2
   rw [eo, eu]
   by_cases e : x.t = v
   ·have ed : downF rk v x = some (x.w, x.f) := if_pos ⟨e, by rw [← e]; exact hl'⟩
    rw [ed, decide_eq_true e]
    simp only [List.length_cons, if_true]; omega
   ·have ed : downF rk v x = none := if_neg fun hc => e hc.1
    rw [ed, decide_eq_false e]
    exact ih
/-- How many links are told at the first vertices. -/
def ownN (rk : List Int) (ls : List Lk) (k : Nat) : Nat := (ls.filter fun x => decide (ownL rk x < k)).length
theorem ownN_succ (rk : List Int) (k : Nat) : ∀ ls : List Lk, ownN rk ls (k + 1) = ownN rk ls k + (ls.filter fun x => decide (ownL rk x = k)).length
 | [] => rfl
 | x :: ls => by
  have ih := ownN_succ rk k ls
  unfold ownN at *
  rw [List.filter_cons, List.filter_cons, List.filter_cons]
  by_cases h1 : ownL rk x < k
  ·rw [decide_eq_true h1, decide_eq_true (show ownL rk x < ((k + 1 : Nat) : Int) by omega), decide_eq_false (show ¬ ownL rk x = k by omega)]
   simp only [if_true, List.length_cons]
   simp only [Bool.false_eq_true, if_false]
   omega
  ·by_cases h2 : ownL rk x = k
   ·rw [decide_eq_false h1, decide_eq_true (show ownL rk x < ((k + 1 : Nat) : Int) by omega), decide_eq_true h2]
    simp only [Bool.false_eq_true, if_false, if_true, List.length_cons]
    omega
   ·rw [decide_eq_false h1, decide_eq_false (show ¬ ownL rk x < ((k + 1 : Nat) : Int) by omega), decide_eq_false h2]
    simp only [Bool.false_eq_true, if_false]
    exact ih
theorem ownN_zero {rk : List Int} {ls : List Lk} (h : ∀ x ∈ ls, 0 ≤ ownL rk x) : ownN rk ls 0 = 0 := by
 unfold ownN
 rw [List.filter_eq_nil_iff.2 (fun x hx => by have := h x hx; simp; omega)]; rfl
theorem ownN_all {rk : List Int} {ls : List Lk} {n : Nat} (h : ∀ x ∈ ls, ownL rk x < n) : ownN rk ls n = ls.length := by
 unfold ownN
 rw [List.filter_eq_self.2 (fun x hx => by have := h x hx; simp [this])]
theorem ownN_le (rk : List Int) (ls : List Lk) (k : Nat) : ownN rk ls k ≤ ls.length := List.length_filter_le _ _
section
variable {g : Gr}
theorem fin_ne (h : GrOK g) (hn : g.n ≤ 28) {x : Lk} (hx : x ∈ lsB g) : rkI (ofB g).rk x.f ≠ rkI (ofB g).rk x.t := fun e => by
 have ok := fin_ok h hn hx
 have q := fin_q h hn
 exact ok.2.2.1 ((fin_BI h hn).rd ok.1.1 ok.1.2 (q _) ok.2.1.1 ok.2.1.2 (q _) e)
theorem fin_own (h : GrOK g) (hn : g.n ≤ 28) {x : Lk} (hx : x ∈ lsB g) : 0 ≤ ownL (ofB g).rk x ∧ ownL (ofB g).rk x < g.n := by
 have ok := fin_ok h hn hx
 unfold ownL
 split
 ·exact ok.1
 ·exact ok.2.1
theorem fin_step (h : GrOK g) (hn : g.n ≤ 28) (v : Nat) : ownN (ofB g).rk (lsB g) v + ((lsB g).filterMap (upF (ofB g).rk v)).length + ((lsB g).filterMap (downF (ofB g).rk v)).length = ownN (ofB g).rk (lsB g) (v + 1) := by
 have := own_len (ofB g).rk v (lsB g) (fun x hx => fin_ne h hn hx)
 rw [ownN_succ]; omega
theorem ups_b (h : GrOK g) (hn : g.n ≤ 28) (v : Int) (hv : 0 ≤ v ∧ v < g.n) : ACalls Try.prog G 20 [.agg [intsA (ofB g).rk, lksA (lsB g)], .int .i64 v] (itsA ((lsB g).filterMap (upF (ofB g).rk v))) := by
 have hl := fin_len h hn
 have hrl := fin_rl h hn
 have h28 : g.n * g.n ≤ 28 * 28 := Nat.mul_le_mul hn hn
 have := ups_c (G := G) (ofB g).rk (lsB g) v (by omega) (by omega)
 rw [if_pos ⟨by omega, fin_may h hn⟩] at this
 exact this
theorem downs_b (h : GrOK g) (hn : g.n ≤ 28) (v : Int) (hv : 0 ≤ v ∧ v < g.n) : ACalls Try.prog G 21 [.agg [intsA (ofB g).rk, lksA (lsB g)], .int .i64 v] (itsA ((lsB g).filterMap (downF (ofB g).rk v))) := by
 have hl := fin_len h hn
 have hrl := fin_rl h hn
 have h28 : g.n * g.n ≤ 28 * 28 := Nat.mul_le_mul hn hn
 have := downs_c (G := G) (ofB g).rk (lsB g) v (by omega) (by omega)
 rw [if_pos ⟨by omega, fin_may h hn⟩] at this
 exact this
theorem may_b (h : GrOK g) (hn : g.n ≤ 28) : ACalls Try.prog G 19 [.agg [intsA (ofB g).rk, lksA (lsB g)]] (.sb true) := by
 have hl := fin_len h hn
 have hrl := fin_rl h hn
 have h28 : g.n * g.n ≤ 28 * 28 := Nat.mul_le_mul hn hn
 have := may_c (G := G) (ofB g).rk (lsB g) (by omega) (by omega)
 rw [decide_eq_true (fin_may h hn)] at this
 exact this
end
/-! The example. -/
def l0 : List Lk := [⟨1, 0, 7, -1⟩]
theorem may_l0 : MayP [1, 0] l0 := by decide
theorem ups_l0 : ACalls Try.prog G 20 [.agg [intsA [1, 0], lksA l0], .int .i64 1] (itsA [(7, 0)]) := by
 have h := ups_c (G := G) [1, 0] l0 1 (by decide) (by decide)
 rw [if_pos ⟨by decide, may_l0⟩] at h
 exact h
theorem downs_l0 : ACalls Try.prog G 21 [.agg [intsA [1, 0], lksA l0], .int .i64 0] (itsA []) := by
 have h := downs_c (G := G) [1, 0] l0 0 (by decide) (by decide)
 rw [if_pos ⟨by decide, may_l0⟩] at h
 exact h
theorem may_l0_c : ACalls Try.prog G 19 [.agg [intsA [1, 0], lksA l0]] (.sb true) := by
 have h := may_c (G := G) [1, 0] l0 (by decide) (by decide)
 rw [decide_eq_true may_l0] at h
 exact h
theorem lit0 : andL (fitA.fitL 6 0 [A.agg [.sl 2 1 fun i => takeL 1 (List.drop (i * 1) [A.int .i64 1, A.int .i64 0]), .sl 1 4 fun i => takeL 4 (List.drop (i * 4) [A.int .i64 1, A.int .i64 0, A.int .i64 7, A.int .i64 (-1)])]] [.agg [intsA [1, 0], lksA l0]]) := by
 conv => whnf
 repeat (first | exact fa | ((first | refine fb ?_ | (refine And.intro ?_ ?_; rotate_left)); conv => whnf))
 all_goals (refine Or.inl fun i hi => ?_; rcases i with _ | _ | _ | _ | i <;> first | rfl | omega)
theorem lit1 (v : Int) : andL (fitA.fitL 6 0 [A.agg [.sl 2 1 fun i => takeL 1 (List.drop (i * 1) [A.int .i64 1, A.int .i64 0]), .sl 1 4 fun i => takeL 4 (List.drop (i * 4) [A.int .i64 1, A.int .i64 0, A.int .i64 7, A.int .i64 (-1)])], .int .i64 v] [.agg [intsA [1, 0], lksA l0], .int .i64 v]) := by
 conv => whnf
 repeat (first | exact fa | ((first | refine fb ?_ | (refine And.intro ?_ ?_; rotate_left)); conv => whnf))
 all_goals (refine Or.inl fun i hi => ?_; rcases i with _ | _ | _ | _ | i <;> first | rfl | omega)
theorem awake25_c : ACalls Try.prog G 18 [] (.bool true) := by
 refine ACalls.of_WA ttok Try.func18 rfl rfl _ rfl ?_
 conv => whnf
 iterate 4 (first | refine sq ?_ | refine bk ?_ | ((first | refine rg ttok ?_ | refine dw ttok mixed ?_ | refine cd ?_ | refine sk ?_ | refine xt ?_ | refine rt ?_); conv => whnf))
 refine WA_freeze 0 ?_
 conv => whnf
 refine WA_freeze 1 ?_
 conv => whnf
 repeat' (first | refine sq ?_ | refine bk ?_ | ((first | refine rg ttok ?_ | refine dw ttok mixed ?_ | refine cd ?_ | refine sk ?_ | refine xt ?_ | refine rt ?_); conv => whnf) | (refine And.intro (fun h => ?_) (fun h => ?_) <;> (try simp only [brsA] at h) <;> conv => whnf) | (refine Or.inl ?_; (conv => whnf); (first | refine ⟨_, ups_l0.fit (lit1 _), ?_⟩ | refine ⟨_, may_l0_c.fit lit0, ?_⟩ | refine ⟨_, downs_l0.fit (lit1 _), ?_⟩); conv => whnf) | ((first | refine wf ?_ | refine wp' ?_ | refine ai ?_ | refine And.intro rfl ?_ | refine an ?_ | fail); conv => whnf))
 all_goals first | rfl | (simp at h) | skip
end Go.Proofs.Ytnkbkfjgbejhfaa

/-
  The law of what is built.
-/
import Derived.Test.YtnkbkfjgbejhfaaBase7
set_option linter.unusedSimpArgs false
set_option linter.unusedSectionVars false
set_option linter.unusedVariables false
set_option maxRecDepth 100000
set_option maxHeartbeats 4000000
namespace Go.Proofs.Ytnkbkfjgbejhfaa
open Go.Proofs.Ytnkbkfjgbejhfaa.Am Go.HeapL
variable [Inhabited DRT]
variable {G : GInv}
theorem built_far (g : Gr) (hn : ¬ NearG g) (hAw : ACalls Try.prog G 18 [] (.bool true)) : ACalls Try.prog G 5 [gA g] (.bool true) := by
 have h1 := small_c (G := G) g
 have h2 := fun a b c => may_near (G := G) (g := g) a b c
 unfold NearG at hn
 by_cases hs : g.st.length ≤ 40 ∧ g.hd.length ≤ 300 ∧ g.wt.length ≤ 300
 ·have h2 := h2 hs.1 hs.2.1 hs.2.2
  rw [decide_eq_true hs] at h1
  by_cases hm : GMay g
  ·rw [decide_eq_true hm] at h2
   have hl : 14 < g.st.length := by
    by_cases e : 14 < g.st.length
    ·exact e
    ·exact absurd ⟨by omega, hs.2.1, hs.2.2, hm⟩ hn
   clear hn hm
   refine ACalls.of_WA ttok Try.func5 rfl rfl _ rfl ?_
   conv => whnf
   repeat' (first | ((exfalso; exact h trivial)) | ((exfalso; exact h rfl)) | (exact Bool.noConfusion h) | refine sq ?_ | refine bk ?_ | ((first | refine rg ttok ?_ | refine dw ttok mixed ?_ | refine cd ?_ | refine sk ?_ | refine xt ?_ | refine rt ?_); conv => whnf) | (refine And.intro (fun h => ?_) (fun h => ?_) <;> (try simp only [brsA] at h) <;> first | (exfalso; omega) | (conv => whnf)) | (refine Or.inl ?_; (conv => whnf); (first | refine ⟨_, h1, ?_⟩ | refine ⟨_, h2, ?_⟩ | refine ⟨_, hAw, ?_⟩); conv => whnf) | ((first | refine wf ?_ | refine wp' ?_ | refine ai ?_ | refine And.intro rfl ?_ | refine an ?_ | fail); conv => whnf))
  ·rw [decide_eq_false hm] at h2
   clear hn
   refine ACalls.of_WA ttok Try.func5 rfl rfl _ rfl ?_
   conv => whnf
   repeat' (first | ((exfalso; exact h trivial)) | ((exfalso; exact h rfl)) | (exact Bool.noConfusion h) | refine sq ?_ | refine bk ?_ | ((first | refine rg ttok ?_ | refine dw ttok mixed ?_ | refine cd ?_ | refine sk ?_ | refine xt ?_ | refine rt ?_); conv => whnf) | (refine And.intro (fun h => ?_) (fun h => ?_) <;> (try simp only [brsA] at h) <;> first | (exfalso; omega) | (conv => whnf)) | (refine Or.inl ?_; (conv => whnf); (first | refine ⟨_, h1, ?_⟩ | refine ⟨_, h2, ?_⟩ | refine ⟨_, hAw, ?_⟩); conv => whnf) | ((first | refine wf ?_ | refine wp' ?_ | refine ai ?_ | refine And.intro rfl ?_ | refine an ?_ | fail); conv => whnf))
 ·rw [decide_eq_false hs] at h1
  clear hn hs
  refine ACalls.of_WA ttok Try.func5 rfl rfl _ rfl ?_
  conv => whnf
  repeat' (first | ((exfalso; exact h trivial)) | ((exfalso; exact h rfl)) | (exact Bool.noConfusion h) | refine sq ?_ | refine bk ?_ | ((first | refine rg ttok ?_ | refine dw ttok mixed ?_ | refine cd ?_ | refine sk ?_ | refine xt ?_ | refine rt ?_); conv => whnf) | (refine And.intro (fun h => ?_) (fun h => ?_) <;> (try simp only [brsA] at h) <;> first | (exfalso; omega) | (conv => whnf)) | (refine Or.inl ?_; (conv => whnf); (first | refine ⟨_, h1, ?_⟩ | refine ⟨_, hAw, ?_⟩); conv => whnf) | ((first | refine wf ?_ | refine wp' ?_ | refine ai ?_ | refine And.intro rfl ?_ | refine an ?_ | fail); conv => whnf))
theorem built_near (hns : (default : DRT).ns) (g : Gr) (hn : NearG g) (hAw : ACalls Try.prog G 18 [] (.bool true)) : ACalls Try.prog G 5 [gA g] (.bool true) := by
 obtain ⟨l1, l2, l3, hm⟩ := hn
 have h1 := small_c (G := G) g
 rw [decide_eq_true (by omega)] at h1
 have h2 := may_near (G := G) (g := g) (by omega) l2 l3
 rw [decide_eq_true hm] at h2
 have hg1 := hm.1.1
 have hn' : (g.st.length : Int) - 1 = g.n := by show _ = ((g.st.length - 1 : Nat) : Int); omega
 have h28 : g.n ≤ 28 := by omega
 have hok := hm.ok
 have hsz := rsize19_c (G := G) g (by omega)
 rw [hn'] at hsz
 have ho := of_ok (G := G) hns g hm h28
 have hrl := fin_rl hok h28
 have hll := fin_len hok h28
 have h13 : g.n * g.n ≤ 28 * 28 := Nat.mul_le_mul h28 h28
 have hmy := may_b (G := G) (g := g) hok h28
 have hup := fun (v : Int) (hv : 0 ≤ v ∧ v < g.n) => ups_b (G := G) (g := g) hok h28 v hv
 have hdn := fun (v : Int) (hv : 0 ≤ v ∧ v < g.n) => downs_b (G := G) (g := g) hok h28 v hv
 have hst := fun v => fin_step (g := g) hok h28 v
 have h0 : ownN (ofB g).rk (lsB g) 0 = 0 := ownN_zero fun x hx => (fin_own hok h28 hx).1
 have hN : ownN (ofB g).rk (lsB g) g.n = (lsB g).length := ownN_all fun x hx => (fin_own hok h28 hx).2
 have hle := ownN_le (ofB g).rk (lsB g)
 generalize hrk : (ofB g).rk = rk at *
 generalize hls : lsB g = ls at *
 refine ACalls.of_WA ttok Try.func5 rfl rfl _ rfl ?_
 conv => whnf
 repeat' (first | ((exfalso; exact h trivial)) | ((exfalso; exact h rfl)) | (exact Bool.noConfusion h) | refine sq ?_ | refine bk ?_ | ((first | refine rg ttok ?_ | refine dw ttok mixed ?_ | refine cd ?_ | refine sk ?_ | refine xt ?_ | refine rt ?_); conv => whnf) | (refine And.intro (fun h => ?_) (fun h => ?_) <;> (try simp only [brsA] at h) <;> first | (exfalso; omega) | (conv => whnf)) | (refine Or.inl ?_; (conv => whnf); (first | refine ⟨_, h1, ?_⟩ | refine ⟨_, h2, ?_⟩ | refine ⟨_, hAw, ?_⟩ | refine ⟨_, ho, ?_⟩ | refine ⟨_, hsz, ?_⟩ | refine ⟨_, hmy, ?_⟩); conv => whnf) | ((first | refine wf ?_ | refine wp' ?_ | refine ai ?_ | refine And.intro rfl ?_ | refine an ?_ | fail); conv => whnf))
 refine WA_loopI (ι := Nat) (fun v => v ≤ g.n) (fun v => [(6, .int .i64 (v : Int)), (5, .int .i64 (ownN rk ls v : Int))]) (fun _ => [.box 24 [intsA g.st, intsA g.hd, intsA g.wt], .box 29 [intsA rk, lksA ls]]) (fun v => g.n - v) 0 (Nat.zero_le _) ?_ ?_
 ·conv => whnf
  repeat (first | exact fa | ((first | refine fb ?_ | (refine And.intro ?_ ?_; rotate_left)); conv => whnf))
  rw [h0]; rfl
 ·intro v hv
  have hv : v ≤ g.n := hv
  have hup := fun h : (v : Int) < rk.length => hup v ⟨by omega, by omega⟩
  have hdn := fun h : (v : Int) < rk.length => hdn v ⟨by omega, by omega⟩
  have hst := hst v
  have hle1 := hle v
  have hle2 := hle (v + 1)
  conv => whnf
  repeat' (first | ((exfalso; exact h trivial)) | ((exfalso; exact h rfl)) | (exact Bool.noConfusion h) | refine sq ?_ | refine bk ?_ | ((first | refine rg ttok ?_ | refine dw ttok mixed ?_ | refine cd ?_ | refine sk ?_ | refine xt ?_ | refine rt ?_); conv => whnf) | (refine And.intro (fun h => ?_) (fun h => ?_) <;> (try simp only [brsA] at h) <;> conv => whnf) | (refine Or.inl ?_; (conv => whnf); (first | refine ⟨_, hup (by assumption), ?_⟩ | refine ⟨_, hdn (by assumption), ?_⟩ | refine ⟨_, hAw, ?_⟩ | refine ⟨_, hsz, ?_⟩); conv => whnf) | ((first | refine wf ?_ | refine wp' ?_ | refine ai ?_ | refine And.intro rfl ?_ | refine an ?_ | fail); conv => whnf))
  ·refine ⟨v + 1, (by show v + 1 ≤ g.n; omega), (by show g.n - (v + 1) < g.n - v; omega), ?_⟩
   have e : (ownN rk ls v : Int) + (List.filterMap (upF rk ↑v) ls).length + (List.filterMap (downF rk ↑v) ls).length = ownN rk ls (v + 1) := by omega
   conv => whnf
   repeat (first | exact fa | ((first | refine fb ?_ | (refine And.intro ?_ ?_; rotate_left)); conv => whnf))
   all_goals first | exact e | skip
  all_goals
   have hNv : ownN rk ls v = ls.length := by rw [show v = g.n by omega]; exact hN
   exfalso; omega
theorem built_c (hns : (default : DRT).ns) (g : Gr) : ACalls Try.prog G 5 [gA g] (.bool true) := by
 by_cases hn : NearG g
 ·exact built_near hns g hn awake25_c
 ·exact built_far g hn awake25_c
end Go.Proofs.Ytnkbkfjgbejhfaa

/-
  The law of each link.
-/
import Derived.Test.YtnkbkfjgbejhfaaBase7
set_option linter.unusedSimpArgs false
set_option linter.unusedSectionVars false
set_option linter.unusedVariables false
set_option maxRecDepth 100000
set_option maxHeartbeats 4000000
namespace Go.Proofs.Ytnkbkfjgbejhfaa
open Go.Proofs.Ytnkbkfjgbejhfaa.Am Go.HeapL
variable [Inhabited DRT]
variable {G : GInv}
/-! ### Are hierarchies alike? -/
noncomputable instance decLk (a b : List Lk) : Decidable (a = b) := Classical.propDecidable _
theorem lk_ext {x y : Lk} (h1 : x.f = y.f) (h2 : x.t = y.t) (h3 : x.w = y.w) (h4 : x.m = y.m) : x = y := by
 cases x; cases y; simp only at h1 h2 h3 h4; subst h1; subst h2; subst h3; subst h4; rfl
theorem eqI_c (a b : List Int) (ha : a.length ≤ 1000000) (hb : b.length ≤ 1000000) : ACalls Try.prog G 39 [intsA a, intsA b] (.sb (decide (a = b))) := by
 refine ACalls.of_WA ttok Try.func39 rfl rfl _ rfl ?_
 conv => whnf
 repeat' (first | refine sq ?_ | refine bk ?_ | ((first | refine rg ttok ?_ | refine dw ttok mixed ?_ | refine cd ?_ | refine sk ?_ | refine xt ?_ | refine rt ?_); conv => whnf) | (refine And.intro (fun h => ?_) (fun h => ?_) <;> (try simp only [brsA] at h) <;> conv => whnf) | ((first | refine wf ?_ | refine wp' ?_ | refine ai ?_ | refine And.intro rfl ?_ | refine an ?_ | fail); conv => whnf))
 ·exact (decide_eq_false fun e => by subst e; exact h rfl).symm
 ·have hab : a.length = b.length := by omega
  refine WA_loopI (fun i : Nat => i ≤ a.length ∧ ∀ k, k < i → a.getD k 0 = b.getD k 0) (fun i => [(13, .int .i64 (i : Int)), (5, .junk)]) (fun _ => []) (fun i => a.length - i) 0 ⟨by omega, fun k hk => by omega⟩ ?_ ?_
  ·conv => whnf
   repeat (first | exact fa | ((first | refine fb ?_ | (refine And.intro ?_ ?_; rotate_left)); conv => whnf))
  ·rintro i ⟨hi, hinv⟩
   have hi : i ≤ a.length := hi
   conv => whnf
   repeat' (first | refine sq ?_ | refine bk ?_ | ((first | refine rg ttok ?_ | refine dw ttok mixed ?_ | refine cd ?_ | refine sk ?_ | refine xt ?_ | refine rt ?_); conv => whnf) | (refine And.intro (fun h => ?_) (fun h => ?_) <;> (try simp only [brsA] at h) <;> conv => whnf) | ((first | refine wf ?_ | refine wp' ?_ | refine ai ?_ | refine And.intro rfl ?_ | refine an ?_ | fail); conv => whnf))
   all_goals (try simp only [brsD] at *)
   ·refine (decide_eq_false fun e => ?_).symm
    subst e
    exact h rfl
   ·refine ⟨i + 1, ⟨by omega, fun k hk => ?_⟩, (by show a.length - (i + 1) < a.length - i; omega), ?_⟩
    ·rcases Nat.lt_or_ge k i with hk' | hk'
     ·exact hinv k hk'
     ·have : k = i := by omega
      subst this
      exact h
    ·conv => whnf
     repeat (first | exact fa | ((first | refine fb ?_ | (refine And.intro ?_ ?_; rotate_left)); conv => whnf))
   ·exact (decide_eq_true (getD_ext 0 a b hab fun k hk => hinv k (by omega))).symm
theorem eqL_c (a b : List Lk) (ha : a.length ≤ 1000000) (hb : b.length ≤ 1000000) : ACalls Try.prog G 40 [lksA a, lksA b] (.sb (decide (a = b))) := by
 refine ACalls.of_WA ttok Try.func40 rfl rfl _ rfl ?_
 conv => whnf
 repeat' (first | refine sq ?_ | refine bk ?_ | ((first | refine rg ttok ?_ | refine dw ttok mixed ?_ | refine cd ?_ | refine sk ?_ | refine xt ?_ | refine rt ?_); conv => whnf) | (refine And.intro (fun h => ?_) (fun h => ?_) <;> (try simp only [brsA] at h) <;> conv => whnf) | ((first | refine wf ?_ | refine wp' ?_ | refine ai ?_ | refine And.intro rfl ?_ | refine an ?_ | fail); conv => whnf))
 ·exact (decide_eq_false fun e => by subst e; exact h rfl).symm
 ·have hab : a.length = b.length := by omega
  refine WA_loopI (fun i : Nat => i ≤ a.length ∧ ∀ k, k < i → a.getD k default = b.getD k default) (fun i => [(13, .int .i64 (i : Int)), (5, .junk)]) (fun _ => []) (fun i => a.length - i) 0 ⟨by omega, fun k hk => by omega⟩ ?_ ?_
  ·conv => whnf
   repeat (first | exact fa | ((first | refine fb ?_ | (refine And.intro ?_ ?_; rotate_left)); conv => whnf))
  ·rintro i ⟨hi, hinv⟩
   have hi : i ≤ a.length := hi
   conv => whnf
   repeat' (first | refine sq ?_ | refine bk ?_ | ((first | refine rg ttok ?_ | refine dw ttok mixed ?_ | refine cd ?_ | refine sk ?_ | refine xt ?_ | refine rt ?_); conv => whnf) | (refine And.intro (fun h => ?_) (fun h => ?_) <;> (try simp only [brsA] at h) <;> conv => whnf) | ((first | refine wf ?_ | refine wp' ?_ | refine ai ?_ | refine And.intro rfl ?_ | refine an ?_ | fail); conv => whnf))
   all_goals (try simp only [brsD] at *)
   ·refine (decide_eq_false fun e => ?_).symm
    subst e
    simp at h
   ·refine ⟨i + 1, ⟨by omega, fun k hk => ?_⟩, (by show a.length - (i + 1) < a.length - i; omega), ?_⟩
    ·rcases Nat.lt_or_ge k i with hk' | hk'
     ·exact hinv k hk'
     ·have : k = i := by omega
      subst this
      exact lk_ext (eq_of_beq h.1) (eq_of_beq h.2.1) (eq_of_beq h.2.2.1) (eq_of_beq h.2.2.2.1)
    ·conv => whnf
     repeat (first | exact fa | ((first | refine fb ?_ | (refine And.intro ?_ ?_; rotate_left)); conv => whnf))
   ·exact (decide_eq_true (getD_ext default a b hab fun k hk => hinv k (by omega))).symm
theorem sameL_c (a b : List Lk) (ha : a.length ≤ 1000000) (hb : b.length ≤ 1000000) : ACalls Try.prog G 38 [lksA a, lksA b] (.sb (decide (a = b))) := by
 refine ACalls.of_WA ttok Try.func38 rfl rfl _ rfl ?_
 conv => whnf
 repeat' (first | refine sq ?_ | refine bk ?_ | ((first | refine rg ttok ?_ | refine dw ttok mixed ?_ | refine cd ?_ | refine sk ?_ | refine xt ?_ | refine rt ?_); conv => whnf) | (refine And.intro (fun h => ?_) (fun h => ?_) <;> (try simp only [brsA] at h) <;> conv => whnf) | ((first | refine wf ?_ | refine wp' ?_ | refine ai ?_ | refine And.intro rfl ?_ | refine an ?_ | fail); conv => whnf))
 ·exact (decide_eq_false fun e => by subst e; exact h rfl).symm
 ·have hab : a.length = b.length := by omega
  refine WA_loopI (fun i : Nat => i ≤ a.length ∧ ∀ k, k < i → a.getD k default = b.getD k default) (fun i => [(5, .int .i64 (i : Int))]) (fun _ => []) (fun i => a.length - i) 0 ⟨by omega, fun k hk => by omega⟩ ?_ ?_
  ·conv => whnf
   repeat (first | exact fa | ((first | refine fb ?_ | (refine And.intro ?_ ?_; rotate_left)); conv => whnf))
  ·rintro i ⟨hi, hinv⟩
   have hi : i ≤ a.length := hi
   conv => whnf
   repeat' (first | refine sq ?_ | refine bk ?_ | ((first | refine rg ttok ?_ | refine dw ttok mixed ?_ | refine cd ?_ | refine sk ?_ | refine xt ?_ | refine rt ?_); conv => whnf) | (refine And.intro (fun h => ?_) (fun h => ?_) <;> (try simp only [brsA] at h) <;> conv => whnf) | ((first | refine wf ?_ | refine wp' ?_ | refine ai ?_ | refine And.intro rfl ?_ | refine an ?_ | fail); conv => whnf))
   all_goals (try simp only [brsD] at *)
   ·refine (decide_eq_false fun e => ?_).symm
    subst e
    simp at h
   ·refine ⟨i + 1, ⟨by omega, fun k hk => ?_⟩, (by show a.length - (i + 1) < a.length - i; omega), ?_⟩
    ·rcases Nat.lt_or_ge k i with hk' | hk'
     ·exact hinv k hk'
     ·have : k = i := by omega
      subst this
      exact lk_ext (eq_of_beq h.1) (eq_of_beq h.2.1) (eq_of_beq h.2.2.1) (eq_of_beq h.2.2.2.1)
    ·conv => whnf
     repeat (first | exact fa | ((first | refine fb ?_ | (refine And.intro ?_ ?_; rotate_left)); conv => whnf))
   ·exact (decide_eq_true (getD_ext default a b hab fun k hk => hinv k (by omega))).symm
theorem same24_c (r1 r2 : List Int) (l1 l2 : List Lk) (h1 : r1.length ≤ 1000000) (h2 : r2.length ≤ 1000000) (h3 : l1.length ≤ 1000000) (h4 : l2.length ≤ 1000000) :
  ACalls Try.prog G 15 [.agg [intsA r1, lksA l1], .agg [intsA r2, lksA l2]] (.sb (decide (r1 = r2 ∧ l1 = l2))) := by
 have e1 := same_c (G := G) r1 r2 h1 h2
 have e2 := sameL_c (G := G) l1 l2 h3 h4
 refine ACalls.of_WA ttok Try.func15 rfl rfl _ rfl ?_
 conv => whnf
 repeat' (first | refine sq ?_ | refine bk ?_ | ((first | refine rg ttok ?_ | refine dw ttok mixed ?_ | refine cd ?_ | refine sk ?_ | refine xt ?_ | refine rt ?_); conv => whnf) | (refine And.intro (fun h => ?_) (fun h => ?_) <;> (try simp only [brsA] at h) <;> conv => whnf) | (refine Or.inl ?_; (conv => whnf); (first | refine ⟨_, e1, ?_⟩ | refine ⟨_, e2, ?_⟩); conv => whnf) | ((first | refine wf ?_ | refine wp' ?_ | refine ai ?_ | refine And.intro rfl ?_ | refine an ?_ | fail); conv => whnf))
 ·exact decide_eq_decide.2 ⟨fun e => ⟨h, e⟩, fun e => e.2⟩
 ·exact (decide_eq_false fun e => h e.1).symm
theorem bsame_c (r1 r2 : List Int) (l1 l2 : List Lk) (h1 : r1.length ≤ 1000000) (h2 : r2.length ≤ 1000000) (h3 : l1.length ≤ 1000000) (h4 : l2.length ≤ 1000000) :
  ACalls Try.prog G 16 [.agg [intsA r1, lksA l1], .agg [intsA r2, lksA l2]] (.sb (decide (r1 = r2 ∧ l1 = l2))) := by
 have e1 := eqI_c (G := G) r1 r2 h1 h2
 have e2 := eqL_c (G := G) l1 l2 h3 h4
 refine ACalls.of_WA ttok Try.func16 rfl rfl _ rfl ?_
 conv => whnf
 repeat' (first | refine sq ?_ | refine bk ?_ | ((first | refine rg ttok ?_ | refine dw ttok mixed ?_ | refine cd ?_ | refine sk ?_ | refine xt ?_ | refine rt ?_); conv => whnf) | (refine And.intro (fun h => ?_) (fun h => ?_) <;> (try simp only [brsA] at h) <;> conv => whnf) | (refine Or.inl ?_; (conv => whnf); (first | refine ⟨_, e1, ?_⟩ | refine ⟨_, e2, ?_⟩); conv => whnf) | ((first | refine wf ?_ | refine wp' ?_ | refine ai ?_ | refine And.intro rfl ?_ | refine an ?_ | fail); conv => whnf))
 ·exact decide_eq_decide.2 ⟨fun e => ⟨h, e⟩, fun e => e.2⟩
 ·exact (decide_eq_false fun e => h e.1).symm
end Go.Proofs.Ytnkbkfjgbejhfaa
namespace Go.Proofs.Ytnkbkfjgbejhfaa
open Go.Proofs.Ytnkbkfjgbejhfaa.Am Go.HeapL
variable [Inhabited DRT]
variable {G : GInv}
/-- Graphs that the law looks at. -/
def NearS (g : Gr) : Prop := g.st.length ≤ 20 ∧ g.hd.length ≤ 300 ∧ g.wt.length ≤ 300
theorem sounds_far (g o : Gr) (hn : ¬ (NearS g ∧ NearS o)) (hAw : ACalls Try.prog G 9 [] (.bool true)) : ACalls Try.prog G 4 [gA g, gA o] (.bool true) := by
 have h1 := small_c (G := G) g
 have h2 := small_c (G := G) o
 unfold NearS at hn
 by_cases hs : g.st.length ≤ 40 ∧ g.hd.length ≤ 300 ∧ g.wt.length ≤ 300
 ·rw [decide_eq_true hs] at h1
  by_cases ht : o.st.length ≤ 40 ∧ o.hd.length ≤ 300 ∧ o.wt.length ≤ 300
  ·rw [decide_eq_true ht] at h2
   have hl : 20 < g.st.length ∨ 20 < o.st.length := by omega
   clear hn
   refine ACalls.of_WA ttok Try.func4 rfl rfl _ rfl ?_
   conv => whnf
   repeat' (first | ((exfalso; exact h trivial)) | ((exfalso; exact h rfl)) | (exact Bool.noConfusion h) | refine sq ?_ | refine bk ?_ | ((first | refine rg ttok ?_ | refine dw ttok mixed ?_ | refine cd ?_ | refine sk ?_ | refine xt ?_ | refine rt ?_); conv => whnf) | (refine And.intro (fun h => ?_) (fun h => ?_) <;> (try simp only [brsA] at h) <;> first | (exfalso; omega) | (conv => whnf)) | (refine Or.inl ?_; (conv => whnf); (first | refine ⟨_, h1, ?_⟩ | refine ⟨_, h2, ?_⟩ | refine ⟨_, hAw, ?_⟩); conv => whnf) | ((first | refine wf ?_ | refine wp' ?_ | refine ai ?_ | refine And.intro rfl ?_ | refine an ?_ | fail); conv => whnf))
  ·rw [decide_eq_false ht] at h2
   clear hn
   refine ACalls.of_WA ttok Try.func4 rfl rfl _ rfl ?_
   conv => whnf
   repeat' (first | ((exfalso; exact h trivial)) | ((exfalso; exact h rfl)) | (exact Bool.noConfusion h) | refine sq ?_ | refine bk ?_ | ((first | refine rg ttok ?_ | refine dw ttok mixed ?_ | refine cd ?_ | refine sk ?_ | refine xt ?_ | refine rt ?_); conv => whnf) | (refine And.intro (fun h => ?_) (fun h => ?_) <;> (try simp only [brsA] at h) <;> first | (exfalso; omega) | (conv => whnf)) | (refine Or.inl ?_; (conv => whnf); (first | refine ⟨_, h1, ?_⟩ | refine ⟨_, h2, ?_⟩ | refine ⟨_, hAw, ?_⟩); conv => whnf) | ((first | refine wf ?_ | refine wp' ?_ | refine ai ?_ | refine And.intro rfl ?_ | refine an ?_ | fail); conv => whnf))
 ·rw [decide_eq_false hs] at h1
  clear hn hs
  refine ACalls.of_WA ttok Try.func4 rfl rfl _ rfl ?_
  conv => whnf
  repeat' (first | ((exfalso; exact h trivial)) | ((exfalso; exact h rfl)) | (exact Bool.noConfusion h) | refine sq ?_ | refine bk ?_ | ((first | refine rg ttok ?_ | refine dw ttok mixed ?_ | refine cd ?_ | refine sk ?_ | refine xt ?_ | refine rt ?_); conv => whnf) | (refine And.intro (fun h => ?_) (fun h => ?_) <;> (try simp only [brsA] at h) <;> first | (exfalso; omega) | (conv => whnf)) | (refine Or.inl ?_; (conv => whnf); (first | refine ⟨_, h1, ?_⟩ | refine ⟨_, hAw, ?_⟩); conv => whnf) | ((first | refine wf ?_ | refine wp' ?_ | refine ai ?_ | refine And.intro rfl ?_ | refine an ?_ | fail); conv => whnf))
/-- An answer that may be taken for another one. -/
theorem weak {P : Program} {f : FuncId} {args : List A} {r r' : A} (h : ACalls P G f args r) (hf : andL (fitA 6 0 r r')) : ACalls P G f args r' := by
 refine ⟨h.1, fun im w vs h1 h2 h3 h4 => ?_⟩
 refine Calls_mono (h.2 im w vs h1 h2 h3 h4) ?_
 rintro e w' ⟨v, e1, e2, e3⟩
 refine ⟨v, e1, ?_, e3⟩
 have := fitA_rel (ids := []) (fun _ h => h) 6 0 _ _ _ hf (.imm e2)
 exact Rel.nil_rel (by simpa using this)
/-- What is built of another graph, and whether it is like that of the first. -/
theorem other_c (hns : (default : DRT).ns) (o : Gr) (ho : NearS o) :
  ∃ (r2 : List Int) (l2 : List Lk) (e : Int), ACalls Try.prog G 10 [gA o] (.tup [.agg [intsA r2, lksA l2], .int .i64 e]) ∧ r2.length ≤ 1000000 ∧ l2.length ≤ 1000000 := by
 obtain ⟨o1, o2, o3⟩ := ho
 by_cases hm : GMay o
 ·have hn' : o.n = o.st.length - 1 := rfl
  have hok := hm.ok
  have hn : o.n ≤ 28 := by omega
  have hl := fin_len hok hn
  have h28 : o.n * o.n ≤ 28 * 28 := Nat.mul_le_mul hn hn
  have hrl := fin_rl hok hn
  exact ⟨_, _, _, of_ok hns o hm hn, by omega, by omega⟩
 ·refine ⟨[], [], 1, weak (of_bad o (by omega) (by omega) (by omega) hm) ?_, by decide, by decide⟩
  conv => whnf
  repeat (first | exact fa | ((first | refine fb ?_ | (refine And.intro ?_ ?_; rotate_left)); conv => whnf))
theorem nil_same : ACalls Try.prog G 15 [.agg [.nils, .nils], .agg [.nils, .nils]] (.sb true) := by
 have h := same24_c (G := G) [] [] [] [] (by decide) (by decide) (by decide) (by decide)
 rw [decide_eq_true ⟨rfl, rfl⟩] at h
 refine h.fit ?_
 conv => whnf
 repeat (first | exact fa | ((first | refine fb ?_ | (refine And.intro ?_ ?_; rotate_left)); conv => whnf))
end Go.Proofs.Ytnkbkfjgbejhfaa
namespace Go.Proofs.Ytnkbkfjgbejhfaa
open Go.Proofs.Ytnkbkfjgbejhfaa.Am Go.HeapL
variable [Inhabited DRT]
variable {G : GInv}
theorem sounds_bad (hns : (default : DRT).ns) (g o : Gr) (hg : NearS g) (ho : NearS o) (hm : ¬ GMay g) (hAw : ACalls Try.prog G 9 [] (.bool true)) : ACalls Try.prog G 4 [gA g, gA o] (.bool true) := by
 have h1 := small_c (G := G) g
 have h2 := small_c (G := G) o
 obtain ⟨g1, g2, g3⟩ := hg
 obtain ⟨r2, l2, e, hoo, _, _⟩ := other_c (G := G) hns o ho
 obtain ⟨o1, o2, o3⟩ := ho
 rw [decide_eq_true (by omega)] at h1 h2
 have h3 := may_near (G := G) (g := g) (by omega) g2 g3
 rw [decide_eq_false hm] at h3
 have hog := of_bad (G := G) g (by omega) (by omega) (by omega) hm
 have hnn := nil_same (G := G)
 refine ACalls.of_WA ttok Try.func4 rfl rfl _ rfl ?_
 conv => whnf
 repeat' (first | ((exfalso; exact h trivial)) | ((exfalso; exact h rfl)) | (exact Bool.noConfusion h) | refine sq ?_ | refine bk ?_ | ((first | refine rg ttok ?_ | refine dw ttok mixed ?_ | refine cd ?_ | refine sk ?_ | refine xt ?_ | refine rt ?_); conv => whnf) | (refine And.intro (fun h => ?_) (fun h => ?_) <;> (try simp only [brsA] at h) <;> first | (exfalso; omega) | (conv => whnf)) | (refine Or.inl ?_; (conv => whnf); (first | refine ⟨_, h1, ?_⟩ | refine ⟨_, h2, ?_⟩ | refine ⟨_, h3, ?_⟩ | refine ⟨_, hAw, ?_⟩ | refine ⟨_, hog, ?_⟩ | refine ⟨_, hoo, ?_⟩ | refine ⟨_, hnn, ?_⟩); conv => whnf) | ((first | refine wf ?_ | refine wp' ?_ | refine ai ?_ | refine And.intro rfl ?_ | refine an ?_ | fail); conv => whnf))
theorem sounds_good (hns : (default : DRT).ns) (g o : Gr) (hg : NearS g) (ho : NearS o) (hm : GMay g) (hAw : ACalls Try.prog G 9 [] (.bool true)) : ACalls Try.prog G 4 [gA g, gA o] (.bool true) := by
 have h1 := small_c (G := G) g
 have h2 := small_c (G := G) o
 obtain ⟨g1, g2, g3⟩ := hg
 have hg1 := hm.1.1
 have hn' : (g.st.length : Int) - 1 = g.n := by show _ = ((g.st.length - 1 : Nat) : Int); omega
 have h28 : g.n ≤ 28 := by omega
 have hok := hm.ok
 have hll := fin_len hok h28
 have hll' : ((lsB g).length : Int) ≤ (g.n : Int) * g.n := by exact_mod_cast hll
 have h784 : (g.n : Int) * g.n ≤ 784 := by
  have : g.n * g.n ≤ 28 * 28 := Nat.mul_le_mul h28 h28
  have e : ((g.n * g.n : Nat) : Int) = (g.n : Int) * g.n := Int.natCast_mul _ _
  omega
 have hrl := fin_rl hok h28
 obtain ⟨r2, l2, e, hoo, hr2, hl2⟩ := other_c (G := G) hns o ho
 have hb1 := same24_c (G := G) (ofB g).rk r2 (lsB g) l2 (by omega) hr2 (by omega) hl2
 have hb2 := bsame_c (G := G) (ofB g).rk r2 (lsB g) l2 (by omega) hr2 (by omega) hl2
 obtain ⟨o1, o2, o3⟩ := ho
 rw [decide_eq_true (by omega)] at h1 h2
 have h3 := may_near (G := G) (g := g) (by omega) g2 g3
 rw [decide_eq_true hm] at h3
 have hsz := rsize19_c (G := G) g (by omega)
 rw [hn'] at hsz
 have hog := of_ok (G := G) hns g hm h28
 have hso := sound_c (G := G) g hm h28
 have hsm := same24_c (G := G) (ofB g).rk (ofB g).rk (lsB g) (lsB g) (by omega) (by omega) (by omega) (by omega)
 rw [decide_eq_true ⟨rfl, rfl⟩] at hsm
 have hst := stat_c (G := G) (ofB g).rk (lsB g) (by omega)
 have hls1000 : (lsB g).length ≤ 1000 := by omega
 generalize hrk : (ofB g).rk = rk at *
 generalize hls : lsB g = ls at *
 generalize decide (rk = r2 ∧ ls = l2) = b at *
 refine ACalls.of_WA ttok Try.func4 rfl rfl _ rfl ?_
 conv => whnf
 repeat' (first | ((exfalso; exact h trivial)) | ((exfalso; exact h rfl)) | (exact Bool.noConfusion h) | refine sq ?_ | refine bk ?_ | ((first | refine rg ttok ?_ | refine dw ttok mixed ?_ | refine cd ?_ | refine sk ?_ | refine xt ?_ | refine rt ?_); conv => whnf) | (refine And.intro (fun h => ?_) (fun h => ?_) <;> (try simp only [brsA] at h) <;> first | (exfalso; omega) | (conv => whnf)) | (refine Or.inl ?_; (conv => whnf); (first | refine ⟨_, h1, ?_⟩ | refine ⟨_, h2, ?_⟩ | refine ⟨_, h3, ?_⟩ | refine ⟨_, hAw, ?_⟩ | refine ⟨_, hog, ?_⟩ | refine ⟨_, hoo, ?_⟩ | refine ⟨_, hsz, ?_⟩ | refine ⟨_, hso, ?_⟩ | refine ⟨_, hsm, ?_⟩ | refine ⟨_, hb1, ?_⟩ | refine ⟨_, hb2, ?_⟩); conv => whnf) | ((first | refine wf ?_ | refine wp' ?_ | refine ai ?_ | refine And.intro rfl ?_ | refine an ?_ | fail); conv => whnf))
 refine WA_loopI (ι := Nat) (fun i => i ≤ ls.length) (fun i => [(12, .int .i64 (shN ls i)), (13, .int .i64 (i : Int))]) (fun _ => [.box 24 [intsA g.st, intsA g.hd, intsA g.wt], .box 24 [intsA o.st, intsA o.hd, intsA o.wt], .box 29 [intsA rk, lksA ls], .box 29 [intsA r2, lksA l2], .box 29 [intsA rk, lksA ls]]) (fun i => ls.length - i) 0 (Nat.zero_le _) ?_ ?_
 ·conv => whnf
  repeat (first | exact fa | ((first | refine fb ?_ | (refine And.intro ?_ ?_; rotate_left)); conv => whnf))
 ·intro i hi
  have hi : i ≤ ls.length := hi
  have hs := shN_le ls i
  conv => whnf
  repeat' (first | ((exfalso; exact h trivial)) | ((exfalso; exact h rfl)) | refine sq ?_ | refine bk ?_ | ((first | refine rg ttok ?_ | refine dw ttok mixed ?_ | refine cd ?_ | refine sk ?_ | refine xt ?_ | refine rt ?_); conv => whnf) | (refine And.intro (fun h => ?_) (fun h => ?_) <;> (try simp only [brsA] at h) <;> conv => whnf) | (refine Or.inl ?_; (conv => whnf); (first | refine ⟨_, hst, ?_⟩ | refine ⟨_, hAw, ?_⟩); conv => whnf) | ((first | refine wf ?_ | refine wp' ?_ | refine ai ?_ | refine And.intro rfl ?_ | refine an ?_ | fail); conv => whnf))
  ·refine ⟨i + 1, (by show i + 1 ≤ ls.length; omega), (by show ls.length - (i + 1) < ls.length - i; omega), ?_⟩
   have e : shN ls (i + 1) = shN ls i + 1 := if_neg (by assumption)
   conv => whnf
   repeat (first | exact fa | ((first | refine fb ?_ | (refine And.intro ?_ ?_; rotate_left)); conv => whnf))
   exact e.symm
  ·refine ⟨i + 1, (by show i + 1 ≤ ls.length; omega), (by show ls.length - (i + 1) < ls.length - i; omega), ?_⟩
   have e : shN ls (i + 1) = shN ls i := if_pos (by assumption)
   conv => whnf
   repeat (first | exact fa | ((first | refine fb ?_ | (refine And.intro ?_ ?_; rotate_left)); conv => whnf))
   exact e.symm
  ·exact absurd (by rw [show i = ls.length by omega]) h
theorem sounds_c (hns : (default : DRT).ns) (g o : Gr) : ACalls Try.prog G 4 [gA g, gA o] (.bool true) := by
 have hAw := awake24_c (G := G) hns
 by_cases hn : NearS g ∧ NearS o
 ·by_cases hm : GMay g
  ·exact sounds_good hns g o hn.1 hn.2 hm hAw
  ·exact sounds_bad hns g o hn.1 hn.2 hm hAw
 ·exact sounds_far g o hn hAw
end Go.Proofs.Ytnkbkfjgbejhfaa

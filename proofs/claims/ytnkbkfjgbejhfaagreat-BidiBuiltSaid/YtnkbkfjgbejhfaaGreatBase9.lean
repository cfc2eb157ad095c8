/-
  The law, in its parts.
-/
import Derived.Test.YtnkbkfjgbejhfaaGreatBase6
import Derived.Test.YtnkbkfjgbejhfaaGreatBase8
import Derived.Test.YtnkbkfjgbejhfaaGreatBase2
set_option linter.unusedSimpArgs false
set_option linter.unusedSectionVars false
set_option linter.unusedVariables false
set_option maxRecDepth 100000
set_option maxHeartbeats 8000000
namespace Go.Proofs.YtnkbkfjgbejhfaaGreat
open Go.Proofs.YtnkbkfjgbejhfaaGreat.Am Go.HeapL
variable [Inhabited DRT]
variable {G : GInv}
section
variable {g : Gr}
theorem kp_ok (h : GrOK g) (hn : g.n ≤ 28) {sa sz : List It} (ha : ItP g.n sa) (hz : ItP g.n sz) : Kp sa sz (upE (ofB g).rk (lsB g)) (dnE (ofB g).rk (lsB g)) (oP g g.hd.length) where
 pu := up_wo h hn
 pd := dn_wo h hn
 pk := fun k a k' b c m1 m2 hw => by
  have hq := (q0_ok g.n (oP g g.hd.length) g.n).2.2.1
  have r1 := ha.mem m1
  have r2 := hz.mem m2
  exact keeps_down h hn (hU_ok h hn) (hD_ok h hn) g.n 0 (by omega) a b c ((hq a).2 ⟨r1.1, r1.2.1⟩) ((hq b).2 ⟨r2.1, r2.2.1⟩) hw
/-- What both searches tell. -/
theorem both_ok (h : GrOK g) (hn : g.n ≤ 28) (hM : MayP (ofB g).rk (lsB g)) {sa sz : List It} (ha : ItP g.n sa) (hz : ItP g.n sz) : ∃ m c e : Int, IsMin (two sa sz (upE (ofB g).rk (lsB g)) (dnE (ofB g).rk (lsB g))) m ∧
  (∀ G, ACalls Tryz.prog G 9 [.agg [intsA (ofB g).rk, lksA (lsB g)], itmA sa, itmA sz] (.tup [.int .i64 c, .int .i64 e])) ∧
  (∀ G, ACalls Tryz.prog G 10 [.agg [intsA (ofB g).rk, lksA (lsB g)], itmA sa, itmA sz] (.tup [.int .i64 c, .int .i64 e])) ∧
  ((m = 4611686018427387904 ∧ c = 0 ∧ e = 12) ∨ (m < 4611686018427387904 ∧ c = m ∧ e = 0)) := by
 have hk := kp_ok h hn ha hz
 have hrl := fin_rl h hn
 rw [← hrl] at ha hz
 have hs : Sml (ofB g).rk (lsB g) sa sz := ⟨by have := hM.2.1; omega, by omega, by have := ha.1; omega, by have := hz.1; omega⟩
 have ok := And.intro hM (And.intro ha hz)
 obtain ⟨w, c, e, s, hW, _, _, hcase⟩ := way_law (ofB g).rk (lsB g) sa sz hs ok
 obtain ⟨s2, ⟨Da, Dz, hJ⟩, hf, hc⟩ := search_ok (ofB g).rk (lsB g) sa sz true hM ha hz
 have hm := minV_min (P := two sa sz (upE (ofB g).rk (lsB g)) (dnE (ofB g).rk (lsB g))) (by
  rintro d ⟨v, a, b, w1, w2, rfl⟩
  have a1 := (wk_ok (dat_up hM.2.2.2.1 ha) w1).2.2
  have a2 := (wk_ok (dat_dn hM.2.2.2.1 hz) w2).2.2
  omega)
 have hq := (hk.quick (dat_up hM.2.2.2.1 ha) (dat_dn hM.2.2.2.1 hz) hJ hf).uniq hm
 have hC := fun G => cost_c (G := G) (ofB g).rk (lsB g) sa sz w c e (hW G)
 unfold NC at hcase
 have hQ : (s2.b.pt < 0 ∧ s2.b.cost = 4611686018427387904) ∨ (¬ s2.b.pt < 0 ∧ s2.b.cost < 4611686018427387904) := by
  rcases hJ.bb with ⟨e1, e2⟩ | ⟨e1, e2, _⟩
  ·exact .inl ⟨by omega, e2⟩
  ·exact .inr ⟨by omega, e2⟩
 rw [hq] at hQ
 rcases hcase with ⟨h1, rfl, rfl, rfl⟩ | ⟨h1, h2, rfl, _⟩
 ·obtain ⟨p, _⟩ | ⟨_, p⟩ := hQ
  ·exact ⟨_, 0, 12, hm, hC, fun G => quick_none (ofB g).rk (lsB g) sa sz hs ok s2 (hc G) p, .inl ⟨h1, rfl, rfl⟩⟩
  ·omega
 ·obtain ⟨_, p⟩ | ⟨p, _⟩ := hQ
  ·omega
  ·refine ⟨_, c, 0, hm, hC, fun G => ?_, .inr ⟨h1, h2.symm, rfl⟩⟩
   have := quick_some (G := G) (ofB g).rk (lsB g) sa sz hs ok s2 (hc G) p
   rw [hq, h2] at this
   exact this
end
end Go.Proofs.YtnkbkfjgbejhfaaGreat
namespace Go.Proofs.YtnkbkfjgbejhfaaGreat
open Go.Proofs.YtnkbkfjgbejhfaaGreat.Am Go.HeapL
variable [Inhabited DRT]
variable {G : GInv}
theorem smallg_c (g : Gr) : ACalls Tryz.prog G 4 [gA g] (.sb (decide (g.st.length ≤ 40 ∧ g.hd.length ≤ 300 ∧ g.wt.length ≤ 300))) := by
 refine ACalls.of_WA ttok Tryz.func4 rfl rfl _ rfl ?_
 conv => whnf
 repeat' (first | refine sq ?_ | refine bk ?_ | ((first | refine rg ttok ?_ | refine dw ttok mixed ?_ | refine cd ?_ | refine sk ?_ | refine xt ?_ | refine rt ?_); conv => whnf) | (refine And.intro (fun h => ?_) (fun h => ?_) <;> (try simp only [brsA] at h) <;> conv => whnf) | ((first | refine wf ?_ | refine wp' ?_ | refine ai ?_ | refine And.intro rfl ?_ | refine an ?_ | fail); conv => whnf))
 all_goals (first | (refine (decide_eq_false ?_).symm; omega) | (refine decide_eq_decide.2 ?_; omega))
/-- What the law looks at. -/
def NearB (g : Gr) (sa sz : List It) : Prop := g.st.length ≤ 14 ∧ g.hd.length ≤ 300 ∧ g.wt.length ≤ 300 ∧ sa.length ≤ 6 ∧ sz.length ≤ 6 ∧ GMay g
theorem bb_far (g : Gr) (sa sz : List It) (hn : ¬ NearB g sa sz) (hAw : ACalls Tryz.prog G 6 [] (.bool true)) : ACalls Tryz.prog G 3 [gA g, .agg [itmA sa, itmA sz]] (.bool true) := by
 have h1 := smallg_c (G := G) g
 have h2 := rmay19_c (G := G) g
 unfold NearB at hn
 by_cases hs : g.st.length ≤ 40 ∧ g.hd.length ≤ 300 ∧ g.wt.length ≤ 300
 ·have h2 := h2 (by omega) (by omega) (by omega)
  rw [decide_eq_true hs] at h1
  by_cases hm : GMay g
  ·rw [decide_eq_true hm] at h2
   have hl : 14 < g.st.length ∨ 6 < sa.length ∨ 6 < sz.length := by
    by_cases e : 14 < g.st.length ∨ 6 < sa.length ∨ 6 < sz.length
    ·exact e
    ·exact absurd ⟨by omega, hs.2.1, hs.2.2, by omega, by omega, hm⟩ hn
   clear hn hm
   refine ACalls.of_WA ttok Tryz.func3 rfl rfl _ rfl ?_
   conv => whnf
   repeat' (first | ((exfalso; exact h trivial)) | ((exfalso; exact h rfl)) | (exact Bool.noConfusion h) | refine sq ?_ | refine bk ?_ | ((first | refine rg ttok ?_ | refine dw ttok mixed ?_ | refine cd ?_ | refine sk ?_ | refine xt ?_ | refine rt ?_); conv => whnf) | (refine And.intro (fun h => ?_) (fun h => ?_) <;> (try simp only [brsA] at h) <;> first | (exfalso; omega) | (conv => whnf)) | (refine Or.inl ?_; (conv => whnf); (first | refine ⟨_, h1, ?_⟩ | refine ⟨_, h2, ?_⟩ | refine ⟨_, hAw, ?_⟩); conv => whnf) | ((first | refine wf ?_ | refine wp' ?_ | refine ai ?_ | refine And.intro rfl ?_ | refine an ?_ | fail); conv => whnf))
   all_goals first | (exfalso; omega) | skip
  ·rw [decide_eq_false hm] at h2
   clear hn
   refine ACalls.of_WA ttok Tryz.func3 rfl rfl _ rfl ?_
   conv => whnf
   repeat' (first | ((exfalso; exact h trivial)) | ((exfalso; exact h rfl)) | (exact Bool.noConfusion h) | refine sq ?_ | refine bk ?_ | ((first | refine rg ttok ?_ | refine dw ttok mixed ?_ | refine cd ?_ | refine sk ?_ | refine xt ?_ | refine rt ?_); conv => whnf) | (refine And.intro (fun h => ?_) (fun h => ?_) <;> (try simp only [brsA] at h) <;> first | (exfalso; omega) | (conv => whnf)) | (refine Or.inl ?_; (conv => whnf); (first | refine ⟨_, h1, ?_⟩ | refine ⟨_, h2, ?_⟩ | refine ⟨_, hAw, ?_⟩); conv => whnf) | ((first | refine wf ?_ | refine wp' ?_ | refine ai ?_ | refine And.intro rfl ?_ | refine an ?_ | fail); conv => whnf))
   all_goals first | (exfalso; omega) | skip
 ·rw [decide_eq_false hs] at h1
  clear hn hs
  refine ACalls.of_WA ttok Tryz.func3 rfl rfl _ rfl ?_
  conv => whnf
  repeat' (first | ((exfalso; exact h trivial)) | ((exfalso; exact h rfl)) | (exact Bool.noConfusion h) | refine sq ?_ | refine bk ?_ | ((first | refine rg ttok ?_ | refine dw ttok mixed ?_ | refine cd ?_ | refine sk ?_ | refine xt ?_ | refine rt ?_); conv => whnf) | (refine And.intro (fun h => ?_) (fun h => ?_) <;> (try simp only [brsA] at h) <;> first | (exfalso; omega) | (conv => whnf)) | (refine Or.inl ?_; (conv => whnf); (first | refine ⟨_, h1, ?_⟩ | refine ⟨_, hAw, ?_⟩); conv => whnf) | ((first | refine wf ?_ | refine wp' ?_ | refine ai ?_ | refine And.intro rfl ?_ | refine an ?_ | fail); conv => whnf))
theorem bb_not (g : Gr) (rk : List Int) (ls : List Lk) (sa sz : List It) (hl : g.st.length ≤ 14 ∧ sa.length ≤ 6 ∧ sz.length ≤ 6) (hAw : ACalls Tryz.prog G 6 [] (.bool true))
  (h1 : ACalls Tryz.prog G 4 [gA g] (.sb true)) (h2 : ACalls Tryz.prog G 5 [gA g] (.sb true)) (ho : ACalls Tryz.prog G 7 [gA g] (.tup [.agg [intsA rk, lksA ls], .int .i64 0]))
  (h3 : ACalls Tryz.prog G 8 [.agg [intsA rk, lksA ls], itmA sa, itmA sz] (.sb false)) : ACalls Tryz.prog G 3 [gA g, .agg [itmA sa, itmA sz]] (.bool true) := by
 refine ACalls.of_WA ttok Tryz.func3 rfl rfl _ rfl ?_
 conv => whnf
 repeat' (first | ((exfalso; exact h trivial)) | ((exfalso; exact h rfl)) | (exact Bool.noConfusion h) | refine sq ?_ | refine bk ?_ | ((first | refine rg ttok ?_ | refine dw ttok mixed ?_ | refine cd ?_ | refine sk ?_ | refine xt ?_ | refine rt ?_); conv => whnf) | (refine And.intro (fun h => ?_) (fun h => ?_) <;> (try simp only [brsA] at h) <;> first | (exfalso; omega) | (conv => whnf)) | (refine Or.inl ?_; (conv => whnf); (first | refine ⟨_, h1, ?_⟩ | refine ⟨_, h2, ?_⟩ | refine ⟨_, hAw, ?_⟩ | refine ⟨_, ho, ?_⟩ | refine ⟨_, h3, ?_⟩); conv => whnf) | ((first | refine wf ?_ | refine wp' ?_ | refine ai ?_ | refine And.intro rfl ?_ | refine an ?_ | fail); conv => whnf))
theorem bb_yes (g : Gr) (rk : List Int) (ls : List Lk) (sa sz : List It) (lk : Int → List It) (n : Nat) (hl : g.st.length ≤ 14 ∧ sa.length ≤ 6 ∧ sz.length ≤ 6) (hz : ItP n sz) (hAw : ACalls Tryz.prog G 6 [] (.bool true))
  (h1 : ACalls Tryz.prog G 4 [gA g] (.sb true)) (h2 : ACalls Tryz.prog G 5 [gA g] (.sb true)) (ho : ACalls Tryz.prog G 7 [gA g] (.tup [.agg [intsA rk, lksA ls], .int .i64 0]))
  (h3 : ACalls Tryz.prog G 8 [.agg [intsA rk, lksA ls], itmA sa, itmA sz] (.sb true)) (m c e : Int)
  (h4 : ACalls Tryz.prog G 9 [.agg [intsA rk, lksA ls], itmA sa, itmA sz] (.tup [.int .i64 c, .int .i64 e])) (h5 : ACalls Tryz.prog G 10 [.agg [intsA rk, lksA ls], itmA sa, itmA sz] (.tup [.int .i64 c, .int .i64 e]))
  (h6 : ACalls Tryz.prog G 11 [gA g, itmA sa, .nils] (.sl n 1 fun k => [.int .i64 (minV (Wk sa lk k))])) (h0 : ∀ v d, Wk sa lk v d → 0 ≤ d)
  (hm : ∀ y, IsMin (endTo lk sa sz sz.length) y → m = y) (hc : (m = 4611686018427387904 ∧ c = 0 ∧ e = 12) ∨ (m < 4611686018427387904 ∧ c = m ∧ e = 0)) :
  ACalls Tryz.prog G 3 [gA g, .agg [itmA sa, itmA sz]] (.bool true) := by
 have hmin := fun v => minV_min (P := Wk sa lk v) (h0 v)
 have hbd := fun v => isMin_bd (hmin v) (h0 v)
 unfold NC at hbd
 refine ACalls.of_WA ttok Tryz.func3 rfl rfl _ rfl ?_
 conv => whnf
 repeat' (first | ((exfalso; exact h trivial)) | ((exfalso; exact h rfl)) | (exact Bool.noConfusion h) | refine sq ?_ | refine bk ?_ | ((first | refine rg ttok ?_ | refine dw ttok mixed ?_ | refine cd ?_ | refine sk ?_ | refine xt ?_ | refine rt ?_); conv => whnf) | (refine And.intro (fun h => ?_) (fun h => ?_) <;> (try simp only [brsA] at h) <;> first | (exfalso; omega) | (conv => whnf)) | (refine Or.inl ?_; (conv => whnf); (first | refine ⟨_, h1, ?_⟩ | refine ⟨_, h2, ?_⟩ | refine ⟨_, hAw, ?_⟩ | refine ⟨_, ho, ?_⟩ | refine ⟨_, h3, ?_⟩ | refine ⟨_, h4, ?_⟩ | refine ⟨_, h5, ?_⟩ | refine ⟨_, h6, ?_⟩); conv => whnf) | ((first | refine wf ?_ | refine wp' ?_ | refine ai ?_ | refine And.intro rfl ?_ | refine an ?_ | fail); conv => whnf))
 refine WA_loopI (ι := Nat × Int) (fun x => x.1 ≤ sz.length ∧ IsMin (endTo lk sa sz x.1) x.2) (fun x => match x with | (i, b) => [(13, .int .i64 (i : Int)), (12, .int .i64 b)]) (fun x => match x with | (_, _) => [.box 24 [intsA g.st, intsA g.hd, intsA g.wt], .box 27 [itmA sa, itmA sz], .box 32 [intsA rk, lksA ls]]) (fun x => sz.length - x.1) (0, NC) ⟨Nat.zero_le _, endTo_z _ _ _⟩ ?_ ?_
 ·conv => whnf
  repeat (first | exact fa | ((first | refine fb ?_ | (refine And.intro ?_ ?_; rotate_left)); conv => whnf))
 ·rintro ⟨i, b⟩ ⟨hi, hI⟩
  have hi : i ≤ sz.length := hi
  have hI : IsMin (endTo lk sa sz i) b := hI
  have hb : b ≤ 4611686018427387904 := hI.1
  have hzi := fun h : (i : Int) < sz.length => hz.2 (i : Int).toNat (by omega)
  have hci := hbd ((sz.getD (i : Int).toNat (0, 0)).2.toNat : Int)
  by_cases hlt : i < sz.length
  ·have hzi := hzi (by omega)
   have hst := endTo_step hlt hI (hmin _) (h0 _) hzi.2.2.1
   have ev : (((sz.getD (i : Int).toNat (0, 0)).2.toNat : Nat) : Int) = (gt sz i).2 := by
    show (((gt sz i).2.toNat : Nat) : Int) = _
    have : 0 ≤ (gt sz i).2 := hzi.1
    omega
   rw [← ev] at hst
   conv => whnf
   repeat' (first | refine sq ?_ | refine bk ?_ | ((first | refine rg ttok ?_ | refine dw ttok mixed ?_ | refine cd ?_ | refine sk ?_ | refine xt ?_ | refine rt ?_); conv => whnf) | (refine And.intro (fun h => ?_) (fun h => ?_) <;> (try simp only [brsA] at h) <;> first | (exfalso; omega) | (conv => whnf)) | ((first | refine wf ?_ | refine wp' ?_ | refine ai ?_ | refine And.intro rfl ?_ | refine an ?_ | fail); conv => whnf))
   ·refine ⟨(i + 1, minV (Wk sa lk (((sz.getD (i : Int).toNat (0, 0)).2.toNat : Nat) : Int)) + (sz.getD (i : Int).toNat (0, 0)).1), ⟨(by show i + 1 ≤ sz.length; omega), hst.1 (by assumption) h⟩, (by show sz.length - (i + 1) < sz.length - i; omega), ?_⟩
    conv => whnf
    repeat (first | exact fa | ((first | refine fb ?_ | (refine And.intro ?_ ?_; rotate_left)); conv => whnf))
   ·refine ⟨(i + 1, b), ⟨(by show i + 1 ≤ sz.length; omega), hst.2 fun hc => h hc.2⟩, (by show sz.length - (i + 1) < sz.length - i; omega), ?_⟩
    conv => whnf
    repeat (first | exact fa | ((first | refine fb ?_ | (refine And.intro ?_ ?_; rotate_left)); conv => whnf))
   ·refine ⟨(i + 1, b), ⟨(by show i + 1 ≤ sz.length; omega), hst.2 fun hc => h hc.1⟩, (by show sz.length - (i + 1) < sz.length - i; omega), ?_⟩
    conv => whnf
    repeat (first | exact fa | ((first | refine fb ?_ | (refine And.intro ?_ ?_; rotate_left)); conv => whnf))
  ·have ei : i = sz.length := by omega
   subst ei
   obtain rfl := hm b hI
   conv => whnf
   repeat' (first | refine sq ?_ | refine bk ?_ | ((first | refine rg ttok ?_ | refine dw ttok mixed ?_ | refine cd ?_ | refine sk ?_ | refine xt ?_ | refine rt ?_); conv => whnf) | (refine And.intro (fun h => ?_) (fun h => ?_) <;> (try simp only [brsA] at h) <;> first | (exfalso; omega) | (conv => whnf)) | (refine Or.inl ?_; (conv => whnf); refine ⟨_, hAw, ?_⟩; conv => whnf) | ((first | refine wf ?_ | refine wp' ?_ | refine ai ?_ | refine And.intro rfl ?_ | refine an ?_ | fail); conv => whnf))
end Go.Proofs.YtnkbkfjgbejhfaaGreat
namespace Go.Proofs.YtnkbkfjgbejhfaaGreat
open Go.Proofs.YtnkbkfjgbejhfaaGreat.Am Go.HeapL
variable [Inhabited DRT]
variable {G : GInv}
theorem built_c (hns : (default : DRT).ns) (g : Gr) (sa sz : List It) : ACalls Tryz.prog G 3 [gA g, .agg [itmA sa, itmA sz]] (.bool true) := by
 have hAw := awake_c (G := G)
 by_cases hn : NearB g sa sz
 rotate_left
 ·exact bb_far g sa sz hn hAw
 obtain ⟨l1, l2, l3, l4, l5, hm⟩ := hn
 have h1 := smallg_c (G := G) g
 rw [decide_eq_true (by omega)] at h1
 have h2 := rmay19_c (G := G) g (by omega) (by omega) (by omega)
 rw [decide_eq_true hm] at h2
 have hok := hm.ok
 have h28 : g.n ≤ 28 := by show g.st.length - 1 ≤ 28; omega
 have ho := of_ok (G := G) hns g hm h28
 have hM := fin_may hok h28
 have hrl := fin_rl hok h28
 have h3 := refMay33_c (G := G) (ofB g).rk (lsB g) sa sz (by have := hM.2.1; omega) (by omega) (by omega) (by omega)
 by_cases hi : ItP g.n sa ∧ ItP g.n sz
 rotate_left
 ·rw [decide_eq_false (fun h => hi (by rw [← hrl]; exact h.2))] at h3
  exact bb_not g _ _ sa sz ⟨l1, l4, l5⟩ hAw h1 h2 ho h3
 ·rw [decide_eq_true (by rw [hrl]; exact ⟨hM, hi⟩)] at h3
  obtain ⟨m, c, e, hmin, h4, h5, hc⟩ := both_ok hok h28 hM hi.1 hi.2
  have h6 := all_c (G := G) g hm sa (by omega) (fun i hi' => ⟨(hi.1.2 i hi').1, (hi.1.2 i hi').2.1, (hi.1.2 i hi').2.2.1⟩)
  refine bb_yes g _ _ sa sz (gE g) g.n ⟨l1, l4, l5⟩ hi.2 hAw h1 h2 ho h3 m c e (h4 G) (h5 G) h6 (fun v d hw => ?_) (fun y hy => endTo_min (kp_ok hok h28 hi.1 hi.2) (fun a b c => wo_wk hok) (fun a b c => wk_wo0 hok) hmin hy) hc
  exact (wk_ok (n := g.n) ⟨fun k v hm => by have := hi.1.mem hm; unfold NC; omega, fun u w v hm => by have := gE_ok hok hm; omega⟩ hw).2.2
end Go.Proofs.YtnkbkfjgbejhfaaGreat

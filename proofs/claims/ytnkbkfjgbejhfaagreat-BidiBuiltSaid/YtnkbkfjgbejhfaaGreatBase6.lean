/-
  The walks and plain laws, part 6.
-/
import Derived.Test.YtnkbkfjgbejhfaaGreatBase5
import Derived.Test.YtnkbkfjgbejhfaaGreatBase2
import Derived.Test.YtnkbkfjgbejhfaaGreatBase1
import Derived.Test.YtnkbkfjgbejhfaaGreatBase3
set_option linter.unusedSimpArgs false
set_option linter.unusedSectionVars false
set_option linter.unusedVariables false
set_option maxRecDepth 100000
set_option maxHeartbeats 8000000
namespace Go.Proofs.YtnkbkfjgbejhfaaGreat
open Go.Proofs.YtnkbkfjgbejhfaaGreat.Am Go.HeapL
variable [Inhabited DRT]
variable {G : GInv}
/-! ### What is built may be -/
section
variable {g : Gr}
theorem fin_BI (h : GrOK g) (hn : g.n ≤ 28) : BI g.n g.n 2147483648 (oP g g.hd.length) (ofB g) := itr_BI h hn g.n (Nat.le_refl _)
theorem fin_q (h : GrOK g) (hn : g.n ≤ 28) (v : Int) : hasL (ofB g).q v = false := by
 have hc := (fin_BI h hn).ct
 have : (ofB g).q = [] := List.eq_nil_of_length_eq_zero (by omega)
 rw [this]; rfl
theorem fin_W (hn : g.n ≤ 28) : (2147483648 : Int) * 2 ^ g.n ≤ 1152921504606846976 := by
 have h2 : (2 : Nat) ^ g.n ≤ 2 ^ 28 := Nat.pow_le_pow_right (by omega) (by omega)
 have e : ((2 ^ g.n : Nat) : Int) = (2 : Int) ^ g.n := by simp
 rw [← e]
 have e2 : (2 : Nat) ^ 28 = 268435456 := by decide
 omega
theorem fin_rl (h : GrOK g) (hn : g.n ≤ 28) : (ofB g).rk.length = g.n := (fin_BI h hn).rl
theorem fin_mem (x : Lk) : x ∈ lsB g ↔ x ∈ (ofB g).ks := (srt_facts cfK swo_K (ofB g).ks).1.mem_iff
theorem fin_len (h : GrOK g) (hn : g.n ≤ 28) : (lsB g).length ≤ g.n * g.n := by
 unfold lsB
 rw [srt_len cfK swo_K]; exact (fin_BI h hn).len
theorem fin_ok (h : GrOK g) (hn : g.n ≤ 28) {x : Lk} (hx : x ∈ lsB g) : okL g.n x := by
 have := (fin_BI h hn).kd ((fin_mem x).1 hx)
 have hw := fin_W hn
 exact ⟨this.1, this.2.1, this.2.2.1, this.2.2.2.2.1, by omega⟩
theorem mem_gd {l : List Lk} {i : Nat} (h : i < l.length) : l.getD i default ∈ l := by
 rw [List.getD_eq_getElem?_getD, List.getElem?_eq_getElem h]; exact List.getElem_mem h
theorem fin_sorted (h : GrOK g) (hn : g.n ≤ 28) : SortedP g.n (lsB g) := by
 intro k hk
 refine ⟨fin_ok h hn (mem_gd hk), fun h0 => ?_⟩
 have hB := fin_BI h hn
 obtain ⟨f1, f2⟩ := srt_facts cfK swo_K (ofB g).ks
 have hk' : k < (ofB g).ks.length := by rw [← srt_len cfK swo_K]; exact hk
 have h1 := f2 (k - 1) k (by omega) hk'
 have n1 : ¬ (((lsB g).getD k default).f < ((lsB g).getD (k - 1) default).f ∨ (((lsB g).getD k default).f = ((lsB g).getD (k - 1) default).f ∧ ((lsB g).getD k default).t < ((lsB g).getD (k - 1) default).t)) := fun h => by
  have h1' : ltOf cfK ((lsB g).getD k default) ((lsB g).getD (k - 1) default) = false := h1
  rw [cfK_lt.2 h] at h1'; cases h1'
 have hnd : ((lsB g).map fun x => (x.f, x.t)).Nodup := (f1.map _).nodup_iff.2 hB.nk
 rw [List.nodup_iff_pairwise_ne, List.pairwise_map, List.pairwise_iff_getElem] at hnd
 have hne := hnd (k - 1) k (by omega) hk (by omega)
 have e1 : (lsB g)[k - 1]'(by omega) = (lsB g).getD (k - 1) default := by rw [List.getD_eq_getElem?_getD, List.getElem?_eq_getElem (by omega)]; rfl
 have e2 : (lsB g)[k]'hk = (lsB g).getD k default := by rw [List.getD_eq_getElem?_getD, List.getElem?_eq_getElem hk]; rfl
 rw [e1, e2] at hne
 rw [ordI_neg]
 unfold lexLt
 have hne' : ¬ (((lsB g).getD (k - 1) default).f = ((lsB g).getD k default).f ∧ ((lsB g).getD (k - 1) default).t = ((lsB g).getD k default).t) := fun e => hne (by rw [e.1, e.2])
 omega
theorem fin_sortedR (h : GrOK g) (hn : g.n ≤ 28) : SortedP (ofB g).rk.length (lsB g) := by rw [fin_rl h hn]; exact fin_sorted h hn
theorem fin_ranks (h : GrOK g) (hn : g.n ≤ 28) : RanksP (ofB g).rk := by
 have hB := fin_BI h hn
 intro i hi
 rw [fin_rl h hn] at hi ⊢
 have q := fin_q h hn
 have := hB.rr (v := i) (by omega) (by omega) (q _)
 refine ⟨this, fun j hj e => ?_⟩
 have := hB.rd (u := j) (v := i) (by omega) (by omega) (q _) (by omega) (by omega) (q _) e
 omega
theorem pos_of_mem {n : Nat} {ls : List Lk} (hS : SortedP n ls) {x : Lk} (hx : x ∈ ls) : 0 ≤ posL ls x.f x.t ∧ ls.getD (posL ls x.f x.t).toNat default = x := by
 obtain ⟨i, hi, rfl⟩ := mem_at'.1 hx
 rw [uniqL hS hi]
 exact ⟨by omega, by rw [Int.toNat_natCast]⟩
theorem fin_join (h : GrOK g) (hn : g.n ≤ 28) {x : Lk} (hx : x ∈ lsB g) (hm : x.m ≠ -1) : JoinP (ofB g).rk (lsB g) x := by
 have hS := fin_sorted h hn
 have q := fin_q h hn
 obtain ⟨m1, ⟨y, z, y1, z1, e1, e2, e3, e4, e5⟩, _, r1, r2⟩ := (fin_BI h hn).km ((fin_mem x).1 hx) hm
 have hy := pos_of_mem hS ((fin_mem y).2 y1)
 have hz := pos_of_mem hS ((fin_mem z).2 z1)
 rw [e1, e2] at hy; rw [e3, e4] at hz
 refine ⟨by rw [fin_rl h hn]; exact m1, r1 (q _), r2 (q _), hy.1, hz.1, ?_⟩
 rw [hy.2, hz.2]; exact e5
theorem fin_may (h : GrOK g) (hn : g.n ≤ 28) : MayP (ofB g).rk (lsB g) := by
 have hl := fin_len h hn
 have : g.n * g.n ≤ 28 * 28 := Nat.mul_le_mul hn hn
 refine ⟨by rw [fin_rl h hn]; omega, by omega, fin_ranks h hn, fin_sortedR h hn, fun i hi => ?_⟩
 by_cases e : ((lsB g).getD i default).m = -1
 ·exact .inl e
 ·exact .inr (fin_join h hn (mem_gd hi) e)
end
/-! The weight of an arc. -/
end Go.Proofs.YtnkbkfjgbejhfaaGreat
namespace Go.Proofs.YtnkbkfjgbejhfaaGreat
open Go.Proofs.YtnkbkfjgbejhfaaGreat.Am Go.HeapL
variable [Inhabited DRT]
variable {G : GInv}
/-! ### The document's search -/
/-- A vertex's arcs. -/
def gE (g : Gr) (u : Int) : List It := (List.range g.hd.length).filterMap fun (k : Nat) => if (0 ≤ u ∧ u < g.n) ∧ g.s u ≤ k ∧ (k : Int) < g.s (u + 1) then some (g.wt.getD k 0, g.hd.getD k 0) else none
theorem gE_mem {g : Gr} {u w x : Int} : (w, x) ∈ gE g u ↔ ∃ k : Nat, k < g.hd.length ∧ (0 ≤ u ∧ u < g.n) ∧ g.s u ≤ k ∧ (k : Int) < g.s (u + 1) ∧ w = g.wt.getD k 0 ∧ x = g.hd.getD k 0 := by
 unfold gE
 rw [List.mem_filterMap]
 constructor
 ·rintro ⟨k, hk, e⟩
  split at e
  ·rename_i h
   simp only [Option.some.injEq, Prod.mk.injEq] at e
   exact ⟨k, List.mem_range.1 hk, h.1, h.2.1, h.2.2, e.1.symm, e.2.symm⟩
  ·cases e
 ·rintro ⟨k, hk, h1, h2, h3, rfl, rfl⟩
  exact ⟨k, List.mem_range.2 hk, by rw [if_pos ⟨h1, h2, h3⟩]⟩
theorem gE_ok {g : Gr} (h : GrOK g) {u w x : Int} (hm : (w, x) ∈ gE g u) : (0 ≤ u ∧ u < g.n) ∧ (0 ≤ x ∧ x < g.n) ∧ 0 ≤ w := by
 obtain ⟨k, hk, h1, h2, h3, rfl, rfl⟩ := gE_mem.1 hm
 have e1 : g.s u = g.st.getD u.toNat 0 := rfl
 have e2 : g.s (u + 1) = g.st.getD (u.toNat + 1) 0 := by unfold Gr.s; rw [show (u + 1).toNat = u.toNat + 1 by omega]
 have := h.arc u.toNat (by omega) k (by omega) (by omega)
 exact ⟨h1, this.1, this.2.1.1⟩
/-- The arcs of a vertex that are looked at. -/
def gP (g : Gr) (v : Nat) (i : Int) : Int → Int → Int → Prop := fun u w x => ((w, x) ∈ gE g u ∧ u < v) ∨ (u = v ∧ ∃ k : Nat, g.st.getD v 0 ≤ k ∧ (k : Int) < i ∧ w = g.wt.getD k 0 ∧ x = g.hd.getD k 0)
theorem _root_.Go.HeapL.BF.mono {n : Nat} {lk : Int → List It} {st : List It} {t : Nat} {P P' : Int → Int → Int → Prop} {c : Nat → Int} (h : BF n lk st t P c) (hP : ∀ x y z, P' x y z → P x y z) : BF n lk st t P' c :=
 ⟨h.bd, h.wk, h.done, fun u w v d hp => h.part u w v d (hP _ _ _ hp)⟩
theorem _root_.Go.HeapL.BF.skip {n : Nat} {lk : Int → List It} {st : List It} {t : Nat} {P P' : Int → Int → Int → Prop} {c : Nat → Int} (h : BF n lk st t P c) {u : Nat} (hu : u < n) (hc : NC ≤ c u) (hP : ∀ x y z, P' x y z → P x y z ∨ x = u) (h0 : ∀ u w v, (w, v) ∈ lk u → 0 ≤ w) (hw : ∀ x y z, P' x y z → 0 ≤ y) : BF n lk st t P' c := by
 refine ⟨h.bd, h.wk, h.done, fun x y z d hp x0 x1 z0 z1 hw' hd => ?_⟩
 rcases hP x y z hp with k | rfl
 ·exact h.part x y z d k x0 x1 z0 z1 hw' hd
 ·have := hw _ _ _ hp
  have := h.done t (Nat.le_refl _) u d hu hw' (by omega)
  omega
theorem gE_at {g : Gr} (h : GrOK g) {v k : Nat} (hv : v < g.n) (k1 : g.st.getD v 0 ≤ k) (k2 : (k : Int) < g.st.getD (v + 1) 0) : (g.wt.getD k 0, g.hd.getD k 0) ∈ gE g v := by
 have := h.nn (v := v + 1) (by omega)
 exact gE_mem.2 ⟨k, by omega, ⟨by omega, by omega⟩, k1, k2, rfl, rfl⟩
/-- A row is over. -/
theorem gP_next {g : Gr} (v : Nat) : ∀ u w x, (w, x) ∈ gE g u ∧ u < ((v + 1 : Nat) : Int) → gP g v (g.st.getD (v + 1) 0) u w x := by
 rintro u w x ⟨h1, h2⟩
 by_cases e : u < v
 ·exact .inl ⟨h1, e⟩
 ·have e : u = v := by omega
  subst e
  obtain ⟨k, a1, a2, a3, a4, a5, a6⟩ := gE_mem.1 h1
  exact .inr ⟨rfl, k, a3, a4, a5, a6⟩
theorem gP_start {g : Gr} (v : Nat) : ∀ u w x, gP g v (g.st.getD v 0) u w x → (w, x) ∈ gE g u ∧ u < (v : Int) := by
 rintro u w x (h | ⟨rfl, k, k1, k2, _⟩)
 ·exact h
 ·omega
theorem gP_arc {g : Gr} (v : Nat) {i : Int} (h0 : 0 ≤ i) : ∀ u w x, gP g v (i + 1) u w x → gP g v i u w x ∨ (u = v ∧ w = g.wt.getD i.toNat 0 ∧ x = g.hd.getD i.toNat 0) := by
 rintro u w x (h | ⟨rfl, k, k1, k2, e1, e2⟩)
 ·exact .inl (.inl h)
 ·by_cases e : (k : Int) = i
  ·subst e; exact .inr ⟨rfl, e1, e2⟩
  ·exact .inl (.inr ⟨rfl, k, k1, by omega, e1, e2⟩)
theorem shut_c (v : Int) : ACalls Tryz.prog G 26 [.nils, .int .i64 v] (.bool false) := by
 refine ACalls.of_WA ttok Tryz.func26 rfl rfl _ rfl ?_
 conv => whnf
 repeat' (first | refine sq ?_ | refine bk ?_ | ((first | refine rg ttok ?_ | refine dw ttok mixed ?_ | refine cd ?_ | refine sk ?_ | refine xt ?_ | refine rt ?_); conv => whnf) | (refine And.intro (fun h => ?_) (fun h => ?_) <;> (try simp only [brsA] at h) <;> conv => whnf) | ((first | refine wf ?_ | refine wp' ?_ | refine ai ?_ | refine And.intro rfl ?_ | refine an ?_ | fail); conv => whnf))
 exact absurd h (by omega)
theorem all_c (g : Gr) (hg : GMay g) (sa : List It) (hs0 : sa.length ≤ 1000000) (ha : ∀ i, i < sa.length → 0 ≤ (sa.getD i (0, 0)).2 ∧ (sa.getD i (0, 0)).2 < g.n ∧ 0 ≤ (sa.getD i (0, 0)).1) :
  ACalls Tryz.prog G 11 [gA g, .sl sa.length 2 (itR sa), .nils] (.sl g.n 1 fun k => [.int .i64 (minV (Wk sa (gE g) k))]) := by
 have hs := rsize19_c (G := G) g (by have := hg.1.2.1; omega)
 have hn : (g.st.length : Int) - 1 = g.n := by show _ = ((g.st.length - 1 : Nat) : Int); have := hg.1.1; omega
 have hsl : g.st.length = g.n + 1 := by omega
 rw [hn] at hs
 have hok := hg.ok
 have hwl := hok.wl
 have hhl : g.hd.length ≤ 200000 := hg.1.2.2.2.2.1
 have hnl : g.n ≤ 4000 := by have := hg.1.2.1; show g.st.length - 1 ≤ 4000; omega
 have hsh := fun v => shut_c (G := G) v
 have hr0 : ∀ u w v, (w, v) ∈ gE g u → 0 ≤ w := fun u w v h => (gE_ok hok h).2.2
 have hrn : ∀ u w v, (w, v) ∈ gE g u → (0 ≤ u ∧ u < g.n) ∧ 0 ≤ v ∧ v < g.n := fun u w v h => ⟨(gE_ok hok h).1, (gE_ok hok h).2.1⟩
 have hst' : ∀ k a, (k, a) ∈ sa → 0 ≤ a ∧ a < g.n := fun k a hm => by
  obtain ⟨i, hi, e⟩ := mem_at hm
  have := ha i hi
  rw [show sa.getD i (0, 0) = (k, a) from e] at this
  exact ⟨this.1, this.2.1⟩
 refine ACalls.of_WA ttok Tryz.func11 rfl rfl _ rfl ?_
 conv => whnf
 repeat' (first | refine sq ?_ | refine bk ?_ | ((first | refine rg ttok ?_ | refine dw ttok mixed ?_ | refine cd ?_ | refine sk ?_ | refine xt ?_ | refine rt ?_); conv => whnf) | (refine And.intro (fun h => ?_) (fun h => ?_) <;> (try simp only [brsA] at h) <;> conv => whnf) | (refine Or.inl ?_; (conv => whnf); refine ⟨_, hs, ?_⟩; conv => whnf) | ((first | refine wf ?_ | refine wp' ?_ | refine ai ?_ | refine And.intro rfl ?_ | refine an ?_ | fail); conv => whnf))
 refine WA_loopI (fun i => i ≤ g.n) (fun i => [(9, .int .i64 (i : Int))]) (fun i => [.box 24 [intsA g.st, intsA g.hd, intsA g.wt], .row 3 1 g.n (cR fun k => if k < i then NC else 0)]) (fun i => g.n - i) 0 (by omega) ?_ ?_
 ·conv => whnf
  repeat (first | exact fa | ((first | refine fb ?_ | (refine And.intro ?_ ?_; rotate_left)); conv => whnf))
 ·intro i hi
  have hi : i ≤ g.n := hi
  conv => whnf
  repeat' (first | refine sq ?_ | refine bk ?_ | ((first | refine rg ttok ?_ | refine dw ttok mixed ?_ | refine cd ?_ | refine sk ?_ | refine xt ?_ | refine rt ?_); conv => whnf) | (refine And.intro (fun h => ?_) (fun h => ?_) <;> (try simp only [brsA] at h) <;> conv => whnf) | ((first | refine wf ?_ | refine wp' ?_ | refine ai ?_ | refine And.intro rfl ?_ | refine an ?_ | fail); conv => whnf))
  ·refine ⟨i + 1, (by show i + 1 ≤ g.n; omega), (by show g.n - (i + 1) < g.n - i; omega), ?_⟩
   conv => whnf
   repeat (first | exact fa | ((first | refine fb ?_ | (refine And.intro ?_ ?_; rotate_left)); conv => whnf))
   exact Or.inl fun k hk => c0_step i k
  ·have e : i = g.n := by omega
   subst e
   refine WA_loopI (ι := Nat × (Nat → Int)) (fun x => x.1 ≤ sa.length ∧ BI0 g.n sa x.1 x.2) (fun x => match x with | (i, _) => [(10, .int .i64 (i : Int))]) (fun x => match x with | (_, c) => [.box 24 [intsA g.st, intsA g.hd, intsA g.wt], .row 3 1 g.n (cR c)]) (fun x => sa.length - x.1) (0, fun k => if k < g.n then NC else 0) ⟨Nat.zero_le _, ⟨fun k hk => by show 0 ≤ (if k < g.n then NC else 0) ∧ (if k < g.n then NC else 0) ≤ NC; rw [if_pos hk]; unfold NC; omega, fun k hk h => by
     have h : (if k < g.n then NC else 0) < NC := h
     rw [if_pos hk] at h; omega, fun j h => absurd h (Nat.not_lt_zero _)⟩⟩ ?_ ?_
   ·conv => whnf
    repeat (first | exact fa | ((first | refine fb ?_ | (refine And.intro ?_ ?_; rotate_left)); conv => whnf))
   ·rintro ⟨i, c⟩ ⟨hi, hI⟩
    have hi : i ≤ sa.length := hi
    have hI : BI0 g.n sa i c := hI
    have hai : (i : Int) < sa.length → 0 ≤ (sa.getD (i : Int).toNat (0, 0)).2 ∧ (sa.getD (i : Int).toNat (0, 0)).2 < g.n ∧ 0 ≤ (sa.getD (i : Int).toNat (0, 0)).1 := fun h => ha (i : Int).toNat (by omega)
    conv => whnf
    repeat' (first | refine sq ?_ | refine bk ?_ | ((first | refine rg ttok ?_ | refine dw ttok mixed ?_ | refine cd ?_ | refine sk ?_ | refine xt ?_ | refine rt ?_); conv => whnf) | (refine And.intro (fun h => ?_) (fun h => ?_) <;> (try simp only [brsA] at h) <;> conv => whnf) | (refine Or.inl ?_; (conv => whnf); refine ⟨_, hsh _, ?_⟩; conv => whnf) | ((first | refine wf ?_ | refine wp' ?_ | refine ai ?_ | refine And.intro rfl ?_ | refine an ?_ | fail); conv => whnf))
    ·have hi : i < sa.length := by omega
     have hx := ha i hi
     refine ⟨(i + 1, updF1 c (sa.getD i (0, 0)).2.toNat (sa.getD i (0, 0)).1), ⟨hi, (hI.step hi ⟨hx.1, hx.2.1⟩ hx.2.2).1 h⟩, (by show sa.length - (i + 1) < sa.length - i; omega), ?_⟩
     conv => whnf
     repeat (first | exact fa | ((first | refine fb ?_ | (refine And.intro ?_ ?_; rotate_left)); conv => whnf))
     exact Or.inl fun k hk => cR_upd c _ _ k
    ·have hi : i < sa.length := by omega
     have hx := ha i hi
     refine ⟨(i + 1, c), ⟨hi, (hI.step hi ⟨hx.1, hx.2.1⟩ hx.2.2).2 h⟩, (by show sa.length - (i + 1) < sa.length - i; omega), ?_⟩
     conv => whnf
     repeat (first | exact fa | ((first | refine fb ?_ | (refine And.intro ?_ ?_; rotate_left)); conv => whnf))
    ·have e : i = sa.length := by omega
     subst e
     ·refine WA_loopI (ι := Nat × (Nat → Int)) (fun x => x.1 ≤ g.n + 1 ∧ BF g.n (gE g) sa x.1 (fun _ _ _ => False) x.2) (fun x => match x with | (t, _) => [(12, .int .i64 (t : Int))]) (fun x => match x with | (_, c) => [.box 24 [intsA g.st, intsA g.hd, intsA g.wt], .row 3 1 g.n (cR c)]) (fun x => g.n + 1 - x.1) (0, c) ⟨Nat.zero_le _, BF.init hI⟩ ?_ ?_
      ·conv => whnf
       repeat (first | exact fa | ((first | refine fb ?_ | (refine And.intro ?_ ?_; rotate_left)); conv => whnf))
      ·rintro ⟨t, c⟩ ⟨ht, hI⟩
       have ht : t ≤ g.n + 1 := ht
       have hI : BF g.n (gE g) sa t (fun _ _ _ => False) c := hI
       conv => whnf
       repeat' (first | refine sq ?_ | refine bk ?_ | ((first | refine rg ttok ?_ | refine dw ttok mixed ?_ | refine cd ?_ | refine sk ?_ | refine xt ?_ | refine rt ?_); conv => whnf) | (refine And.intro (fun h => ?_) (fun h => ?_) <;> (try simp only [brsA] at h) <;> conv => whnf) | ((first | refine wf ?_ | refine wp' ?_ | refine ai ?_ | refine And.intro rfl ?_ | refine an ?_ | fail); conv => whnf))
       ·refine WA_loopI (ι := Nat × (Nat → Int)) (fun x => x.1 ≤ g.n ∧ BF g.n (gE g) sa t (fun u w y => (w, y) ∈ gE g u ∧ u < (x.1 : Int)) x.2) (fun x => match x with | (v, _) => [(13, .int .i64 (v : Int))]) (fun x => match x with | (_, c) => [.box 24 [intsA g.st, intsA g.hd, intsA g.wt], .row 3 1 g.n (cR c)]) (fun x => g.n - x.1) (0, c) ⟨Nat.zero_le _, hI.mono fun u w y hh => by have := (gE_ok hok hh.1).1; have := hh.2; omega⟩ ?_ ?_
        ·conv => whnf
         repeat (first | exact fa | ((first | refine fb ?_ | (refine And.intro ?_ ?_; rotate_left)); conv => whnf))
        ·rintro ⟨v, c⟩ ⟨hv, hI⟩
         have hv : v ≤ g.n := hv
         have hI : BF g.n (gE g) sa t (fun u w y => (w, y) ∈ gE g u ∧ u < (v : Int)) c := hI
         have hbd : (v : Int) < g.n → 0 ≤ c (v : Int).toNat ∧ c (v : Int).toNat ≤ 4611686018427387904 := fun h => by
          have := hI.bd (v : Int).toNat (by omega); unfold NC at this; exact this
         conv => whnf
         repeat' (first | refine sq ?_ | refine bk ?_ | ((first | refine rg ttok ?_ | refine dw ttok mixed ?_ | refine cd ?_ | refine sk ?_ | refine xt ?_ | refine rt ?_); conv => whnf) | (refine And.intro (fun h => ?_) (fun h => ?_) <;> (try simp only [brsA] at h) <;> conv => whnf) | ((first | refine wf ?_ | refine wp' ?_ | refine ai ?_ | refine And.intro rfl ?_ | refine an ?_ | fail); conv => whnf))
         ·refine ⟨(v + 1, c), ⟨(by show v + 1 ≤ g.n; omega), ?_⟩, (by show g.n - (v + 1) < g.n - v; omega), ?_⟩
          ·have hv : v < g.n := by omega
           have h : c v = NC := h
           refine (hI.skip (P' := fun u w y => (w, y) ∈ gE g u ∧ u < ((v + 1 : Nat) : Int)) hv (by rw [h]; exact Int.le_refl _) (fun x y z hh => ?_) hr0 (fun x y z hh => hr0 _ _ _ hh.1))
           by_cases e : x < v
           ·exact .inl ⟨hh.1, e⟩
           ·exact .inr (by have := hh.2; omega)
          ·conv => whnf
           repeat (first | exact fa | ((first | refine fb ?_ | (refine And.intro ?_ ?_; rotate_left)); conv => whnf))
         ·have hv : v < g.n := by omega
          have hf := head_facts ⟨hg.1, hg.2.1⟩ (v := v) (by omega)
          refine WA_loopI (ι := Int × (Nat → Int)) (fun x => stI g v ≤ x.1 ∧ x.1 ≤ stI g ((v : Int) + 1) ∧ BF g.n (gE g) sa t (gP g v x.1) x.2) (fun x => match x with | (i, _) => [(14, .int .i64 i)]) (fun x => match x with | (_, c) => [.box 24 [intsA g.st, intsA g.hd, intsA g.wt], .row 3 1 g.n (cR c)]) (fun x => (stI g ((v : Int) + 1) - x.1).toNat) (stI g v, c) ⟨Int.le_refl _, hf.2.1, hI.mono (gP_start v)⟩ ?_ ?_
          ·conv => whnf
           repeat (first | exact fa | ((first | refine fb ?_ | (refine And.intro ?_ ?_; rotate_left)); conv => whnf))
          ·rintro ⟨i, c⟩ ⟨i1, i2, hI⟩
           have i1 : stI g v ≤ i := i1
           have i2 : i ≤ stI g ((v : Int) + 1) := i2
           have hI : BF g.n (gE g) sa t (gP g v i) c := hI
           have hA : i < g.st.getD ((v : Int) + 1).toNat 0 → (0 ≤ g.hd.getD i.toNat 0 ∧ g.hd.getD i.toNat 0 < g.n) ∧ (0 ≤ g.wt.getD i.toNat 0 ∧ g.wt.getD i.toNat 0 ≤ 2147483648) := fun h => by
            have := arcP_raw.1 (hg.2.2 v (by omega) i i1 h)
            omega
           have hbv := hI.bd (v : Int).toNat (by omega)
           have hbh : i < g.st.getD ((v : Int) + 1).toNat 0 → 0 ≤ c (g.hd.getD i.toNat 0).toNat ∧ c (g.hd.getD i.toNat 0).toNat ≤ 4611686018427387904 := fun h => by
            have := hI.bd (g.hd.getD i.toNat 0).toNat (by have := hA h; omega)
            unfold NC at this; exact this
           unfold NC at hbv
           have hst : i < g.st.getD ((v : Int) + 1).toNat 0 → (c v < NC → c v + g.wt.getD i.toNat 0 < c (g.hd.getD i.toNat 0).toNat → BF g.n (gE g) sa t (gP g v (i + 1)) (updF1 c (g.hd.getD i.toNat 0).toNat (c v + g.wt.getD i.toNat 0))) ∧ (¬ (c v < NC ∧ c v + g.wt.getD i.toNat 0 < c (g.hd.getD i.toNat 0).toNat) → BF g.n (gE g) sa t (gP g v (i + 1)) c) := fun h => by
            have ha := hA h
            have e : ((g.hd.getD i.toNat 0).toNat : Int) = g.hd.getD i.toNat 0 := by omega
            refine hI.arc (v := (g.hd.getD i.toNat 0).toNat) hv (by omega) ?_ ha.2.1 ?_
            ·rw [e]
             exact gE_at hok hv (by have : stI g v = g.st.getD v 0 := rfl; omega) (by rw [show ((v : Int) + 1).toNat = v + 1 by omega] at h; omega)
            ·rw [e]
             exact gP_arc v (by omega)
           conv => whnf
           repeat' (first | refine sq ?_ | refine bk ?_ | ((first | refine rg ttok ?_ | refine dw ttok mixed ?_ | refine cd ?_ | refine sk ?_ | refine xt ?_ | refine rt ?_); conv => whnf) | (refine And.intro (fun h => ?_) (fun h => ?_) <;> (try simp only [brsA] at h) <;> conv => whnf) | (refine Or.inl ?_; (conv => whnf); refine ⟨_, hsh _, ?_⟩; conv => whnf) | ((first | refine wf ?_ | refine wp' ?_ | refine ai ?_ | refine And.intro rfl ?_ | refine an ?_ | fail); conv => whnf))
           ·have hi : i < g.st.getD ((v : Int) + 1).toNat 0 := by assumption
            have h2 : c v + g.wt.getD i.toNat 0 < c (g.hd.getD i.toNat 0).toNat := h
            have hlt : c v < NC := Int.lt_of_lt_of_le (Int.lt_of_le_of_lt (Int.le_add_of_nonneg_right (hA hi).2.1) h2) (hbh hi).2
            refine ⟨(i + 1, updF1 c (g.hd.getD i.toNat 0).toNat (c v + g.wt.getD i.toNat 0)), ⟨(by show stI g v ≤ i + 1; omega), (by show i + 1 ≤ stI g ((v : Int) + 1); exact hi), (hst hi).1 hlt h⟩, arcs_meas hi, ?_⟩
            conv => whnf
            repeat (first | exact fa | ((first | refine fb ?_ | (refine And.intro ?_ ?_; rotate_left)); conv => whnf))
            exact Or.inl fun k hk => cR_upd c _ _ k
           ·have hi : i < g.st.getD ((v : Int) + 1).toNat 0 := by assumption
            refine ⟨(i + 1, c), ⟨(by show stI g v ≤ i + 1; omega), (by show i + 1 ≤ stI g ((v : Int) + 1); exact hi), (hst hi).2 fun hc => h hc.2⟩, arcs_meas hi, ?_⟩
            conv => whnf
            repeat (first | exact fa | ((first | refine fb ?_ | (refine And.intro ?_ ?_; rotate_left)); conv => whnf))
           ·have e : i = g.st.getD (v + 1) 0 := by
             have i2 : i ≤ g.st.getD ((v : Int) + 1).toNat 0 := i2
             rw [show ((v : Int) + 1).toNat = v + 1 by omega] at h i2
             omega
            subst e
            refine ⟨(v + 1, c), ⟨(by show v + 1 ≤ g.n; omega), hI.mono (gP_next v)⟩, (by show g.n - (v + 1) < g.n - v; omega), ?_⟩
            conv => whnf
            repeat (first | exact fa | ((first | refine fb ?_ | (refine And.intro ?_ ?_; rotate_left)); conv => whnf))
         ·have e : v = g.n := by omega
          subst e
          refine ⟨(t + 1, c), ⟨(by show t + 1 ≤ g.n + 1; omega), hI.round hr0 hrn fun u w y hh => ⟨hh, (hrn u w y hh).1.2⟩⟩, (by show g.n + 1 - (t + 1) < g.n + 1 - t; omega), ?_⟩
          conv => whnf
          repeat (first | exact fa | ((first | refine fb ?_ | (refine And.intro ?_ ?_; rotate_left)); conv => whnf))
       ·have e : t = g.n + 1 := by omega
        subst e
        refine Or.inl fun k hk => ?_
        show [A.int .i64 (c k)] = [A.int .i64 (minV (Wk sa (gE g) k))]
        rw [minV_eq (hI.fin (by omega) hr0 (fun u w v h => (hrn u w v h).2) hst' hk)]
end Go.Proofs.YtnkbkfjgbejhfaaGreat
namespace Go.Proofs.YtnkbkfjgbejhfaaGreat
open Go.Proofs.YtnkbkfjgbejhfaaGreat.Am Go.HeapL
variable [Inhabited DRT]
variable {G : GInv}
/-! ### The theorem of hierarchies -/
section
variable {g : Gr}
theorem upE_link (h : GrOK g) (hn : g.n ≤ 28) {x : Lk} (hx : x ∈ (ofB g).ks) (hr : rkI (ofB g).rk x.f < rkI (ofB g).rk x.t) : (x.w, x.t) ∈ upE (ofB g).rk (lsB g) x.f := by
 obtain ⟨i, hi, e⟩ := mem_at'.1 ((fin_mem x).2 hx)
 exact (upE_mem _ _ _ _ _).2 ⟨i, hi, by rw [e], by rw [e], by rw [e], by rw [e]; exact hr⟩
theorem dnE_link (h : GrOK g) (hn : g.n ≤ 28) {x : Lk} (hx : x ∈ (ofB g).ks) (hr : rkI (ofB g).rk x.t < rkI (ofB g).rk x.f) : (x.w, x.f) ∈ dnE (ofB g).rk (lsB g) x.t := by
 obtain ⟨i, hi, e⟩ := mem_at'.1 ((fin_mem x).2 hx)
 exact (dnE_mem _ _ _ _ _).2 ⟨i, hi, by rw [e], by rw [e], by rw [e], by rw [e]; exact hr⟩
theorem top_less (h : GrOK g) (hn : g.n ≤ 28) {i : Nat} (hi : i < g.n) {u : Int} (hu : hasL (Si g i).q u = true) (ne : u ≠ topN g.n (Si g i)) : rkI (ofB g).rk (topN g.n (Si g i)) < rkI (ofB g).rk u := by
 have hB := Si_BI h hn i (by omega)
 have h1 := rk_top h hn hi
 have h2 := rk_live h hn (g.n - (i + 1)) (i + 1) (by omega) u ((hB.live hi u).2 ⟨ne, hu⟩)
 show (ofB g).rk.getD (topN g.n (Si g i)).toNat 0 < (ofB g).rk.getD u.toNat 0
 rw [h1]
 omega
theorem hU_ok (h : GrOK g) (hn : g.n ≤ 28) : ∀ i, i < g.n → ∀ u s, (Si g i).o (topN g.n (Si g i)) u = some s → (s.1, u) ∈ upE (ofB g).rk (lsB g) (topN g.n (Si g i)) := by
 intro i hi u s e
 have hB := Si_BI h hn i (by omega)
 have hd := hB.oi.dom e
 have hk : (⟨topN g.n (Si g i), u, s.1, s.2⟩ : Lk) ∈ (ofB g).ks := kept_in h hn hi ((kept_mem fun e => ⟨⟨(hB.oi.dom e).1.1, (hB.oi.dom e).1.2.1⟩, (hB.oi.dom e).2.1.1, (hB.oi.dom e).2.1.2.1⟩).2 (.inl ⟨rfl, e⟩))
 exact upE_link h hn hk (top_less h hn hi hd.2.1.2.2 hd.2.2.symm)
theorem hD_ok (h : GrOK g) (hn : g.n ≤ 28) : ∀ i, i < g.n → ∀ u s, (Si g i).o u (topN g.n (Si g i)) = some s → (s.1, u) ∈ dnE (ofB g).rk (lsB g) (topN g.n (Si g i)) := by
 intro i hi u s e
 have hB := Si_BI h hn i (by omega)
 have hd := hB.oi.dom e
 have hk : (⟨u, topN g.n (Si g i), s.1, s.2⟩ : Lk) ∈ (ofB g).ks := kept_in h hn hi ((kept_mem fun e => ⟨⟨(hB.oi.dom e).1.1, (hB.oi.dom e).1.2.1⟩, (hB.oi.dom e).2.1.1, (hB.oi.dom e).2.1.2.1⟩).2 (.inr ⟨rfl, e⟩))
 exact dnE_link h hn hk (top_less h hn hi hd.1.2.2 hd.2.2)
theorem up_wo (h : GrOK g) (hn : g.n ≤ 28) (u w v : Int) (hm : (w, v) ∈ upE (ofB g).rk (lsB g) u) : Wo (oP g g.hd.length) u v w := by
 obtain ⟨i, hi, e1, e2, e3, _⟩ := (upE_mem _ _ _ _ _).1 hm
 have := (fin_BI h hn).kw ((fin_mem _).1 (mem_gd hi))
 rw [e1, e2, e3] at this; exact this
theorem dn_wo (h : GrOK g) (hn : g.n ≤ 28) (u w v : Int) (hm : (w, v) ∈ dnE (ofB g).rk (lsB g) u) : Wo (oP g g.hd.length) v u w := by
 obtain ⟨i, hi, e1, e2, e3, _⟩ := (dnE_mem _ _ _ _ _).1 hm
 have := (fin_BI h hn).kw ((fin_mem _).1 (mem_gd hi))
 rw [e1, e2, e3] at this; exact this
theorem oP_gE (h : GrOK g) {a b : Int} {s : Int × Int} (hs : oP g g.hd.length a b = some s) : (s.1, b) ∈ gE g a := by
 obtain ⟨k, hk, ha, e⟩ := oP_at hs
 obtain ⟨v, e1, e2, e3, e4, e5, e6⟩ := arcB_iff.1 ha
 subst e1
 have := gE_at h e2 e3 e4
 rw [e5] at this
 rw [e]; exact this
theorem wo_wk (h : GrOK g) {a b c : Int} (hw : Wo (oP g g.hd.length) a b c) : Wk [(0, a)] (gE g) b c := by
 induction hw with
 | nil a => exact .start (List.mem_singleton.2 rfl)
 | cons e _ ih => exact wk_pre (oP_gE h e) ih
theorem wk_wo0 (h : GrOK g) {a b c : Int} (hw : Wk [(0, a)] (gE g) b c) : ∃ c', c' ≤ c ∧ Wo (oP g g.hd.length) a b c' := by
 induction hw with
 | start hm => rw [List.mem_singleton] at hm; cases hm; exact ⟨0, Int.le_refl _, .nil _⟩
 | @step u d w v _ hm ih =>
  obtain ⟨c', l, hw⟩ := ih
  have ok := gE_ok h hm
  by_cases e : u = v
  ·subst e; exact ⟨c', by omega, hw⟩
  ·obtain ⟨k, k1, k2, k3, k4, k5, k6⟩ := gE_mem.1 hm
   have : oP g g.hd.length u v = some (g.wt.getD k 0, -1) := oP_mem h k1 (by
    refine arcB_iff.2 ⟨u.toNat, by omega, by omega, ?_, ?_, k6.symm, e⟩
    ·exact k3
    ·have k4 : (k : Int) < g.st.getD (u + 1).toNat 0 := k4
     rw [show (u + 1).toNat = u.toNat + 1 by omega] at k4; exact k4)
   exact ⟨c' + w, by omega, hw.trans ((Wo.cons this (.nil v)).to (by rw [k5]; simp))⟩
end
end Go.Proofs.YtnkbkfjgbejhfaaGreat

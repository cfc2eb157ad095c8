/-
  The walks and plain laws, part 6.
-/
import Derived.Test.YtnkbkfjgbejhfaaBase5
import Derived.Test.YtnkbkfjgbejhfaaBase2
import Derived.Test.YtnkbkfjgbejhfaaBase1
import Derived.Test.YtnkbkfjgbejhfaaBase3
set_option linter.unusedSimpArgs false
set_option linter.unusedSectionVars false
set_option linter.unusedVariables false
set_option maxRecDepth 100000
set_option maxHeartbeats 4000000
namespace Go.Proofs.Ytnkbkfjgbejhfaa
open Go.Proofs.Ytnkbkfjgbejhfaa.Am Go.HeapL
variable [Inhabited DRT]
variable {G : GInv}
/-! ### What is built may be -/
section
variable {g : Gr}
theorem fin_BI (h : GrOK g) (hn : g.n ≤ 28) : BI g.n g.n 2147483648 (oP g g.hd.length) (ofB g) := itr_BI h hn g.n (Nat.le_refl _)
theorem fin_q (h : GrOK g) (hn : g.n ≤ 28) (v : Int) : hasL (ofB g).q v = false := by
 have hc := (fin_BI h hn).ct
 have : (ofB g).q = [] := List.eq_nil_of_length_eq_zero (by omega)
 rw [this]; rfl
theorem fin_W (hn : g.n ≤ 28) : (2147483648 : Int) * 2 ^ g.n ≤ 1152921504606846976 := by
 have h2 : (2 : Nat) ^ g.n ≤ 2 ^ 28 := Nat.pow_le_pow_right (by omega) (by omega)
 have e : ((2 ^ g.n : Nat) : Int) = (2 : Int) ^ g.n := by simp
 rw [← e]
 have e2 : (2 : Nat) ^ 28 = 268435456 := by decide
 omega
theorem fin_rl (h : GrOK g) (hn : g.n ≤ 28) : (ofB g).rk.length = g.n := (fin_BI h hn).rl
theorem fin_mem (x : Lk) : x ∈ lsB g ↔ x ∈ (ofB g).ks := (srt_facts cfK swo_K (ofB g).ks).1.mem_iff
theorem fin_len (h : GrOK g) (hn : g.n ≤ 28) : (lsB g).length ≤ g.n * g.n := by
 unfold lsB
 rw [srt_len cfK swo_K]; exact (fin_BI h hn).len
theorem fin_ok (h : GrOK g) (hn : g.n ≤ 28) {x : Lk} (hx : x ∈ lsB g) : okL g.n x := by
 have := (fin_BI h hn).kd ((fin_mem x).1 hx)
 have hw := fin_W hn
 exact ⟨this.1, this.2.1, this.2.2.1, this.2.2.2.2.1, by omega⟩
theorem mem_gd {l : List Lk} {i : Nat} (h : i < l.length) : l.getD i default ∈ l := by
 rw [List.getD_eq_getElem?_getD, List.getElem?_eq_getElem h]; exact List.getElem_mem h
theorem fin_sorted (h : GrOK g) (hn : g.n ≤ 28) : SortedP g.n (lsB g) := by
 intro k hk
 refine ⟨fin_ok h hn (mem_gd hk), fun h0 => ?_⟩
 have hB := fin_BI h hn
 obtain ⟨f1, f2⟩ := srt_facts cfK swo_K (ofB g).ks
 have hk' : k < (ofB g).ks.length := by rw [← srt_len cfK swo_K]; exact hk
 have h1 := f2 (k - 1) k (by omega) hk'
 have n1 : ¬ (((lsB g).getD k default).f < ((lsB g).getD (k - 1) default).f ∨ (((lsB g).getD k default).f = ((lsB g).getD (k - 1) default).f ∧ ((lsB g).getD k default).t < ((lsB g).getD (k - 1) default).t)) := fun h => by
  have h1' : ltOf cfK ((lsB g).getD k default) ((lsB g).getD (k - 1) default) = false := h1
  rw [cfK_lt.2 h] at h1'; cases h1'
 have hnd : ((lsB g).map fun x => (x.f, x.t)).Nodup := (f1.map _).nodup_iff.2 hB.nk
 rw [List.nodup_iff_pairwise_ne, List.pairwise_map, List.pairwise_iff_getElem] at hnd
 have hne := hnd (k - 1) k (by omega) hk (by omega)
 have e1 : (lsB g)[k - 1]'(by omega) = (lsB g).getD (k - 1) default := by rw [List.getD_eq_getElem?_getD, List.getElem?_eq_getElem (by omega)]; rfl
 have e2 : (lsB g)[k]'hk = (lsB g).getD k default := by rw [List.getD_eq_getElem?_getD, List.getElem?_eq_getElem hk]; rfl
 rw [e1, e2] at hne
 rw [ordI_neg]
 unfold lexLt
 have hne' : ¬ (((lsB g).getD (k - 1) default).f = ((lsB g).getD k default).f ∧ ((lsB g).getD (k - 1) default).t = ((lsB g).getD k default).t) := fun e => hne (by rw [e.1, e.2])
 omega
theorem fin_sortedR (h : GrOK g) (hn : g.n ≤ 28) : SortedP (ofB g).rk.length (lsB g) := by rw [fin_rl h hn]; exact fin_sorted h hn
theorem fin_ranks (h : GrOK g) (hn : g.n ≤ 28) : RanksP (ofB g).rk := by
 have hB := fin_BI h hn
 intro i hi
 rw [fin_rl h hn] at hi ⊢
 have q := fin_q h hn
 have := hB.rr (v := i) (by omega) (by omega) (q _)
 refine ⟨this, fun j hj e => ?_⟩
 have := hB.rd (u := j) (v := i) (by omega) (by omega) (q _) (by omega) (by omega) (q _) e
 omega
theorem pos_of_mem {n : Nat} {ls : List Lk} (hS : SortedP n ls) {x : Lk} (hx : x ∈ ls) : 0 ≤ posL ls x.f x.t ∧ ls.getD (posL ls x.f x.t).toNat default = x := by
 obtain ⟨i, hi, rfl⟩ := mem_at'.1 hx
 rw [uniqL hS hi]
 exact ⟨by omega, by rw [Int.toNat_natCast]⟩
theorem fin_join (h : GrOK g) (hn : g.n ≤ 28) {x : Lk} (hx : x ∈ lsB g) (hm : x.m ≠ -1) : JoinP (ofB g).rk (lsB g) x := by
 have hS := fin_sorted h hn
 have q := fin_q h hn
 obtain ⟨m1, ⟨y, z, y1, z1, e1, e2, e3, e4, e5⟩, _, r1, r2⟩ := (fin_BI h hn).km ((fin_mem x).1 hx) hm
 have hy := pos_of_mem hS ((fin_mem y).2 y1)
 have hz := pos_of_mem hS ((fin_mem z).2 z1)
 rw [e1, e2] at hy; rw [e3, e4] at hz
 refine ⟨by rw [fin_rl h hn]; exact m1, r1 (q _), r2 (q _), hy.1, hz.1, ?_⟩
 rw [hy.2, hz.2]; exact e5
theorem fin_may (h : GrOK g) (hn : g.n ≤ 28) : MayP (ofB g).rk (lsB g) := by
 have hl := fin_len h hn
 have : g.n * g.n ≤ 28 * 28 := Nat.mul_le_mul hn hn
 refine ⟨by rw [fin_rl h hn]; omega, by omega, fin_ranks h hn, fin_sortedR h hn, fun i hi => ?_⟩
 by_cases e : ((lsB g).getD i default).m = -1
 ·exact .inl e
 ·exact .inr (fin_join h hn (mem_gd hi) e)
theorem fin_arc (h : GrOK g) (hn : g.n ≤ 28) {x : Lk} (hx : x ∈ lsB g) (hm : x.m = -1) : oP g g.hd.length x.f x.t = some (x.w, -1) := (fin_BI h hn).ka ((fin_mem x).1 hx) hm
end
/-! The weight of an arc. -/
/-- The first of some arcs that leads there. -/
def arcF (g : Gr) (w : Int) (k : Int) : Nat → Int
 | 0 => -1
 | f + 1 => if g.hd.getD k.toNat 0 = w then g.wt.getD k.toNat 0 else arcF g w (k + 1) f
def arcW (g : Gr) (v w : Int) : Int := if 0 ≤ v ∧ v < g.n then arcF g w (stI g v) (stI g (v + 1) - stI g v).toNat else -1
theorem arcF_at {g : Gr} {w : Int} : ∀ (f : Nat) (k : Int), 0 ≤ k → (∃ j : Nat, k ≤ j ∧ (j : Int) < k + f ∧ g.hd.getD j 0 = w ∧ (∀ i : Nat, k ≤ i → i < j → g.hd.getD i 0 ≠ w) ∧ arcF g w k f = g.wt.getD j 0) ∨ ((∀ j : Nat, k ≤ j → (j : Int) < k + f → g.hd.getD j 0 ≠ w) ∧ arcF g w k f = -1)
 | 0, k, h0 => .inr ⟨fun j a b => by omega, rfl⟩
 | f + 1, k, h0 => by
  unfold arcF
  by_cases e : g.hd.getD k.toNat 0 = w
  ·rw [if_pos e]
   exact .inl ⟨k.toNat, by omega, by omega, e, fun i a b => by omega, rfl⟩
  ·rw [if_neg e]
   rcases arcF_at f (k + 1) (by omega) with ⟨j, a, b, c, d, e'⟩ | ⟨a, b⟩
   ·refine .inl ⟨j, by omega, by omega, c, fun i i1 i2 => ?_, e'⟩
    by_cases h : (i : Int) = k
    ·subst h; exact e
    ·exact d i (by omega) i2
   ·refine .inr ⟨fun j j1 j2 => ?_, b⟩
    by_cases h : (j : Int) = k
    ·subst h; exact e
    ·exact a j (by omega) (by omega)
theorem arcW_of {g : Gr} (h : GrOK g) {a b : Int} {s : Int × Int} (hs : oP g g.hd.length a b = some s) : arcW g a b = s.1 := by
 obtain ⟨k, hk, ha, e⟩ := oP_at hs
 obtain ⟨v, e1, e2, e3, e4, e5, e6⟩ := arcB_iff.1 ha
 subst e1
 have hnn := h.nn (v := v) (by omega)
 have s1 : stI g v = g.st.getD v 0 := rfl
 have s2 : stI g ((v : Int) + 1) = g.st.getD (v + 1) 0 := rfl
 unfold arcW
 rw [if_pos ⟨by omega, by omega⟩, e]
 rcases arcF_at (g := g) (w := b) (stI g (v + 1) - stI g v).toNat (stI g v) (by omega) with ⟨j, a1, a2, a3, a4, a5⟩ | ⟨a1, a2⟩
 ·rw [a5]
  have : j = k := by
   rcases Nat.lt_trichotomy j k with l | l | l
   ·have := h.rise e2 (k := j) (k - j - 1) (by omega) (by omega)
    rw [show j + (k - j - 1 + 1) = k by omega] at this; omega
   ·exact l
   ·have := h.rise e2 (k := k) (j - k - 1) (by omega) (by omega)
    rw [show k + (j - k - 1 + 1) = j by omega] at this; omega
  rw [this]
 ·exact absurd e5 (a1 k (by omega) (by omega))
theorem arc_c (g : Gr) (hg : GMay g) (v w : Int) : ACalls Try.prog G 25 [gA g, .int .i64 v, .int .i64 w] (.int .i64 (arcW g v w)) := by
 have hs := rsize19_c (G := G) g (by have := hg.1.2.1; omega)
 have hn : (g.st.length : Int) - 1 = g.n := by show _ = ((g.st.length - 1 : Nat) : Int); have := hg.1.1; omega
 have hok := hg.ok
 have hwl := hok.wl
 have hhl : g.hd.length ≤ 200000 := hg.1.2.2.2.2.1
 have hnl : g.n ≤ 4000 := by have := hg.1.2.1; show g.st.length - 1 ≤ 4000; omega
 rw [hn] at hs
 refine ACalls.of_WA ttok Try.func25 rfl rfl _ rfl ?_
 conv => whnf
 repeat' (first | refine sq ?_ | refine bk ?_ | ((first | refine rg ttok ?_ | refine dw ttok mixed ?_ | refine cd ?_ | refine sk ?_ | refine xt ?_ | refine rt ?_); conv => whnf) | (refine And.intro (fun h => ?_) (fun h => ?_) <;> (try simp only [brsA] at h) <;> conv => whnf) | (refine Or.inl ?_; (conv => whnf); refine ⟨_, hs, ?_⟩; conv => whnf) | ((first | refine wf ?_ | refine wp' ?_ | refine ai ?_ | refine And.intro rfl ?_ | refine an ?_ | fail); conv => whnf))
 ·unfold arcW; rw [if_neg (by omega)]
 ·have hv : v.toNat < g.n := by omega
  have ev : v = (v.toNat : Int) := by omega
  have hf := head_facts ⟨hg.1, hg.2.1⟩ (v := v.toNat) (by omega)
  rw [← ev] at hf
  refine WA_loopI (ι := Int) (fun i => stI g v ≤ i ∧ i ≤ stI g (v + 1) ∧ arcF g w i (stI g (v + 1) - i).toNat = arcW g v w) (fun i => [(7, .int .i64 i)]) (fun _ => [.box 24 [intsA g.st, intsA g.hd, intsA g.wt]]) (fun i => (stI g (v + 1) - i).toNat) (stI g v) ⟨Int.le_refl _, hf.2.1, by unfold arcW; rw [if_pos (by omega)]⟩ ?_ ?_
  ·conv => whnf
   repeat (first | exact fa | ((first | refine fb ?_ | (refine And.intro ?_ ?_; rotate_left)); conv => whnf))
  ·rintro i ⟨i1, i2, i3⟩
   have i1 : stI g v ≤ i := i1
   have i2 : i ≤ stI g (v + 1) := i2
   conv => whnf
   repeat' (first | refine sq ?_ | refine bk ?_ | ((first | refine rg ttok ?_ | refine dw ttok mixed ?_ | refine cd ?_ | refine sk ?_ | refine xt ?_ | refine rt ?_); conv => whnf) | (refine And.intro (fun h => ?_) (fun h => ?_) <;> (try simp only [brsA] at h) <;> conv => whnf) | ((first | refine wf ?_ | refine wp' ?_ | refine ai ?_ | refine And.intro rfl ?_ | refine an ?_ | fail); conv => whnf))
   ·have hi : i < stI g (v + 1) := by assumption
    obtain ⟨f, hf'⟩ : ∃ f, (stI g (v + 1) - i).toNat = f + 1 := ⟨(stI g (v + 1) - i).toNat - 1, by omega⟩
    rw [← i3, hf', arcF, if_pos h]
   ·have hi : i < stI g (v + 1) := by assumption
    refine ⟨i + 1, ⟨by omega, by omega, ?_⟩, (by show (stI g (v + 1) - (i + 1)).toNat < (stI g (v + 1) - i).toNat; omega), ?_⟩
    ·rw [← i3, show (stI g (v + 1) - i).toNat = (stI g (v + 1) - (i + 1)).toNat + 1 by omega, arcF, if_neg h]
    ·conv => whnf
     repeat (first | exact fa | ((first | refine fb ?_ | (refine And.intro ?_ ?_; rotate_left)); conv => whnf))
   ·have hi : ¬ i < stI g (v + 1) := h
    rw [← i3, show (stI g (v + 1) - i).toNat = 0 by omega]; rfl
 ·unfold arcW; rw [if_neg (by omega)]
end Go.Proofs.Ytnkbkfjgbejhfaa
namespace Go.Proofs.Ytnkbkfjgbejhfaa
open Go.Proofs.Ytnkbkfjgbejhfaa.Am Go.HeapL
variable [Inhabited DRT]
variable {G : GInv}
/-- How many of the first links go over a vertex. -/
def shN (ls : List Lk) : Nat → Int
 | 0 => 0
 | i + 1 => if (ls.getD i default).m = -1 then shN ls i else shN ls i + 1
theorem shN_le (ls : List Lk) : ∀ i, 0 ≤ shN ls i ∧ shN ls i ≤ i
 | 0 => ⟨Int.le_refl _, Int.le_refl _⟩
 | i + 1 => by
  have := shN_le ls i
  unfold shN
  split <;> omega
theorem stat_c (rk : List Int) (ls : List Lk) (hl : ls.length ≤ 1000000) : ACalls Try.prog G 17 [.agg [intsA rk, lksA ls]] (.tup [.int .i64 (ls.length : Int), .int .i64 (shN ls ls.length)]) := by
 refine ACalls.of_WA ttok Try.func17 rfl rfl _ rfl ?_
 conv => whnf
 repeat' (first | refine sq ?_ | refine bk ?_ | ((first | refine rg ttok ?_ | refine dw ttok mixed ?_ | refine cd ?_ | refine sk ?_ | refine xt ?_ | refine rt ?_); conv => whnf) | (refine And.intro (fun h => ?_) (fun h => ?_) <;> (try simp only [brsA] at h) <;> conv => whnf) | ((first | refine wf ?_ | refine wp' ?_ | refine ai ?_ | refine And.intro rfl ?_ | refine an ?_ | fail); conv => whnf))
 refine WA_loopI (fun i : Nat => i ≤ ls.length) (fun i => [(3, .int .i64 (shN ls i)), (9, .int .i64 (i : Int))]) (fun _ => [.box 29 [intsA rk, lksA ls]]) (fun i => ls.length - i) 0 (Nat.zero_le _) ?_ ?_
 ·conv => whnf
  repeat (first | exact fa | ((first | refine fb ?_ | (refine And.intro ?_ ?_; rotate_left)); conv => whnf))
 ·intro i hi
  have hi : i ≤ ls.length := hi
  have hs := shN_le ls i
  conv => whnf
  repeat' (first | refine sq ?_ | refine bk ?_ | ((first | refine rg ttok ?_ | refine dw ttok mixed ?_ | refine cd ?_ | refine sk ?_ | refine xt ?_ | refine rt ?_); conv => whnf) | (refine And.intro (fun h => ?_) (fun h => ?_) <;> (try simp only [brsA] at h) <;> conv => whnf) | ((first | refine wf ?_ | refine wp' ?_ | refine ai ?_ | refine And.intro rfl ?_ | refine an ?_ | fail); conv => whnf))
  ·refine ⟨i + 1, (by show i + 1 ≤ ls.length; omega), (by show ls.length - (i + 1) < ls.length - i; omega), ?_⟩
   have e : shN ls (i + 1) = shN ls i + 1 := if_neg (by assumption)
   conv => whnf
   repeat (first | exact fa | ((first | refine fb ?_ | (refine And.intro ?_ ?_; rotate_left)); conv => whnf))
   exact e.symm
  ·refine ⟨i + 1, (by show i + 1 ≤ ls.length; omega), (by show ls.length - (i + 1) < ls.length - i; omega), ?_⟩
   have e : shN ls (i + 1) = shN ls i := if_pos (by assumption)
   conv => whnf
   repeat (first | exact fa | ((first | refine fb ?_ | (refine And.intro ?_ ?_; rotate_left)); conv => whnf))
   exact e.symm
  ·have e : i = ls.length := by omega
   subst e
   repeat (first | exact fa | ((first | refine fb ?_ | (refine And.intro ?_ ?_; rotate_left)); conv => whnf))
end Go.Proofs.Ytnkbkfjgbejhfaa
namespace Go.Proofs.Ytnkbkfjgbejhfaa
open Go.Proofs.Ytnkbkfjgbejhfaa.Am Go.HeapL
variable [Inhabited DRT]
variable {G : GInv}
/-! ### The document's search -/
/-- A vertex's arcs. -/
def gE (g : Gr) (u : Int) : List It := (List.range g.hd.length).filterMap fun (k : Nat) => if (0 ≤ u ∧ u < g.n) ∧ g.s u ≤ k ∧ (k : Int) < g.s (u + 1) then some (g.wt.getD k 0, g.hd.getD k 0) else none
theorem gE_mem {g : Gr} {u w x : Int} : (w, x) ∈ gE g u ↔ ∃ k : Nat, k < g.hd.length ∧ (0 ≤ u ∧ u < g.n) ∧ g.s u ≤ k ∧ (k : Int) < g.s (u + 1) ∧ w = g.wt.getD k 0 ∧ x = g.hd.getD k 0 := by
 unfold gE
 rw [List.mem_filterMap]
 constructor
 ·rintro ⟨k, hk, e⟩
  split at e
  ·rename_i h
   simp only [Option.some.injEq, Prod.mk.injEq] at e
   exact ⟨k, List.mem_range.1 hk, h.1, h.2.1, h.2.2, e.1.symm, e.2.symm⟩
  ·cases e
 ·rintro ⟨k, hk, h1, h2, h3, rfl, rfl⟩
  exact ⟨k, List.mem_range.2 hk, by rw [if_pos ⟨h1, h2, h3⟩]⟩
theorem gE_ok {g : Gr} (h : GrOK g) {u w x : Int} (hm : (w, x) ∈ gE g u) : (0 ≤ u ∧ u < g.n) ∧ (0 ≤ x ∧ x < g.n) ∧ 0 ≤ w := by
 obtain ⟨k, hk, h1, h2, h3, rfl, rfl⟩ := gE_mem.1 hm
 have e1 : g.s u = g.st.getD u.toNat 0 := rfl
 have e2 : g.s (u + 1) = g.st.getD (u.toNat + 1) 0 := by unfold Gr.s; rw [show (u + 1).toNat = u.toNat + 1 by omega]
 have := h.arc u.toNat (by omega) k (by omega) (by omega)
 exact ⟨h1, this.1, this.2.1.1⟩
theorem gE_at {g : Gr} (h : GrOK g) {v k : Nat} (hv : v < g.n) (k1 : g.st.getD v 0 ≤ k) (k2 : (k : Int) < g.st.getD (v + 1) 0) : (g.wt.getD k 0, g.hd.getD k 0) ∈ gE g v := by
 have := h.nn (v := v + 1) (by omega)
 exact gE_mem.2 ⟨k, by omega, ⟨by omega, by omega⟩, k1, k2, rfl, rfl⟩
end Go.Proofs.Ytnkbkfjgbejhfaa
namespace Go.Proofs.Ytnkbkfjgbejhfaa
open Go.Proofs.Ytnkbkfjgbejhfaa.Am Go.HeapL
variable [Inhabited DRT]
variable {G : GInv}
/-! ### The theorem of hierarchies -/
section
variable {g : Gr}
theorem upE_link (h : GrOK g) (hn : g.n ≤ 28) {x : Lk} (hx : x ∈ (ofB g).ks) (hr : rkI (ofB g).rk x.f < rkI (ofB g).rk x.t) : (x.w, x.t) ∈ upE (ofB g).rk (lsB g) x.f := by
 obtain ⟨i, hi, e⟩ := mem_at'.1 ((fin_mem x).2 hx)
 exact (upE_mem _ _ _ _ _).2 ⟨i, hi, by rw [e], by rw [e], by rw [e], by rw [e]; exact hr⟩
theorem dnE_link (h : GrOK g) (hn : g.n ≤ 28) {x : Lk} (hx : x ∈ (ofB g).ks) (hr : rkI (ofB g).rk x.t < rkI (ofB g).rk x.f) : (x.w, x.f) ∈ dnE (ofB g).rk (lsB g) x.t := by
 obtain ⟨i, hi, e⟩ := mem_at'.1 ((fin_mem x).2 hx)
 exact (dnE_mem _ _ _ _ _).2 ⟨i, hi, by rw [e], by rw [e], by rw [e], by rw [e]; exact hr⟩
theorem top_less (h : GrOK g) (hn : g.n ≤ 28) {i : Nat} (hi : i < g.n) {u : Int} (hu : hasL (Si g i).q u = true) (ne : u ≠ topN g.n (Si g i)) : rkI (ofB g).rk (topN g.n (Si g i)) < rkI (ofB g).rk u := by
 have hB := Si_BI h hn i (by omega)
 have h1 := rk_top h hn hi
 have h2 := rk_live h hn (g.n - (i + 1)) (i + 1) (by omega) u ((hB.live hi u).2 ⟨ne, hu⟩)
 show (ofB g).rk.getD (topN g.n (Si g i)).toNat 0 < (ofB g).rk.getD u.toNat 0
 rw [h1]
 omega
theorem hU_ok (h : GrOK g) (hn : g.n ≤ 28) : ∀ i, i < g.n → ∀ u s, (Si g i).o (topN g.n (Si g i)) u = some s → (s.1, u) ∈ upE (ofB g).rk (lsB g) (topN g.n (Si g i)) := by
 intro i hi u s e
 have hB := Si_BI h hn i (by omega)
 have hd := hB.oi.dom e
 have hk : (⟨topN g.n (Si g i), u, s.1, s.2⟩ : Lk) ∈ (ofB g).ks := kept_in h hn hi ((kept_mem fun e => ⟨⟨(hB.oi.dom e).1.1, (hB.oi.dom e).1.2.1⟩, (hB.oi.dom e).2.1.1, (hB.oi.dom e).2.1.2.1⟩).2 (.inl ⟨rfl, e⟩))
 exact upE_link h hn hk (top_less h hn hi hd.2.1.2.2 hd.2.2.symm)
theorem hD_ok (h : GrOK g) (hn : g.n ≤ 28) : ∀ i, i < g.n → ∀ u s, (Si g i).o u (topN g.n (Si g i)) = some s → (s.1, u) ∈ dnE (ofB g).rk (lsB g) (topN g.n (Si g i)) := by
 intro i hi u s e
 have hB := Si_BI h hn i (by omega)
 have hd := hB.oi.dom e
 have hk : (⟨u, topN g.n (Si g i), s.1, s.2⟩ : Lk) ∈ (ofB g).ks := kept_in h hn hi ((kept_mem fun e => ⟨⟨(hB.oi.dom e).1.1, (hB.oi.dom e).1.2.1⟩, (hB.oi.dom e).2.1.1, (hB.oi.dom e).2.1.2.1⟩).2 (.inr ⟨rfl, e⟩))
 exact dnE_link h hn hk (top_less h hn hi hd.1.2.2 hd.2.2)
theorem up_wo (h : GrOK g) (hn : g.n ≤ 28) (u w v : Int) (hm : (w, v) ∈ upE (ofB g).rk (lsB g) u) : Wo (oP g g.hd.length) u v w := by
 obtain ⟨i, hi, e1, e2, e3, _⟩ := (upE_mem _ _ _ _ _).1 hm
 have := (fin_BI h hn).kw ((fin_mem _).1 (mem_gd hi))
 rw [e1, e2, e3] at this; exact this
theorem dn_wo (h : GrOK g) (hn : g.n ≤ 28) (u w v : Int) (hm : (w, v) ∈ dnE (ofB g).rk (lsB g) u) : Wo (oP g g.hd.length) v u w := by
 obtain ⟨i, hi, e1, e2, e3, _⟩ := (dnE_mem _ _ _ _ _).1 hm
 have := (fin_BI h hn).kw ((fin_mem _).1 (mem_gd hi))
 rw [e1, e2, e3] at this; exact this
theorem oP_gE (h : GrOK g) {a b : Int} {s : Int × Int} (hs : oP g g.hd.length a b = some s) : (s.1, b) ∈ gE g a := by
 obtain ⟨k, hk, ha, e⟩ := oP_at hs
 obtain ⟨v, e1, e2, e3, e4, e5, e6⟩ := arcB_iff.1 ha
 subst e1
 have := gE_at h e2 e3 e4
 rw [e5] at this
 rw [e]; exact this
theorem wo_wk (h : GrOK g) {a b c : Int} (hw : Wo (oP g g.hd.length) a b c) : Wk [(0, a)] (gE g) b c := by
 induction hw with
 | nil a => exact .start (List.mem_singleton.2 rfl)
 | cons e _ ih => exact wk_pre (oP_gE h e) ih
theorem wk_wo0 (h : GrOK g) {a b c : Int} (hw : Wk [(0, a)] (gE g) b c) : ∃ c', c' ≤ c ∧ Wo (oP g g.hd.length) a b c' := by
 induction hw with
 | start hm => rw [List.mem_singleton] at hm; cases hm; exact ⟨0, Int.le_refl _, .nil _⟩
 | @step u d w v _ hm ih =>
  obtain ⟨c', l, hw⟩ := ih
  have ok := gE_ok h hm
  by_cases e : u = v
  ·subst e; exact ⟨c', by omega, hw⟩
  ·obtain ⟨k, k1, k2, k3, k4, k5, k6⟩ := gE_mem.1 hm
   have : oP g g.hd.length u v = some (g.wt.getD k 0, -1) := oP_mem h k1 (by
    refine arcB_iff.2 ⟨u.toNat, by omega, by omega, ?_, ?_, k6.symm, e⟩
    ·exact k3
    ·have k4 : (k : Int) < g.st.getD (u + 1).toNat 0 := k4
     rw [show (u + 1).toNat = u.toNat + 1 by omega] at k4; exact k4)
   exact ⟨c' + w, by omega, hw.trans ((Wo.cons this (.nil v)).to (by rw [k5]; simp))⟩
theorem gE_nn (h : GrOK g) {a b c : Int} (hw : Wk [(0, a)] (gE g) b c) : 0 ≤ c := by
 induction hw with
 | start hm => rw [List.mem_singleton] at hm; cases hm; exact Int.le_refl _
 | step _ hm ih => have := (gE_ok h hm).2.2; omega
theorem keeps_min (h : GrOK g) (hn : g.n ≤ 28) {a b : Int} (ha : 0 ≤ a ∧ a < g.n) (hb : 0 ≤ b ∧ b < g.n) :
  minV (two [(0, a)] [(0, b)] (upE (ofB g).rk (lsB g)) (dnE (ofB g).rk (lsB g))) = minV (Wk [(0, a)] (gE g) b) := by
 have hS := fin_sortedR h hn
 have hrl := fin_rl h hn
 refine minV_dom ?_ (fun d hd => gE_nn h hd) ?_ ?_
 ·rintro d ⟨v, ka, kz, h1, h2, rfl⟩
  have := (wk_ok (dat_up hS (itp_one (by omega))) h1).2.2
  have := (wk_ok (dat_dn hS (itp_one (by omega))) h2).2.2
  omega
 ·rintro d ⟨v, ka, kz, h1, h2, rfl⟩
  exact ⟨ka + kz, Int.le_refl _, wo_wk h ((wk_wo (up_wo h hn) h1).trans (wk_wo' (dn_wo h hn) h2))⟩
 ·intro d hd
  obtain ⟨c, l, hw⟩ := wk_wo0 h hd
  have hq := (q0_ok g.n (oP g g.hd.length) g.n).2.2.1
  obtain ⟨c', l', h2⟩ := keeps_down h hn (hU_ok h hn) (hD_ok h hn) g.n 0 (by omega) a b c ((hq a).2 ha) ((hq b).2 hb) hw
  exact ⟨c', by omega, h2⟩
theorem least_b (h : GrOK g) (hn : g.n ≤ 28) {a b : Int} (ha : 0 ≤ a ∧ a < g.n) (hb : 0 ≤ b ∧ b < g.n) :
  ACalls Try.prog G 14 [.agg [intsA (ofB g).rk, lksA (lsB g)], .int .i64 a, .int .i64 b] (.int .i64 (minV (Wk [(0, a)] (gE g) b))) := by
 have hS := fin_sortedR h hn
 have hrl := fin_rl h hn
 have hl := fin_len h hn
 have h28 : g.n * g.n ≤ 28 * 28 := Nat.mul_le_mul hn hn
 have hR := fin_ranks h hn
 have u0 := up0_c (G := G) (ofB g).rk (lsB g) a (by omega) (by omega) hR hS
 have u1 := up1_c (G := G) (ofB g).rk (lsB g) b (by omega) (by omega) hR hS
 have := least24_c (G := G) (ofB g).rk (lsB g) a b (by omega) (by omega) hR hS (by omega) (by omega) (by simp only [wU_eq] at u0; exact u0) (by simp only [wD_eq] at u1; exact u1)
 rw [keeps_min h hn ha hb] at this
 exact this
end
end Go.Proofs.Ytnkbkfjgbejhfaa
namespace Go.Proofs.Ytnkbkfjgbejhfaa
open Go.Proofs.Ytnkbkfjgbejhfaa.Am Go.HeapL
variable [Inhabited DRT]
variable {G : GInv}
theorem small_c (g : Gr) : ACalls Try.prog G 7 [gA g] (.sb (decide (g.st.length ≤ 40 ∧ g.hd.length ≤ 300 ∧ g.wt.length ≤ 300))) := by
 refine ACalls.of_WA ttok Try.func7 rfl rfl _ rfl ?_
 conv => whnf
 repeat' (first | refine sq ?_ | refine bk ?_ | ((first | refine rg ttok ?_ | refine dw ttok mixed ?_ | refine cd ?_ | refine sk ?_ | refine xt ?_ | refine rt ?_); conv => whnf) | (refine And.intro (fun h => ?_) (fun h => ?_) <;> (try simp only [brsA] at h) <;> conv => whnf) | ((first | refine wf ?_ | refine wp' ?_ | refine ai ?_ | refine And.intro rfl ?_ | refine an ?_ | fail); conv => whnf))
 all_goals (first | (refine (decide_eq_false ?_).symm; omega) | (refine decide_eq_decide.2 ?_; omega))
theorem sound_g (g : Gr) (n N : Nat) (f t w m rk : Nat → Int) (pos aw : Int → Int → Int) (hn : n ≤ 4000) (hN : N ≤ 1000000)
  (hs : ACalls Try.prog G 11 [gA g] (.int .i64 (n : Int)))
  (hrr : ACalls Try.prog G 34 [.sl n 1 fun k => [.int .i64 (rk k)]] (.sb true))
  (har : ∀ a b, ACalls Try.prog G 25 [gA g, .int .i64 a, .int .i64 b] (.int .i64 (aw a b)))
  (hli : ∀ a b, ACalls Try.prog G 24 [.sl N 4 fun k => [.int .i64 (f k), .int .i64 (t k), .int .i64 (w k), .int .i64 (m k)], .int .i64 a, .int .i64 b] (.int .i64 (pos a b)))
  (hok : ∀ i, i < N → (0 ≤ f i ∧ f i < n) ∧ (0 ≤ t i ∧ t i < n) ∧ f i ≠ t i)
  (hlex : ∀ i, 0 < i → i < N → f (i - 1) < f i ∨ (f (i - 1) = f i ∧ t (i - 1) < t i))
  (hm1 : ∀ i, i < N → m i = -1 → aw (f i) (t i) = w i)
  (hm2 : ∀ i, i < N → m i ≠ -1 → (0 ≤ m i ∧ m i < n) ∧ rk (m i).toNat < rk (f i).toNat ∧ rk (m i).toNat < rk (t i).toNat ∧ (0 ≤ pos (f i) (m i) ∧ pos (f i) (m i) < N) ∧ (0 ≤ pos (m i) (t i) ∧ pos (m i) (t i) < N) ∧ (0 ≤ w (pos (f i) (m i)).toNat ∧ w (pos (f i) (m i)).toNat ≤ 1152921504606846976) ∧ (0 ≤ w (pos (m i) (t i)).toNat ∧ w (pos (m i) (t i)).toNat ≤ 1152921504606846976) ∧ w (pos (f i) (m i)).toNat + w (pos (m i) (t i)).toNat = w i) :
  ACalls Try.prog G 12 [gA g, .agg [.sl n 1 fun k => [.int .i64 (rk k)], .sl N 4 fun k => [.int .i64 (f k), .int .i64 (t k), .int .i64 (w k), .int .i64 (m k)]]] (.bool true) := by
 refine ACalls.of_WA ttok Try.func12 rfl rfl _ rfl ?_
 conv => whnf
 repeat' (first | refine sq ?_ | refine bk ?_ | ((first | refine rg ttok ?_ | refine dw ttok mixed ?_ | refine cd ?_ | refine sk ?_ | refine xt ?_ | refine rt ?_); conv => whnf) | (refine And.intro (fun h => ?_) (fun h => ?_) <;> (try simp only [brsA] at h) <;> conv => whnf) | (refine Or.inl ?_; (conv => whnf); (first | refine ⟨_, hs, ?_⟩ | refine ⟨_, hrr, ?_⟩); conv => whnf) | ((first | refine wf ?_ | refine wp' ?_ | refine ai ?_ | refine And.intro rfl ?_ | refine an ?_ | fail); conv => whnf))
 all_goals try (exfalso; first | omega | cases ‹true = false› | (exact absurd trivial ‹¬ True›))
 refine WA_loopI (fun i : Nat => i ≤ N) (fun i => [(6, .int .i64 (i : Int))]) (fun _ => [.box 24 [intsA g.st, intsA g.hd, intsA g.wt], .box 29 [.sl n 1 fun k => [.int .i64 (rk k)], .sl N 4 fun k => [.int .i64 (f k), .int .i64 (t k), .int .i64 (w k), .int .i64 (m k)]]]) (fun i => N - i) 0 (Nat.zero_le _) ?_ ?_
 ·conv => whnf
  repeat (first | exact fa | ((first | refine fb ?_ | (refine And.intro ?_ ?_; rotate_left)); conv => whnf))
 ·intro i hi
  have hi : i ≤ N := hi
  by_cases hlt : i < N
  ·obtain ⟨⟨f1, f2⟩, ⟨t1, t2⟩, hne⟩ := hok (i : Int).toNat hlt
   have hlex : 0 < (i : Int) → f ((i : Int) - 1).toNat < f (i : Int).toNat ∨ (f ((i : Int) - 1).toNat = f (i : Int).toNat ∧ t ((i : Int) - 1).toNat < t (i : Int).toNat) := fun h0 => by rw [show ((i : Int) - 1).toNat = i - 1 by omega]; exact hlex i (by omega) hlt
   clear hok
   by_cases hm : m (i : Int).toNat = -1
   ·have hm1 := hm1 (i : Int).toNat hlt hm
    clear hm2
    conv => whnf
    repeat' (first | refine sq ?_ | refine bk ?_ | ((first | refine rg ttok ?_ | refine dw ttok mixed ?_ | refine cd ?_ | refine sk ?_ | refine xt ?_ | refine rt ?_); conv => whnf) | (refine And.intro (fun h => ?_) (fun h => ?_) <;> (try simp only [brsA] at h) <;> first | (exfalso; omega) | (conv => whnf)) | (refine Or.inl ?_; (conv => whnf); refine ⟨_, har _ _, ?_⟩; conv => whnf) | ((first | refine wf ?_ | refine wp' ?_ | refine ai ?_ | refine And.intro rfl ?_ | refine an ?_ | fail); conv => whnf))
    all_goals refine ⟨i + 1, (by show i + 1 ≤ N; omega), (by show N - (i + 1) < N - i; omega), ?_⟩
    all_goals
     conv => whnf
     repeat (first | exact fa | ((first | refine fb ?_ | (refine And.intro ?_ ?_; rotate_left)); conv => whnf))
   ·obtain ⟨⟨m1, m2⟩, r1, r2, ⟨q1, q2⟩, ⟨q3, q4⟩, ⟨q5, q6⟩, ⟨q7, q8⟩, q9⟩ := hm2 (i : Int).toNat hlt hm
    clear hm1 hm2
    conv => whnf
    repeat' (first | refine sq ?_ | refine bk ?_ | ((first | refine rg ttok ?_ | refine dw ttok mixed ?_ | refine cd ?_ | refine sk ?_ | refine xt ?_ | refine rt ?_); conv => whnf) | (refine And.intro (fun h => ?_) (fun h => ?_) <;> (try simp only [brsA] at h) <;> first | (exfalso; omega) | (conv => whnf)) | (refine Or.inl ?_; (conv => whnf); refine ⟨_, hli _ _, ?_⟩; conv => whnf) | ((first | refine wf ?_ | refine wp' ?_ | refine ai ?_ | refine And.intro rfl ?_ | refine an ?_ | fail); conv => whnf))
    all_goals refine ⟨i + 1, (by show i + 1 ≤ N; omega), (by show N - (i + 1) < N - i; omega), ?_⟩
    all_goals
     conv => whnf
     repeat (first | exact fa | ((first | refine fb ?_ | (refine And.intro ?_ ?_; rotate_left)); conv => whnf))
  ·obtain rfl : i = N := by omega
   clear hok hlex hm1 hm2 hi hlt
   conv => whnf
   repeat' (first | ((exact absurd h (Int.lt_irrefl _))) | refine sq ?_ | refine bk ?_ | ((first | refine rg ttok ?_ | refine dw ttok mixed ?_ | refine cd ?_ | refine sk ?_ | refine xt ?_ | refine rt ?_); conv => whnf) | (refine And.intro (fun h => ?_) (fun h => ?_) <;> (try simp only [brsA] at h) <;> conv => whnf) | ((first | refine wf ?_ | refine wp' ?_ | refine ai ?_ | refine And.intro rfl ?_ | refine an ?_ | fail); conv => whnf))
theorem sound_c (g : Gr) (hg : GMay g) (hn : g.n ≤ 28) : ACalls Try.prog G 12 [gA g, .agg [intsA (ofB g).rk, lksA (lsB g)]] (.bool true) := by
 have hok := hg.ok
 have hs := rsize19_c (G := G) g (by have := hg.1.2.1; omega)
 have hn' : (g.st.length : Int) - 1 = g.n := by show _ = ((g.st.length - 1 : Nat) : Int); have := hg.1.1; omega
 rw [hn'] at hs
 have hS := fin_sorted hok hn
 have hR := fin_ranks hok hn
 have hrl := fin_rl hok hn
 have hl := fin_len hok hn
 have h28 : g.n * g.n ≤ 28 * 28 := Nat.mul_le_mul hn hn
 have hrr := refRanks_c (G := G) (ofB g).rk (by omega)
 rw [decide_eq_true hR] at hrr
 have key := sound_g (G := G) g g.n (lsB g).length (fun k => ((lsB g).getD k default).f) (fun k => ((lsB g).getD k default).t) (fun k => ((lsB g).getD k default).w) (fun k => ((lsB g).getD k default).m) (fun k => (ofB g).rk.getD k 0) (fun a b => posL (lsB g) a b) (fun a b => arcW g a b) (by omega) (by omega) hs
  (by rw [← hrl]; exact hrr) (fun a b => arc_c g hg a b) (fun a b => refLink_p (lsB g) a b (by omega))
  (fun i hi => ⟨(hS i hi).1.1, (hS i hi).1.2.1, (hS i hi).1.2.2.1⟩) (fun i h0 hi => (ordI_neg _ _ _).1 ((hS i hi).2 h0))
  (fun i hi hm => arcW_of hok (fin_arc hok hn (mem_gd hi) hm))
  (fun i hi hm => by
   obtain ⟨j1, j2, j3, j4, j5, j6⟩ := fin_join hok hn (mem_gd hi) hm
   rw [hrl] at j1
   have p1 := posL_in hS _ _ j4
   have p2 := posL_in hS _ _ j5
   exact ⟨j1, j2, j3, ⟨j4, p1.1⟩, ⟨j5, p2.1⟩, p1.2.2.2, p2.2.2.2, j6⟩)
 rw [← hrl] at key
 exact key
end Go.Proofs.Ytnkbkfjgbejhfaa
namespace Go.Proofs.Ytnkbkfjgbejhfaa
open Go.Proofs.Ytnkbkfjgbejhfaa.Am Go.HeapL
variable [Inhabited DRT]
variable {G : GInv}
/-! ### The witness of the layer -/
def gW : Gr := ⟨[0, 1, 2, 2], [1, 2], [2, 3]⟩
theorem gW_n : gW.n = 3 := rfl
theorem gW_may : GMay gW := by
 refine ⟨⟨by decide, by decide, by decide, by decide, by decide, by decide⟩, fun v hv => ?_, fun v hv i i1 i2 => ?_⟩
 ·have hv : v + 1 < 4 := hv
  obtain rfl | rfl | rfl : v = 0 ∨ v = 1 ∨ v = 2 := by omega
  all_goals decide
 ·have hv : v + 1 < 4 := hv
  obtain rfl | rfl | rfl : v = 0 ∨ v = 1 ∨ v = 2 := by omega
  ·have i1 : (0 : Int) ≤ i := i1
   have i2 : i < (1 : Int) := i2
   obtain rfl : i = 0 := by omega
   exact ⟨by decide, by decide, by decide⟩
  ·have i1 : (1 : Int) ≤ i := i1
   have i2 : i < (2 : Int) := i2
   obtain rfl : i = 1 := by omega
   exact ⟨by decide, by decide, by decide⟩
  ·have i1 : (2 : Int) ≤ i := i1
   have i2 : i < (2 : Int) := i2
   omega
theorem gW_len : 2 ≤ (lsB gW).length := by
 have h := gW_may.ok
 obtain ⟨x, hx, x1, x2⟩ := kept_all h (by decide) 3 0 (by decide) (a := 0) (b := 1) (s := (2, -1)) (by decide)
 obtain ⟨y, hy, y1, y2⟩ := kept_all h (by decide) 3 0 (by decide) (a := 1) (b := 2) (s := (3, -1)) (by decide)
 have hx := (fin_mem x).2 hx
 have hy := (fin_mem y).2 hy
 match hl : lsB gW with
 | [] => rw [hl] at hx; cases hx
 | [z] =>
  rw [hl] at hx hy
  rw [List.mem_singleton] at hx hy
  rw [hx] at x1; rw [hy] at y1; omega
 | _ :: _ :: _ => simp
theorem gW_arcs {u w v : Int} (h : (w, v) ∈ gE gW u) : (u = 0 ∧ w = 2 ∧ v = 1) ∨ (u = 1 ∧ w = 3 ∧ v = 2) := by
 obtain ⟨k, k1, k2, k3, k4, k5, k6⟩ := gE_mem.1 h
 have k1 : k < 2 := k1
 obtain ⟨k2a, k2b⟩ := k2
 have k2b : u < 3 := k2b
 obtain rfl | rfl | rfl : u = 0 ∨ u = 1 ∨ u = 2 := by omega
 ·have k4 : (k : Int) < 1 := k4
  obtain rfl : k = 0 := by omega
  exact .inl ⟨rfl, k5, k6⟩
 ·have k3 : (1 : Int) ≤ k := k3
  have k4 : (k : Int) < 2 := k4
  obtain rfl : k = 1 := by omega
  exact .inr ⟨rfl, k5, k6⟩
 ·have k3 : (2 : Int) ≤ k := k3
  omega
theorem gW_walk {v d : Int} (h : Wk [(0, 0)] (gE gW) v d) : (v = 0 ∧ d = 0) ∨ (v = 1 ∧ d = 2) ∨ (v = 2 ∧ d = 5) := by
 induction h with
 | start hm => rw [List.mem_singleton] at hm; cases hm; exact .inl ⟨rfl, rfl⟩
 | step _ hm ih =>
  rcases gW_arcs hm with ⟨e1, e2, e3⟩ | ⟨e1, e2, e3⟩ <;> omega
theorem gW_min : minV (Wk [(0, 0)] (gE gW) 2) = 5 := by
 have h1 : (2, 1) ∈ gE gW 0 := gE_mem.2 ⟨0, by decide, by decide, by decide, by decide, by decide, by decide⟩
 have h2 : (3, 2) ∈ gE gW 1 := gE_mem.2 ⟨1, by decide, by decide, by decide, by decide, by decide, by decide⟩
 refine minV_eq ⟨by unfold NC; omega, fun d hd => .inl ?_, fun _ => ?_⟩
 ·rcases gW_walk hd with h | h | h <;> omega
 ·have := Wk.step (Wk.step (Wk.start (lk := gE gW) (List.mem_singleton.2 rfl : ((0 : Int), (0 : Int)) ∈ [((0 : Int), (0 : Int))])) h1) h2
  simpa using this
theorem litW : andL (fitA.fitL 6 0 [A.agg [.sl 4 1 fun i => takeL 1 (List.drop (i * 1) [A.int .i64 0, A.int .i64 1, A.int .i64 2, A.int .i64 2]), .sl 2 1 fun i => takeL 1 (List.drop (i * 1) [A.int .i64 1, A.int .i64 2]), .sl 2 1 fun i => takeL 1 (List.drop (i * 1) [A.int .i64 2, A.int .i64 3])]] [gA gW]) := by
 conv => whnf
 repeat (first | exact fa | ((first | refine fb ?_ | (refine And.intro ?_ ?_; rotate_left)); conv => whnf))
 all_goals (refine Or.inl fun i hi => ?_; rcases i with _ | _ | _ | _ | i <;> first | rfl | omega)
theorem awake24_c (hns : (default : DRT).ns) : ACalls Try.prog G 9 [] (.bool true) := by
 have h3 : gW.n ≤ 28 := by decide
 have hok := gW_may.ok
 have ho := of_ok (G := G) hns gW gW_may h3
 have hl := fin_len hok h3
 have hrl := fin_rl hok h3
 rw [gW_n] at hl hrl
 have hst := stat_c (G := G) (ofB gW).rk (lsB gW) (by omega)
 have hle := least_b (G := G) (g := gW) hok h3 (a := 0) (b := 2) (by decide) (by decide)
 rw [gW_min] at hle
 have h2 := gW_len
 generalize hrk : (ofB gW).rk = rk at *
 generalize hls : lsB gW = ls at *
 have hs2 := shN_le ls ls.length
 refine ACalls.of_WA ttok Try.func9 rfl rfl _ rfl ?_
 conv => whnf
 repeat' (first | refine sq ?_ | refine bk ?_ | ((first | refine rg ttok ?_ | refine dw ttok mixed ?_ | refine cd ?_ | refine sk ?_ | refine xt ?_ | refine rt ?_); conv => whnf) | (refine And.intro (fun h => ?_) (fun h => ?_) <;> (try simp only [brsA] at h) <;> conv => whnf) | (refine Or.inl ?_; (conv => whnf); (first | refine ⟨_, hst, ?_⟩ | refine ⟨_, hle, ?_⟩); conv => whnf) | (refine Or.inr (Or.inr (Or.inl ?_)); (conv => whnf); refine ⟨_, ho.fit litW, ?_⟩; conv => whnf) | ((first | refine wf ?_ | refine wp' ?_ | refine ai ?_ | refine And.intro rfl ?_ | refine an ?_ | fail); conv => whnf))
 all_goals first | rfl | (exfalso; omega) | (exact absurd trivial ‹¬ True›)
end Go.Proofs.Ytnkbkfjgbejhfaa
namespace Go.Proofs.Ytnkbkfjgbejhfaa
open Go.Proofs.Ytnkbkfjgbejhfaa.Am Go.HeapL
variable [Inhabited DRT]
variable {G : GInv}
/-- Graphs that the law looks at. -/
def NearG (g : Gr) : Prop := g.st.length ≤ 14 ∧ g.hd.length ≤ 300 ∧ g.wt.length ≤ 300 ∧ GMay g
theorem may_near {g : Gr} (h1 : g.st.length ≤ 40) (h2 : g.hd.length ≤ 300) (h3 : g.wt.length ≤ 300) : ACalls Try.prog G 8 [gA g] (.sb (decide (GMay g))) := rmay19_c g (by omega) (by omega) (by omega)
end Go.Proofs.Ytnkbkfjgbejhfaa

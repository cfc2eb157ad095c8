/-
  The walks and plain laws, part 3.
-/
import Derived.Test.YtnkbkfjgbejhfaaBase1
set_option linter.unusedSimpArgs false
set_option linter.unusedSectionVars false
set_option linter.unusedVariables false
set_option maxRecDepth 100000
set_option maxHeartbeats 8000000
namespace Go.Proofs.Ytnkbkfjgbejhfaa
open Go.Proofs.Ytnkbkfjgbejhfaa.Am Go.HeapL
variable [Inhabited DRT]
variable {G : GInv}
def eF (ls : List Lk) (i : Nat) : Int := (ls.getD i default).f
def eT (ls : List Lk) (i : Nat) : Int := (ls.getD i default).t
def eW (ls : List Lk) (i : Nat) : Int := (ls.getD i default).w
def cR (c : Nat → Int) : Nat → List A := fun k => [.int .i64 (c k)]
theorem cR_upd (c : Nat → Int) (i : Nat) (x : Int) (k : Nat) : updRow (cR c) i [.int .i64 x] k = cR (updF1 c i x) k := by
 unfold updRow cR updF1
 split <;> rfl
theorem c0_step (i : Nat) (k : Nat) : updRow (cR fun k => if k < i then NC else 0) i [.int .i64 4611686018427387904] k = cR (fun k => if k < i + 1 then NC else 0) k := by
 unfold updRow cR
 split
 ·rename_i e; subst e
  show [A.int .i64 4611686018427387904] = [A.int .i64 (if k < k + 1 then NC else 0)]
  rw [if_pos (by omega)]; rfl
 ·rename_i e
  show [A.int .i64 (if k < i then NC else 0)] = [A.int .i64 (if k < i + 1 then NC else 0)]
  by_cases h : k < i
  ·rw [if_pos h, if_pos (by omega)]
  ·rw [if_neg h, if_neg (by omega)]
theorem ini_a {n : Nat} {fr : Int} (h : 0 ≤ fr) (k : Nat) (hk : k < n) : updRow (cR fun k => if k < n then NC else 0) fr.toNat [.int .i64 0] k = cR (fun v => if (v : Int) = fr then 0 else NC) k := by
 unfold updRow cR
 split
 ·rename_i e; subst e
  show [A.int .i64 0] = [A.int .i64 (if ((fr.toNat : Nat) : Int) = fr then 0 else NC)]
  rw [if_pos (by omega)]
 ·rename_i e
  show [A.int .i64 (if k < n then NC else 0)] = [A.int .i64 (if ((k : Nat) : Int) = fr then 0 else NC)]
  rw [if_pos hk, if_neg (by omega)]
theorem ini_b {n : Nat} {fr : Int} (h : ¬ (0 ≤ fr ∧ fr < n)) (k : Nat) (hk : k < n) : cR (fun k => if k < n then NC else 0) k = cR (fun v => if (v : Int) = fr then 0 else NC) k := by
 show [A.int .i64 (if k < n then NC else 0)] = [A.int .i64 (if ((k : Nat) : Int) = fr then 0 else NC)]
 rw [if_pos hk, if_neg (by omega)]
theorem up0_c (rk : List Int) (ls : List Lk) (fr : Int) (hl : ls.length ≤ 1000000) (hr : rk.length ≤ 1000000) (hR : RanksP rk) (hS : SortedP rk.length ls) :
  ACalls Try.prog G 36 [.agg [intsA rk, lksA ls], .int .i64 fr, .bool false] (.sl rk.length 1 fun k => [.int .i64 (minV (UW ls.length (eF ls) (eT ls) (eW ls) (rkI rk) fr k))]) := by
 have hrk0 : ∀ v : Nat, v < rk.length → 0 ≤ rkI rk v := fun v hv => (hR v hv).1.1
 have hrkn : ∀ v : Nat, v < rk.length → rkI rk v < rk.length := fun v hv => (hR v hv).1.2
 refine ACalls.of_WA ttok Try.func36 rfl rfl _ rfl ?_
 conv => whnf
 repeat' (first | refine sq ?_ | refine bk ?_ | ((first | refine rg ttok ?_ | refine dw ttok mixed ?_ | refine cd ?_ | refine sk ?_ | refine xt ?_ | refine rt ?_); conv => whnf) | (refine And.intro (fun h => ?_) (fun h => ?_) <;> (try simp only [brsA] at h) <;> conv => whnf) | ((first | refine wf ?_ | refine wp' ?_ | refine ai ?_ | refine And.intro rfl ?_ | refine an ?_ | fail); conv => whnf))
 refine WA_loopI (fun i => i ≤ rk.length) (fun i => [(8, .int .i64 (i : Int))]) (fun i => [.box 29 [intsA rk, lksA ls], .row 3 1 rk.length (cR fun k => if k < i then NC else 0)]) (fun i => rk.length - i) 0 (by omega) ?_ ?_
 ·conv => whnf
  repeat (first | exact fa | ((first | refine fb ?_ | (refine And.intro ?_ ?_; rotate_left)); conv => whnf))
 ·intro i hi
  have hi : i ≤ rk.length := hi
  conv => whnf
  repeat' (first | refine sq ?_ | refine bk ?_ | ((first | refine rg ttok ?_ | refine dw ttok mixed ?_ | refine cd ?_ | refine sk ?_ | refine xt ?_ | refine rt ?_); conv => whnf) | (refine And.intro (fun h => ?_) (fun h => ?_) <;> (try simp only [brsA] at h) <;> conv => whnf) | ((first | refine wf ?_ | refine wp' ?_ | refine ai ?_ | refine And.intro rfl ?_ | refine an ?_ | fail); conv => whnf))
  ·refine ⟨i + 1, (by show i + 1 ≤ rk.length; omega), (by show rk.length - (i + 1) < rk.length - i; omega), ?_⟩
   conv => whnf
   repeat (first | exact fa | ((first | refine fb ?_ | (refine And.intro ?_ ?_; rotate_left)); conv => whnf))
   exact Or.inl fun k hk => c0_step i k
  all_goals
   have e : i = rk.length := by omega
   subst e
   refine WA_loopI (ι := Nat × (Nat → Int)) (fun x => x.1 ≤ rk.length + 1 ∧ UpI ls.length rk.length (eF ls) (eT ls) (eW ls) (rkI rk) fr x.1 0 x.2) (fun x => match x with | (t, _) => [(9, .int .i64 (t : Int))]) (fun x => match x with | (_, c) => [.box 29 [intsA rk, lksA ls], .row 3 1 rk.length (cR c)]) (fun x => rk.length + 1 - x.1) (0, fun v => if (v : Int) = fr then 0 else NC) ⟨Nat.zero_le _, UpI.init hrk0⟩ ?_ ?_
   ·conv => whnf
    repeat (first | exact fa | ((first | refine fb ?_ | (refine And.intro ?_ ?_; rotate_left)); conv => whnf))
    first
     | (refine Or.inl fun k hk => ini_a ?_ k hk; assumption)
     | (refine Or.inl fun k hk => ini_b ?_ k hk; omega)
   ·rintro ⟨t, c⟩ ⟨ht, hI⟩
    have ht : t ≤ rk.length + 1 := ht
    have hI : UpI ls.length rk.length (eF ls) (eT ls) (eW ls) (rkI rk) fr t 0 c := hI
    conv => whnf
    repeat' (first | refine sq ?_ | refine bk ?_ | ((first | refine rg ttok ?_ | refine dw ttok mixed ?_ | refine cd ?_ | refine sk ?_ | refine xt ?_ | refine rt ?_); conv => whnf) | (refine And.intro (fun h => ?_) (fun h => ?_) <;> (try simp only [brsA] at h) <;> conv => whnf) | ((first | refine wf ?_ | refine wp' ?_ | refine ai ?_ | refine And.intro rfl ?_ | refine an ?_ | fail); conv => whnf))
    ·refine WA_loopI (ι := Nat × (Nat → Int)) (fun x => x.1 ≤ ls.length ∧ UpI ls.length rk.length (eF ls) (eT ls) (eW ls) (rkI rk) fr t x.1 x.2) (fun x => match x with | (i, _) => [(10, .int .i64 (i : Int))]) (fun x => match x with | (_, c) => [.box 29 [intsA rk, lksA ls], .row 3 1 rk.length (cR c)]) (fun x => ls.length - x.1) (0, c) ⟨Nat.zero_le _, hI⟩ ?_ ?_
     ·conv => whnf
      repeat (first | exact fa | ((first | refine fb ?_ | (refine And.intro ?_ ?_; rotate_left)); conv => whnf))
     ·rintro ⟨i, c⟩ ⟨hi, hI⟩
      have hi : i ≤ ls.length := hi
      have hI : UpI ls.length rk.length (eF ls) (eT ls) (eW ls) (rkI rk) fr t i c := hI
      have hok : (i : Int) < ls.length → okL rk.length (ls.getD (i : Int).toNat default) := fun h => (hS i (by omega)).1
      have hok : (i : Int) < ls.length → (0 ≤ (ls.getD (i : Int).toNat default).f ∧ (ls.getD (i : Int).toNat default).f < rk.length) ∧ (0 ≤ (ls.getD (i : Int).toNat default).t ∧ (ls.getD (i : Int).toNat default).t < rk.length) ∧ 0 ≤ (ls.getD (i : Int).toNat default).w ∧ (ls.getD (i : Int).toNat default).w ≤ 1152921504606846976 := fun h => ⟨(hok h).1, (hok h).2.1, (hok h).2.2.2⟩
      have hb1 : (i : Int) < ls.length → 0 ≤ c (ls.getD (i : Int).toNat default).f.toNat ∧ c (ls.getD (i : Int).toNat default).f.toNat ≤ 4611686018427387904 := fun h => by
       have := hI.bd (ls.getD (i : Int).toNat default).f.toNat (by have := hok h; omega)
       unfold NC at this; exact ⟨this.1, this.2.1⟩
      have hb2 : (i : Int) < ls.length → 0 ≤ c (ls.getD (i : Int).toNat default).t.toNat ∧ c (ls.getD (i : Int).toNat default).t.toNat ≤ 4611686018427387904 := fun h => by
       have := hI.bd (ls.getD (i : Int).toNat default).t.toNat (by have := hok h; omega)
       unfold NC at this; exact ⟨this.1, this.2.1⟩
      have hL := fun (h : i < ls.length) => hI.link h (show 0 ≤ (eF ls) i ∧ (eF ls) i < rk.length from by have := hok (by omega); first | exact this.1 | exact this.2.1) (show 0 ≤ (eT ls) i ∧ (eT ls) i < rk.length from by have := hok (by omega); first | exact this.1 | exact this.2.1) (show 0 ≤ eW ls i from (hok (by omega)).2.2.1)
      conv => whnf
      repeat' (first | refine sq ?_ | refine bk ?_ | ((first | refine rg ttok ?_ | refine dw ttok mixed ?_ | refine cd ?_ | refine sk ?_ | refine xt ?_ | refine rt ?_); conv => whnf) | (refine And.intro (fun h => ?_) (fun h => ?_) <;> (try simp only [brsA] at h) <;> conv => whnf) | ((first | refine wf ?_ | refine wp' ?_ | refine ai ?_ | refine And.intro rfl ?_ | refine an ?_ | fail); conv => whnf))
      ·refine ⟨(i + 1, updF1 c ((eT ls) i).toNat (c ((eF ls) i).toNat + eW ls i)), ⟨(by show i + 1 ≤ ls.length; omega), (hL (by omega)).1 (by assumption) (by assumption) h⟩, (by show ls.length - (i + 1) < ls.length - i; omega), ?_⟩
       conv => whnf
       repeat (first | exact fa | ((first | refine fb ?_ | (refine And.intro ?_ ?_; rotate_left)); conv => whnf))
       exact Or.inl fun k hk => cR_upd c _ _ k
      ·refine ⟨(i + 1, c), ⟨(by show i + 1 ≤ ls.length; omega), (hL (by omega)).2 (fun hc => h hc.2.2)⟩, (by show ls.length - (i + 1) < ls.length - i; omega), ?_⟩
       conv => whnf
       repeat (first | exact fa | ((first | refine fb ?_ | (refine And.intro ?_ ?_; rotate_left)); conv => whnf))
      ·refine ⟨(i + 1, c), ⟨(by show i + 1 ≤ ls.length; omega), (hL (by omega)).2 (fun hc => h hc.2.1)⟩, (by show ls.length - (i + 1) < ls.length - i; omega), ?_⟩
       conv => whnf
       repeat (first | exact fa | ((first | refine fb ?_ | (refine And.intro ?_ ?_; rotate_left)); conv => whnf))
      ·refine ⟨(i + 1, c), ⟨(by show i + 1 ≤ ls.length; omega), (hL (by omega)).2 (fun hc => h hc.1)⟩, (by show ls.length - (i + 1) < ls.length - i; omega), ?_⟩
       conv => whnf
       repeat (first | exact fa | ((first | refine fb ?_ | (refine And.intro ?_ ?_; rotate_left)); conv => whnf))
      ·have e : i = ls.length := by omega
       subst e
       refine ⟨(t + 1, c), ⟨(by show t + 1 ≤ rk.length + 1; omega), hI.round⟩, (by show rk.length + 1 - (t + 1) < rk.length + 1 - t; omega), ?_⟩
       conv => whnf
       repeat (first | exact fa | ((first | refine fb ?_ | (refine And.intro ?_ ?_; rotate_left)); conv => whnf))
    ·have e : t = rk.length + 1 := by omega
     subst e
     refine Or.inl fun k hk => ?_
     have hf := hI.fin (fun v hv => by have := hrkn v hv; omega) hk
     show [A.int .i64 (c k)] = [A.int .i64 (minV (UW ls.length (eF ls) (eT ls) (eW ls) (rkI rk) fr k))]
     rw [minV_eq hf]
end Go.Proofs.Ytnkbkfjgbejhfaa
namespace Go.Proofs.Ytnkbkfjgbejhfaa
open Go.Proofs.Ytnkbkfjgbejhfaa.Am Go.HeapL
variable [Inhabited DRT]
variable {G : GInv}
theorem up1_c (rk : List Int) (ls : List Lk) (fr : Int) (hl : ls.length ≤ 1000000) (hr : rk.length ≤ 1000000) (hR : RanksP rk) (hS : SortedP rk.length ls) :
  ACalls Try.prog G 36 [.agg [intsA rk, lksA ls], .int .i64 fr, .bool true] (.sl rk.length 1 fun k => [.int .i64 (minV (UW ls.length (eT ls) (eF ls) (eW ls) (rkI rk) fr k))]) := by
 have hrk0 : ∀ v : Nat, v < rk.length → 0 ≤ rkI rk v := fun v hv => (hR v hv).1.1
 have hrkn : ∀ v : Nat, v < rk.length → rkI rk v < rk.length := fun v hv => (hR v hv).1.2
 refine ACalls.of_WA ttok Try.func36 rfl rfl _ rfl ?_
 conv => whnf
 repeat' (first | refine sq ?_ | refine bk ?_ | ((first | refine rg ttok ?_ | refine dw ttok mixed ?_ | refine cd ?_ | refine sk ?_ | refine xt ?_ | refine rt ?_); conv => whnf) | (refine And.intro (fun h => ?_) (fun h => ?_) <;> (try simp only [brsA] at h) <;> conv => whnf) | ((first | refine wf ?_ | refine wp' ?_ | refine ai ?_ | refine And.intro rfl ?_ | refine an ?_ | fail); conv => whnf))
 refine WA_loopI (fun i => i ≤ rk.length) (fun i => [(8, .int .i64 (i : Int))]) (fun i => [.box 29 [intsA rk, lksA ls], .row 3 1 rk.length (cR fun k => if k < i then NC else 0)]) (fun i => rk.length - i) 0 (by omega) ?_ ?_
 ·conv => whnf
  repeat (first | exact fa | ((first | refine fb ?_ | (refine And.intro ?_ ?_; rotate_left)); conv => whnf))
 ·intro i hi
  have hi : i ≤ rk.length := hi
  conv => whnf
  repeat' (first | refine sq ?_ | refine bk ?_ | ((first | refine rg ttok ?_ | refine dw ttok mixed ?_ | refine cd ?_ | refine sk ?_ | refine xt ?_ | refine rt ?_); conv => whnf) | (refine And.intro (fun h => ?_) (fun h => ?_) <;> (try simp only [brsA] at h) <;> conv => whnf) | ((first | refine wf ?_ | refine wp' ?_ | refine ai ?_ | refine And.intro rfl ?_ | refine an ?_ | fail); conv => whnf))
  ·refine ⟨i + 1, (by show i + 1 ≤ rk.length; omega), (by show rk.length - (i + 1) < rk.length - i; omega), ?_⟩
   conv => whnf
   repeat (first | exact fa | ((first | refine fb ?_ | (refine And.intro ?_ ?_; rotate_left)); conv => whnf))
   exact Or.inl fun k hk => c0_step i k
  all_goals
   have e : i = rk.length := by omega
   subst e
   refine WA_loopI (ι := Nat × (Nat → Int)) (fun x => x.1 ≤ rk.length + 1 ∧ UpI ls.length rk.length (eT ls) (eF ls) (eW ls) (rkI rk) fr x.1 0 x.2) (fun x => match x with | (t, _) => [(9, .int .i64 (t : Int))]) (fun x => match x with | (_, c) => [.box 29 [intsA rk, lksA ls], .row 3 1 rk.length (cR c)]) (fun x => rk.length + 1 - x.1) (0, fun v => if (v : Int) = fr then 0 else NC) ⟨Nat.zero_le _, UpI.init hrk0⟩ ?_ ?_
   ·conv => whnf
    repeat (first | exact fa | ((first | refine fb ?_ | (refine And.intro ?_ ?_; rotate_left)); conv => whnf))
    first
     | (refine Or.inl fun k hk => ini_a ?_ k hk; assumption)
     | (refine Or.inl fun k hk => ini_b ?_ k hk; omega)
   ·rintro ⟨t, c⟩ ⟨ht, hI⟩
    have ht : t ≤ rk.length + 1 := ht
    have hI : UpI ls.length rk.length (eT ls) (eF ls) (eW ls) (rkI rk) fr t 0 c := hI
    conv => whnf
    repeat' (first | refine sq ?_ | refine bk ?_ | ((first | refine rg ttok ?_ | refine dw ttok mixed ?_ | refine cd ?_ | refine sk ?_ | refine xt ?_ | refine rt ?_); conv => whnf) | (refine And.intro (fun h => ?_) (fun h => ?_) <;> (try simp only [brsA] at h) <;> conv => whnf) | ((first | refine wf ?_ | refine wp' ?_ | refine ai ?_ | refine And.intro rfl ?_ | refine an ?_ | fail); conv => whnf))
    ·refine WA_loopI (ι := Nat × (Nat → Int)) (fun x => x.1 ≤ ls.length ∧ UpI ls.length rk.length (eT ls) (eF ls) (eW ls) (rkI rk) fr t x.1 x.2) (fun x => match x with | (i, _) => [(10, .int .i64 (i : Int))]) (fun x => match x with | (_, c) => [.box 29 [intsA rk, lksA ls], .row 3 1 rk.length (cR c)]) (fun x => ls.length - x.1) (0, c) ⟨Nat.zero_le _, hI⟩ ?_ ?_
     ·conv => whnf
      repeat (first | exact fa | ((first | refine fb ?_ | (refine And.intro ?_ ?_; rotate_left)); conv => whnf))
     ·rintro ⟨i, c⟩ ⟨hi, hI⟩
      have hi : i ≤ ls.length := hi
      have hI : UpI ls.length rk.length (eT ls) (eF ls) (eW ls) (rkI rk) fr t i c := hI
      have hok : (i : Int) < ls.length → okL rk.length (ls.getD (i : Int).toNat default) := fun h => (hS i (by omega)).1
      have hok : (i : Int) < ls.length → (0 ≤ (ls.getD (i : Int).toNat default).f ∧ (ls.getD (i : Int).toNat default).f < rk.length) ∧ (0 ≤ (ls.getD (i : Int).toNat default).t ∧ (ls.getD (i : Int).toNat default).t < rk.length) ∧ 0 ≤ (ls.getD (i : Int).toNat default).w ∧ (ls.getD (i : Int).toNat default).w ≤ 1152921504606846976 := fun h => ⟨(hok h).1, (hok h).2.1, (hok h).2.2.2⟩
      have hb1 : (i : Int) < ls.length → 0 ≤ c (ls.getD (i : Int).toNat default).t.toNat ∧ c (ls.getD (i : Int).toNat default).t.toNat ≤ 4611686018427387904 := fun h => by
       have := hI.bd (ls.getD (i : Int).toNat default).t.toNat (by have := hok h; omega)
       unfold NC at this; exact ⟨this.1, this.2.1⟩
      have hb2 : (i : Int) < ls.length → 0 ≤ c (ls.getD (i : Int).toNat default).f.toNat ∧ c (ls.getD (i : Int).toNat default).f.toNat ≤ 4611686018427387904 := fun h => by
       have := hI.bd (ls.getD (i : Int).toNat default).f.toNat (by have := hok h; omega)
       unfold NC at this; exact ⟨this.1, this.2.1⟩
      have hL := fun (h : i < ls.length) => hI.link h (show 0 ≤ (eT ls) i ∧ (eT ls) i < rk.length from by have := hok (by omega); first | exact this.1 | exact this.2.1) (show 0 ≤ (eF ls) i ∧ (eF ls) i < rk.length from by have := hok (by omega); first | exact this.1 | exact this.2.1) (show 0 ≤ eW ls i from (hok (by omega)).2.2.1)
      conv => whnf
      repeat' (first | refine sq ?_ | refine bk ?_ | ((first | refine rg ttok ?_ | refine dw ttok mixed ?_ | refine cd ?_ | refine sk ?_ | refine xt ?_ | refine rt ?_); conv => whnf) | (refine And.intro (fun h => ?_) (fun h => ?_) <;> (try simp only [brsA] at h) <;> conv => whnf) | ((first | refine wf ?_ | refine wp' ?_ | refine ai ?_ | refine And.intro rfl ?_ | refine an ?_ | fail); conv => whnf))
      ·refine ⟨(i + 1, updF1 c ((eF ls) i).toNat (c ((eT ls) i).toNat + eW ls i)), ⟨(by show i + 1 ≤ ls.length; omega), (hL (by omega)).1 (by assumption) (by assumption) h⟩, (by show ls.length - (i + 1) < ls.length - i; omega), ?_⟩
       conv => whnf
       repeat (first | exact fa | ((first | refine fb ?_ | (refine And.intro ?_ ?_; rotate_left)); conv => whnf))
       exact Or.inl fun k hk => cR_upd c _ _ k
      ·refine ⟨(i + 1, c), ⟨(by show i + 1 ≤ ls.length; omega), (hL (by omega)).2 (fun hc => h hc.2.2)⟩, (by show ls.length - (i + 1) < ls.length - i; omega), ?_⟩
       conv => whnf
       repeat (first | exact fa | ((first | refine fb ?_ | (refine And.intro ?_ ?_; rotate_left)); conv => whnf))
      ·refine ⟨(i + 1, c), ⟨(by show i + 1 ≤ ls.length; omega), (hL (by omega)).2 (fun hc => h hc.2.1)⟩, (by show ls.length - (i + 1) < ls.length - i; omega), ?_⟩
       conv => whnf
       repeat (first | exact fa | ((first | refine fb ?_ | (refine And.intro ?_ ?_; rotate_left)); conv => whnf))
      ·refine ⟨(i + 1, c), ⟨(by show i + 1 ≤ ls.length; omega), (hL (by omega)).2 (fun hc => h hc.1)⟩, (by show ls.length - (i + 1) < ls.length - i; omega), ?_⟩
       conv => whnf
       repeat (first | exact fa | ((first | refine fb ?_ | (refine And.intro ?_ ?_; rotate_left)); conv => whnf))
      ·have e : i = ls.length := by omega
       subst e
       refine ⟨(t + 1, c), ⟨(by show t + 1 ≤ rk.length + 1; omega), hI.round⟩, (by show rk.length + 1 - (t + 1) < rk.length + 1 - t; omega), ?_⟩
       conv => whnf
       repeat (first | exact fa | ((first | refine fb ?_ | (refine And.intro ?_ ?_; rotate_left)); conv => whnf))
    ·have e : t = rk.length + 1 := by omega
     subst e
     refine Or.inl fun k hk => ?_
     have hf := hI.fin (fun v hv => by have := hrkn v hv; omega) hk
     show [A.int .i64 (c k)] = [A.int .i64 (minV (UW ls.length (eT ls) (eF ls) (eW ls) (rkI rk) fr k))]
     rw [minV_eq hf]
end Go.Proofs.Ytnkbkfjgbejhfaa
namespace Go.Proofs.Ytnkbkfjgbejhfaa
open Go.Proofs.Ytnkbkfjgbejhfaa.Am Go.HeapL
variable [Inhabited DRT]
variable {G : GInv}
theorem minV_congr {P Q : Int → Prop} (h : ∀ d, P d ↔ Q d) : minV P = minV Q := by
 have : P = Q := funext fun d => propext (h d)
 rw [this]
abbrev wU (rk : List Int) (ls : List Lk) (s : Int) (v : Nat) : Int → Prop := Wk [(0, s)] (upE rk ls) v
abbrev wD (rk : List Int) (ls : List Lk) (s : Int) (v : Nat) : Int → Prop := Wk [(0, s)] (dnE rk ls) v
theorem wU_eq (rk : List Int) (ls : List Lk) (s : Int) (v : Nat) : minV (UW ls.length (eF ls) (eT ls) (eW ls) (rkI rk) s v) = minV (wU rk ls s v) :=
 minV_congr fun d => uw_wk (fun u w x => upE_mem rk ls u w x) s v d
theorem wD_eq (rk : List Int) (ls : List Lk) (s : Int) (v : Nat) : minV (UW ls.length (eT ls) (eF ls) (eW ls) (rkI rk) s v) = minV (wD rk ls s v) :=
 minV_congr fun d => uw_wk (fun u w x => dnE_mem rk ls u w x) s v d
theorem wU_nn {rk : List Int} {ls : List Lk} (hS : SortedP rk.length ls) {s : Int} {v : Nat} (h : 0 ≤ s ∧ s < rk.length) : ∀ d, wU rk ls s v d → 0 ≤ d := fun d hd => (wk_ok (dat_up hS (itp_one h)) hd).2.2
theorem wD_nn {rk : List Int} {ls : List Lk} (hS : SortedP rk.length ls) {s : Int} {v : Nat} (h : 0 ≤ s ∧ s < rk.length) : ∀ d, wD rk ls s v d → 0 ≤ d := fun d hd => (wk_ok (dat_dn hS (itp_one h)) hd).2.2
theorem minV_min {P : Int → Prop} (h : ∀ d, P d → 0 ≤ d) : IsMin P (minV P) := minV_ok (IsMin.ex P h)
theorem isMin_bd {P : Int → Prop} {x : Int} (h : IsMin P x) (h0 : ∀ d, P d → 0 ≤ d) : 0 ≤ x ∧ x ≤ NC := by
 refine ⟨?_, h.1⟩
 by_cases hx : x < NC
 ·exact h0 x (h.2.2 hx)
 ·unfold NC at hx; omega
def mid (rk : List Int) (ls : List Lk) (s e : Int) (i : Nat) (d : Int) : Prop := ∃ v : Nat, v < i ∧ ∃ a b, wU rk ls s v a ∧ wD rk ls e v b ∧ d = a + b
theorem mid_step (rk : List Int) (ls : List Lk) (s e : Int) (i : Nat) (d : Int) : mid rk ls s e (i + 1) d ↔ mid rk ls s e i d ∨ ∃ a b, wU rk ls s i a ∧ wD rk ls e i b ∧ d = a + b := by
 constructor
 ·rintro ⟨v, hv, h⟩
  by_cases ev : v = i
  ·subst ev; exact .inr h
  ·exact .inl ⟨v, by omega, h⟩
 ·rintro (⟨v, hv, h⟩ | h)
  ·exact ⟨v, by omega, h⟩
  ·exact ⟨i, by omega, h⟩
theorem mid_all {rk : List Int} {ls : List Lk} (hS : SortedP rk.length ls) {s e : Int} (h : 0 ≤ s ∧ s < rk.length) (d : Int) : mid rk ls s e rk.length d ↔ two [(0, s)] [(0, e)] (upE rk ls) (dnE rk ls) d := by
 rw [two_at (dat_up hS (itp_one h))]
 exact ⟨fun ⟨v, hv, k⟩ => ⟨v, by omega, k⟩, fun ⟨v, hv, k⟩ => ⟨v, by omega, k⟩⟩
theorem least24_c (rk : List Int) (ls : List Lk) (s e : Int) (hl : ls.length ≤ 1000000) (hr : rk.length ≤ 1000000) (hR : RanksP rk) (hS : SortedP rk.length ls) (hs : 0 ≤ s ∧ s < rk.length) (he : 0 ≤ e ∧ e < rk.length)
  (h1 : ACalls Try.prog G 36 [.agg [intsA rk, lksA ls], .int .i64 s, .bool false] (.sl rk.length 1 fun k => [.int .i64 (minV (wU rk ls s k))])) (h2 : ACalls Try.prog G 36 [.agg [intsA rk, lksA ls], .int .i64 e, .bool true] (.sl rk.length 1 fun k => [.int .i64 (minV (wD rk ls e k))])) :
  ACalls Try.prog G 14 [.agg [intsA rk, lksA ls], .int .i64 s, .int .i64 e] (.int .i64 (minV (two [(0, s)] [(0, e)] (upE rk ls) (dnE rk ls)))) := by
 refine ACalls.of_WA ttok Try.func14 rfl rfl _ rfl ?_
 conv => whnf
 repeat' (first | refine sq ?_ | refine bk ?_ | ((first | refine rg ttok ?_ | refine dw ttok mixed ?_ | refine cd ?_ | refine sk ?_ | refine xt ?_ | refine rt ?_); conv => whnf) | (refine And.intro (fun h => ?_) (fun h => ?_) <;> (try simp only [brsA] at h) <;> conv => whnf) | (refine Or.inl ?_; (conv => whnf); (first | refine ⟨_, h1, ?_⟩ | refine ⟨_, h2, ?_⟩); conv => whnf) | ((first | refine wf ?_ | refine wp' ?_ | refine ai ?_ | refine And.intro rfl ?_ | refine an ?_ | fail); conv => whnf))
 refine WA_loopI (ι := Nat × Int) (fun x => x.1 ≤ rk.length ∧ IsMin (mid rk ls s e x.1) x.2) (fun x => match x with | (i, b) => [(10, .int .i64 (i : Int)), (9, .int .i64 b)]) (fun x => match x with | (_, _) => [.box 29 [intsA rk, lksA ls]]) (fun x => rk.length - x.1) (0, NC) ⟨Nat.zero_le _, IsMin.none (fun d ⟨v, hv, _⟩ => by omega)⟩ ?_ ?_
 ·conv => whnf
  repeat (first | exact fa | ((first | refine fb ?_ | (refine And.intro ?_ ?_; rotate_left)); conv => whnf))
 ·rintro ⟨i, b⟩ ⟨hi, hI⟩
  have hi : i ≤ rk.length := hi
  have hI : IsMin (mid rk ls s e i) b := hI
  have hA := minV_min (wU_nn hS (v := (i : Int).toNat) hs)
  have hB := minV_min (wD_nn hS (v := (i : Int).toNat) he)
  have bA := isMin_bd hA (wU_nn hS (v := (i : Int).toNat) hs)
  have bB := isMin_bd hB (wD_nn hS (v := (i : Int).toNat) he)
  unfold NC at bA bB
  have hst := IsMin.step2 hI hA hB (wU_nn hS hs) (wD_nn hS he) (mid_step rk ls s e i)
  unfold NC at hst
  conv => whnf
  repeat' (first | refine sq ?_ | refine bk ?_ | ((first | refine rg ttok ?_ | refine dw ttok mixed ?_ | refine cd ?_ | refine sk ?_ | refine xt ?_ | refine rt ?_); conv => whnf) | (refine And.intro (fun h => ?_) (fun h => ?_) <;> (try simp only [brsA] at h) <;> conv => whnf) | ((first | refine wf ?_ | refine wp' ?_ | refine ai ?_ | refine And.intro rfl ?_ | refine an ?_ | fail); conv => whnf))
  ·refine ⟨(i + 1, minV (wU rk ls s i) + minV (wD rk ls e i)), ⟨(by show i + 1 ≤ rk.length; omega), hst.1 (by assumption) (by assumption) h⟩, (by show rk.length - (i + 1) < rk.length - i; omega), ?_⟩
   conv => whnf
   repeat (first | exact fa | ((first | refine fb ?_ | (refine And.intro ?_ ?_; rotate_left)); conv => whnf))
  ·refine ⟨(i + 1, b), ⟨(by show i + 1 ≤ rk.length; omega), hst.2 (fun hc => h hc.2.2)⟩, (by show rk.length - (i + 1) < rk.length - i; omega), ?_⟩
   conv => whnf
   repeat (first | exact fa | ((first | refine fb ?_ | (refine And.intro ?_ ?_; rotate_left)); conv => whnf))
  ·refine ⟨(i + 1, b), ⟨(by show i + 1 ≤ rk.length; omega), hst.2 (fun hc => h hc.2.1)⟩, (by show rk.length - (i + 1) < rk.length - i; omega), ?_⟩
   conv => whnf
   repeat (first | exact fa | ((first | refine fb ?_ | (refine And.intro ?_ ?_; rotate_left)); conv => whnf))
  ·refine ⟨(i + 1, b), ⟨(by show i + 1 ≤ rk.length; omega), hst.2 (fun hc => h hc.1)⟩, (by show rk.length - (i + 1) < rk.length - i; omega), ?_⟩
   conv => whnf
   repeat (first | exact fa | ((first | refine fb ?_ | (refine And.intro ?_ ?_; rotate_left)); conv => whnf))
  ·have ei : i = rk.length := by omega
   subst ei
   exact (minV_eq (hI.congr (mid_all hS hs))).symm
end Go.Proofs.Ytnkbkfjgbejhfaa

/-
  Each line's cuts; the reference; both ways lead to the same cuts.
-/
import Derived.Test.YtcomiiakkhafpaaGreatCut1
import Derived.Test.YtcomiiakkhafpaaGreatAm6
set_option linter.unusedSimpArgs false
set_option linter.unusedSectionVars false
namespace Go.Proofs.YtcomiiakkhafpaaGreat
open Go.Proofs.YtcomiiakkhafpaaGreat.Am Go.Sort Go.Proofs
variable [Inhabited DRT]
variable {G : GInv}
/-! ### Each line's cuts -/
def endsF (l : List Sg) : Nat → List Cu := fun i => endsL' (l.getD i default)
def stO1 (l : List Sg) (O : Nat → List Cu) (i k : Nat) : Nat → List Cu := updN O i (O i ++ byL (l.getD i default) (l.getD k default))
def stO (l : List Sg) (O : Nat → List Cu) (i k : Nat) : Nat → List Cu := stO1 l (stO1 l O i k) k i
def ofK (l : List Sg) : Nat → Nat → List Cu
 | 0 => endsF l
 | k + 1 => stO l (ofK l k) ((refR l).getD k default).i.toNat ((refR l).getD k default).k.toNat
def ofF (l : List Sg) (i : Nat) : List Cu := srtU (ofK l (refR l).length i)
def cutssA (n : Nat) (F : Nat → List Cu) : A := .sl n 1 (fun i => [cutsA (F i)])
def nestC (n : Nat) (F : Nat → List Cu) : Blk := .nest 71 58 28 n none (fun i => (F i).length) (fun i => rowU (F i))
theorem stO1_len (l : List Sg) (O : Nat → List Cu) (i k j : Nat) : (O j).length ≤ (stO1 l O i k j).length ∧ (stO1 l O i k j).length ≤ (O j).length + 2 := by
 unfold stO1 updN
 have := byL_len (l.getD i default) (l.getD k default)
 split
 ·rename_i e; subst e; rw [List.length_append]; omega
 ·omega
theorem ofK_len (l : List Sg) (j : Nat) : ∀ k, 2 ≤ (ofK l k j).length ∧ (ofK l k j).length ≤ 2 + 4 * k
 | 0 => ⟨Nat.le_refl _, Nat.le_refl _⟩
 | k + 1 => by
  have h := ofK_len l j k
  unfold ofK stO
  generalize ((refR l).getD k default).i.toNat = i
  generalize ((refR l).getD k default).k.toNat = m
  have h1 := stO1_len l (ofK l k) i m j
  have h2 := stO1_len l (stO1 l (ofK l k) i m) m i j
  omega
theorem refR_get (l : List Sg) (k : Nat) (h : k < (refR l).length) : ∃ i m : Nat, (refR l).getD k default = ⟨i, m⟩ ∧ i < m ∧ m < l.length := by
 have hm : (refR l).getD k default ∈ refR l := by rw [List.getD_eq_getElem?_getD, List.getElem?_eq_getElem h]; exact List.getElem_mem _
 generalize (refR l).getD k default = p at *
 unfold refR at hm
 obtain ⟨i, _, h2, h3⟩ := (allR_mem l p _ _).1 hm
 obtain ⟨m, h4, h5, _, rfl⟩ := (rowR_mem l i p _ _).1 h3
 exact ⟨i, m, rfl, by omega, by omega⟩
set_option maxRecDepth 100000 in
set_option maxHeartbeats 1000000 in
theorem cof_bad (l : List Sg) (hk : chk l ≠ 0) : ACalls Tryz.prog G 32 [sgsA l] (.tup [.nils, .int .i64 (chk l)]) := by
 have h2 := pairs_bad (G := G) l hk
 refine ACalls.of_WA ttok Tryz.func32 rfl rfl _ rfl ?_
 conv => whnf
 repeat' (first | refine sq ?_ | refine bk ?_ | ((first | refine rg ttok ?_ | refine dw ttok mixed ?_ | refine cd ?_ | refine sk ?_ | refine xt ?_ | refine rt ?_); conv => whnf) | (refine And.intro (fun h => ?_) (fun h => ?_) <;> (try simp only [brsA] at h) <;> conv => whnf) | (refine Or.inl ?_; (conv => whnf); refine ⟨_, h2, ?_⟩; conv => whnf) | ((first | refine wf ?_ | refine wp' ?_ | refine ai ?_ | refine And.intro rfl ?_ | refine an ?_ | fail); conv => whnf))
 all_goals first | contradiction | (exfalso; omega) | skip
theorem endsF_cat (l : List Sg) (k : Nat) : ∀ i, i < k + 1 → catN k (fun i => (endsF l i).length) (fun _ => 2) i = (endsF l i).length ∧
  ∀ j, j < catN k (fun i => (endsF l i).length) (fun _ => 2) i → catN k (fun i => rowU (endsF l i)) (fun _ => rowU (endsL' (l.getD k default))) i j = rowU (endsF l i) j := by
 intro i hi
 rcases Nat.lt_or_ge i k with h | h
 ·rw [catN_lt _ _ h, catN_lt _ _ h]; exact ⟨rfl, fun _ _ => rfl⟩
 ·have : i = k := by omega
  subst this
  rw [catN_ge _ _ h, catN_ge _ _ h]; exact ⟨rfl, fun _ _ => rfl⟩
def ofJ (l : List Sg) (k : Nat) : Nat → List Cu := fun i => if i < k then ofF l i else ofK l (refR l).length i
theorem ofJ_self (l : List Sg) (k : Nat) : ofJ l k k = ofK l (refR l).length k := if_neg (Nat.lt_irrefl k)
theorem ofJ_next (l : List Sg) (k : Nat) (v : Nat) : ofJ l (k + 1) v = if v = k then srtU (ofJ l k k) else ofJ l k v := by
 rw [ofJ_self]
 unfold ofJ
 by_cases h : v = k
 ·subst h; rw [if_pos (by omega), if_pos rfl]; rfl
 ·rw [if_neg h]
  by_cases h2 : v < k
  ·rw [if_pos (by omega), if_pos h2]
  ·rw [if_neg (by omega), if_neg h2]
theorem rep_next (l : List Sg) (k v : Nat) : updN (fun i => (ofJ l k i).length) (k : Int).toNat (srtU (ofJ l k k)).length v = (ofJ l (k + 1) v).length ∧
  ∀ j, j < updN (fun i => (ofJ l k i).length) (k : Int).toNat (srtU (ofJ l k k)).length v → updN (fun i => rowU (ofJ l k i)) (k : Int).toNat (rowU (srtU (ofJ l k k))) v j = rowU (ofJ l (k + 1) v) j := by
 rw [ofJ_next, Int.toNat_natCast]
 unfold updN
 by_cases h : v = k
 ·subst h; simp only [if_pos]; exact ⟨trivial, fun _ _ => trivial⟩
 ·simp only [if_neg h]; exact ⟨trivial, fun _ _ => trivial⟩
/-- Lengths and rows stand for lists. -/
def RepC (F : Nat → Nat) (R : Nat → Nat → List A) (O : Nat → List Cu) : Prop := ∀ v, F v = (O v).length ∧ ∀ j, j < F v → R v j = rowU (O v) j
theorem rep_self (O : Nat → List Cu) : RepC (fun i => (O i).length) (fun i => rowU (O i)) O := fun _ => ⟨rfl, fun _ _ => rfl⟩
theorem rep_upd {F : Nat → Nat} {R : Nat → Nat → List A} {O : Nat → List Cu} (h : RepC F R O) (l : List Sg) (i k : Nat) :
  RepC (updN F i (F i + (byL (l.getD i default) (l.getD k default)).length)) (updN R i (rowCat (F i) (R i) (rowU (byL (l.getD i default) (l.getD k default))))) (stO1 l O i k) := by
 intro v
 unfold stO1
 by_cases hv : v = i
 ·subst hv
  simp only [updN, if_pos]
  obtain ⟨h1, h2⟩ := h v
  refine ⟨by rw [List.length_append, h1], fun j hj => ?_⟩
  have hc := rowCat_u (O v) (byL (l.getD v default) (l.getD k default)) (rowU (byL (l.getD v default) (l.getD k default))) (fun _ _ => rfl) j (by omega)
  rw [← hc]
  unfold rowCat
  rw [h1]
  split
  ·rename_i hb
   exact h2 j (by have := Nat.le_of_ble_eq_true hb; omega)
  ·rfl
 ·simp only [updN, if_neg hv]
  exact h v
set_option maxRecDepth 100000 in
set_option maxHeartbeats 4000000 in
theorem of13_c (hns : ¬ (default : DRT).ns) (l : List Sg) (hk : chk l = 0) (F : Nat → List Cu) (hF : ∀ i, i < l.length → F i = ofF l i) : ACalls Tryz.prog G 32 [sgsA l] (.tup [cutssA l.length F, .int .i64 0]) := by
 have h2 := pairs_all (G := G) hns l hk
 have hlen := (chk_ok hk).1
 have hok := (chk_ok hk).2
 have hrl := refR_len l
 have hrl2 : l.length * l.length ≤ 400 * 400 := Nat.mul_le_mul hlen hlen
 refine ACalls.of_WA ttok Tryz.func32 rfl rfl _ rfl ?_
 conv => whnf
 repeat' (first | (contradiction) | refine sq ?_ | refine bk ?_ | ((first | refine rg ttok ?_ | refine dw ttok mixed ?_ | refine cd ?_ | refine sk ?_ | refine xt ?_ | refine rt ?_); conv => whnf) | (refine And.intro (fun h => ?_) (fun h => ?_) <;> (try simp only [brsA] at h) <;> conv => whnf) | (refine Or.inl ?_; (conv => whnf); refine ⟨_, h2, ?_⟩; conv => whnf) | ((first | refine wf ?_ | refine wp' ?_ | refine ai ?_ | refine And.intro rfl ?_ | refine an ?_ | fail); conv => whnf))
 all_goals first | contradiction | (exfalso; omega) | skip
 refine WA_nil 6 71 1 rfl ?_
 conv => whnf
 repeat (first | refine sq ?_ | refine bk ?_ | ((first | refine rg ttok ?_ | refine dw ttok mixed ?_ | refine cd ?_ | refine sk ?_ | refine xt ?_ | refine rt ?_); conv => whnf))
 refine WA_nest 0 58 28 rfl (fun _ h => absurd h (Nat.not_lt_zero _)) ?_
 conv => whnf
 repeat (first | refine sq ?_ | refine bk ?_ | ((first | refine rg ttok ?_ | refine dw ttok mixed ?_ | refine cd ?_ | refine sk ?_ | refine xt ?_ | refine rt ?_); conv => whnf))
 refine WA_loopI (fun k : Nat => k ≤ l.length) (fun k => [(24, .int .i64 (k : Int)), (6, .own 0)]) (fun k => [nestC k (endsF l)]) (fun k => l.length - k) 0 (Nat.zero_le _) ?_ ?_
 ·unfold nestC
  conv => whnf
  repeat (first | exact fa | ((first | refine fb ?_ | (refine And.intro ?_ ?_; rotate_left)); conv => whnf))
  exact fun i h => absurd h (Nat.not_lt_zero _)
 ·intro k hkl
  unfold nestC
  have he := fun h : k < l.length => cends_c (G := G) (l.getD k default) (hok k h)
  conv => whnf
  repeat (first | refine sq ?_ | refine bk ?_ | ((first | refine rg ttok ?_ | refine dw ttok mixed ?_ | refine cd ?_ | refine sk ?_ | refine xt ?_ | refine rt ?_); conv => whnf))
  refine ⟨fun h => ?_, fun h => ?_⟩
  ·have h := of_decide_eq_true h
   have he := he (by omega)
   conv => whnf
   repeat' (first | refine sq ?_ | refine bk ?_ | ((first | refine rg ttok ?_ | refine dw ttok mixed ?_ | refine cd ?_ | refine sk ?_ | refine xt ?_ | refine rt ?_); conv => whnf) | (refine And.intro (fun h => ?_) (fun h => ?_) <;> (try simp only [brsA] at h) <;> conv => whnf) | ((first | refine Or.inr (Or.inr (Or.inr ?_)) | refine Or.inr ?_); (conv => whnf); refine ⟨_, _, he, ?_⟩; conv => whnf) | ((first | refine wf ?_ | refine wp' ?_ | refine ai ?_ | refine And.intro rfl ?_ | refine an ?_ | fail); conv => whnf))
   refine ⟨k + 1, (by show k + 1 ≤ l.length; omega), (by show l.length - (k + 1) < l.length - k; omega), ?_⟩
   conv => whnf
   repeat (first | exact fa | ((first | refine fb ?_ | (refine And.intro ?_ ?_; rotate_left)); conv => whnf))
   exact endsF_cat l k
  ·have h := of_decide_eq_false h
   have e : k = l.length := by omega
   subst e
   conv => whnf
   repeat' (first | refine sq ?_ | refine bk ?_ | ((first | refine rg ttok ?_ | refine dw ttok mixed ?_ | refine cd ?_ | refine sk ?_ | refine xt ?_ | refine rt ?_); conv => whnf) | (refine And.intro (fun h => ?_) (fun h => ?_) <;> (try simp only [brsA] at h) <;> conv => whnf) | ((first | refine wf ?_ | refine wp' ?_ | refine ai ?_ | refine And.intro rfl ?_ | refine an ?_ | fail); conv => whnf))
   refine WA_loopI (fun k : Nat => k ≤ (refR l).length) (fun k => [(36, .int .i64 (k : Int))]) (fun k => [nestC l.length (ofK l k)]) (fun k => (refR l).length - k) 0 (Nat.zero_le _) ?_ ?_
   ·unfold nestC
    conv => whnf
    repeat (first | exact fa | ((first | refine fb ?_ | (refine And.intro ?_ ?_; rotate_left)); conv => whnf))
    all_goals first | exact fun i _ => ⟨rfl, fun _ _ => rfl⟩ | trace_state
   ·intro k hkr
    unfold nestC
    conv => whnf
    repeat (first | refine sq ?_ | refine bk ?_ | ((first | refine rg ttok ?_ | refine dw ttok mixed ?_ | refine cd ?_ | refine sk ?_ | refine xt ?_ | refine rt ?_); conv => whnf))
    refine ⟨fun h => ?_, fun h => ?_⟩
    ·have h := of_decide_eq_true h
     have hk : k < (refR l).length := by omega
     obtain ⟨i, m, e, him, hml⟩ := refR_get l k hk
     have hb1 := cby_c (G := G) (l.getD i default) (l.getD m default)
     have hb2 := cby_c (G := G) (l.getD m default) (l.getD i default)
     have ei : ((refR l).getD (k : Int).toNat default).i = (i : Int) := by rw [Int.toNat_natCast, e]
     have em : ((refR l).getD (k : Int).toNat default).k = (m : Int) := by rw [Int.toNat_natCast, e]
     have ho := fun j => ofK_len l j k
     have ho1 := ho i
     have ho2 := ho m
     have hy1 := byL_len (l.getD i default) (l.getD m default)
     have hy2 := byL_len (l.getD m default) (l.getD i default)
     have hup : updN (fun i => (ofK l k i).length) (i : Int).toNat ((fun i => (ofK l k i).length) (i : Int).toNat + (byL (l.getD i default) (l.getD m default)).length) (m : Int).toNat ≤ 2 + 4 * k := by
      have hne : ¬ (m : Int).toNat = (i : Int).toNat := by omega
      unfold updN
      rw [if_neg hne]
      exact (ho _).2
     have ho3 := ho (i : Int).toNat
     conv => whnf
     iterate 5 (first | refine sq ?_ | refine bk ?_ | ((first | refine rg ttok ?_ | refine dw ttok mixed ?_ | refine cd ?_ | refine sk ?_ | refine xt ?_ | refine rt ?_); conv => whnf))
     refine And.intro ⟨by omega, by omega⟩ ?_
     conv => whnf
     rw [ei, em]
     repeat' (first | (refine WA_drawR (id := 14) [(7,1)] ttok mixed ?_; conv => whnf) | (refine WA_drawR (id := 15) [(7,1)] ttok mixed ?_; conv => whnf) | refine sq ?_ | refine bk ?_ | ((first | refine rg ttok ?_ | refine dw ttok mixed ?_ | refine cd ?_ | refine sk ?_ | refine xt ?_ | refine rt ?_); conv => whnf) | (refine And.intro (fun h => ?_) (fun h => ?_) <;> (try simp only [brsA] at h) <;> conv => whnf) | (refine Or.inl ?_; (conv => whnf); (first | refine ⟨_, hb1, ?_⟩ | refine ⟨_, hb2, ?_⟩); conv => whnf) | ((first | refine wf ?_ | refine wp' ?_ | refine ai ?_ | refine And.intro rfl ?_ | refine an ?_ | fail); conv => whnf))
     have hst : ofK l (k + 1) = stO l (ofK l k) i m := by
      rw [ofK, e]; rfl
     refine ⟨k + 1, (by show k + 1 ≤ (refR l).length; omega), (by show (refR l).length - (k + 1) < (refR l).length - k; omega), ?_⟩
     conv => whnf
     repeat (first | exact fa | ((first | refine fb ?_ | (refine And.intro ?_ ?_; rotate_left)); conv => whnf))
     rw [hst]
     exact fun v _ => rep_upd (rep_upd (rep_self (ofK l k)) l i m) l m i v
    ·have h := of_decide_eq_false h
     have e : k = (refR l).length := by omega
     subst e
     conv => whnf
     repeat' (first | refine sq ?_ | refine bk ?_ | ((first | refine rg ttok ?_ | refine dw ttok mixed ?_ | refine cd ?_ | refine sk ?_ | refine xt ?_ | refine rt ?_); conv => whnf) | (refine And.intro (fun h => ?_) (fun h => ?_) <;> (try simp only [brsA] at h) <;> conv => whnf) | ((first | refine wf ?_ | refine wp' ?_ | refine ai ?_ | refine And.intro rfl ?_ | refine an ?_ | fail); conv => whnf))
     refine WA_loopI (fun k : Nat => k ≤ l.length) (fun k => [(79, .int .i64 (k : Int))]) (fun k => [nestC l.length (ofJ l k)]) (fun k => l.length - k) 0 (Nat.zero_le _) ?_ ?_
     ·unfold nestC
      conv => whnf
      repeat (first | exact fa | ((first | refine fb ?_ | (refine And.intro ?_ ?_; rotate_left)); conv => whnf))
      all_goals first | exact fun i _ => ⟨rfl, fun _ _ => rfl⟩ | trace_state
     ·intro k hkl
      unfold nestC
      have hol := ofK_len l k (refR l).length
      have hs := csorted_c (G := G) hns (ofJ l k k) (by rw [ofJ_self]; omega) (by rw [ofJ_self]; omega)
      conv => whnf
      repeat' (first | refine sq ?_ | refine bk ?_ | ((first | refine rg ttok ?_ | refine dw ttok mixed ?_ | refine cd ?_ | refine sk ?_ | refine xt ?_ | refine rt ?_); conv => whnf) | (refine And.intro (fun h => ?_) (fun h => ?_) <;> (try simp only [brsA] at h) <;> conv => whnf) | (refine Or.inr (Or.inl ?_); (conv => whnf); refine ⟨_, _, hs, ?_⟩; conv => whnf) | ((first | refine wf ?_ | refine wp' ?_ | refine ai ?_ | refine And.intro rfl ?_ | refine an ?_ | fail); conv => whnf))
      ·refine ⟨k + 1, (by show k + 1 ≤ l.length; omega), (by show l.length - (k + 1) < l.length - k; omega), ?_⟩
       conv => whnf
       repeat (first | exact fa | ((first | refine fb ?_ | (refine And.intro ?_ ?_; rotate_left)); conv => whnf))
       exact fun v _ => rep_next l k v
      ·have e : k = l.length := by omega
       subst e
       refine ⟨Or.inl fun i hi => ?_, rfl⟩
       have ej : ofJ l l.length i = ofF l i := if_pos hi
       show [A.sl (ofJ l l.length i).length 28 (rowU (ofJ l l.length i))] = [cutsA (F i)]
       rw [hF i hi, ej]; rfl
end Go.Proofs.YtcomiiakkhafpaaGreat
namespace Go.Proofs.YtcomiiakkhafpaaGreat
open Go.Proofs.YtcomiiakkhafpaaGreat.Am Go.Sort Go.Proofs
variable [Inhabited DRT]
variable {G : GInv}
/-! ### The reference: ahead, put, one, same -/
theorem digW_len (a : Nat) : (digW a).length = 4 := rfl
set_option maxRecDepth 100000 in
set_option maxHeartbeats 1000000 in
theorem cahead_c (a b : Cu) : ACalls Tryz.prog G 33 [.agg (eCu a), .agg (eCu b)] (.sb (decide (ltU a b))) := by
 obtain ⟨a, ha⟩ := a
 obtain ⟨b, hb⟩ := b
 unfold ltU prU eCu
 simp only
 obtain ⟨n, d, p, q, X, Y, W, rfl⟩ := ct_form a
 obtain ⟨n', d', p', q', X', Y', W', rfl⟩ := ct_form b
 unfold GoodC at ha hb
 simp only at ha hb ⊢
 obtain ⟨N, rfl⟩ : ∃ N : Nat, n = N := ⟨n.toNat, by omega⟩
 obtain ⟨D, rfl⟩ : ∃ D : Nat, d = D := ⟨d.toNat, by omega⟩
 obtain ⟨N', rfl⟩ : ∃ N : Nat, n' = N := ⟨n'.toNat, by omega⟩
 obtain ⟨D', rfl⟩ : ∃ D : Nat, d' = D := ⟨d'.toNat, by omega⟩
 simp only [Int.toNat_natCast]
 have d1 : ACalls Tryz.prog G 79 [.int .u64 (IntKind.u64.wrap (N : Int))] (digA (digW N)) := by rw [w_wrap N (by omega)]; exact digits_c N (by omega)
 have d2 : ACalls Tryz.prog G 79 [.int .u64 (IntKind.u64.wrap (D : Int))] (digA (digW D)) := by rw [w_wrap D (by omega)]; exact digits_c D (by omega)
 have d3 : ACalls Tryz.prog G 79 [.int .u64 (IntKind.u64.wrap (N' : Int))] (digA (digW N')) := by rw [w_wrap N' (by omega)]; exact digits_c N' (by omega)
 have d4 : ACalls Tryz.prog G 79 [.int .u64 (IntKind.u64.wrap (D' : Int))] (digA (digW D')) := by rw [w_wrap D' (by omega)]; exact digits_c D' (by omega)
 have o1 := digW_ok (a := N) (by omega)
 have o2 := digW_ok (a := D) (by omega)
 have o3 := digW_ok (a := N') (by omega)
 have o4 := digW_ok (a := D') (by omega)
 have v1 := val_digW (a := N) (by omega)
 have v2 := val_digW (a := D) (by omega)
 have v3 := val_digW (a := N') (by omega)
 have v4 := val_digW (a := D') (by omega)
 have t1 := times_c (G := G) (digW N) (digW D') o1 o4 (by rw [digW_len]; omega) (by rw [digW_len]; omega)
 have t2 := times_c (G := G) (digW N') (digW D) o3 o2 (by rw [digW_len]; omega) (by rw [digW_len]; omega)
 have l1 := timesL_val o1 o4
 have l2 := timesL_val o3 o2
 have k := less_c (G := G) (timesL (digW N) (digW D')) (timesL (digW N') (digW D)) (timesL_ok o1 o4) (timesL_ok o3 o2) (by rw [timesL_len, digW_len, digW_len]; omega) (by rw [timesL_len, digW_len, digW_len]; omega)
 rw [l1, l2, v1, v2, v3, v4] at k
 clear l1 l2 v1 v2 v3 v4 o1 o2 o3 o4
 generalize timesL (digW N) (digW D') = T1 at *
 generalize timesL (digW N') (digW D) = T2 at *
 generalize digW N = G1 at *
 generalize digW D = G2 at *
 generalize digW N' = G3 at *
 generalize digW D' = G4 at *
 obtain ⟨bb, hbb⟩ : ∃ bb, bb = decide (N * D' < N' * D) := ⟨_, rfl⟩
 rw [← hbb] at k
 refine ACalls.of_WA ttok Tryz.func33 rfl rfl _ rfl ?_
 conv => whnf
 repeat' (first | refine sq ?_ | refine bk ?_ | ((first | refine rg ttok ?_ | refine dw ttok mixed ?_ | refine cd ?_ | refine sk ?_ | refine xt ?_ | refine rt ?_); conv => whnf) | (refine And.intro (fun h => ?_) (fun h => ?_) <;> (try simp only [brsA] at h) <;> conv => whnf) | (refine Or.inl ?_; (conv => whnf); (first | refine ⟨_, d1, ?_⟩ | refine ⟨_, d2, ?_⟩ | refine ⟨_, d3, ?_⟩ | refine ⟨_, d4, ?_⟩ | refine ⟨_, t1, ?_⟩ | refine ⟨_, t2, ?_⟩ | refine ⟨_, k, ?_⟩); conv => whnf) | ((first | refine wf ?_ | refine wp' ?_ | refine ai ?_ | refine And.intro rfl ?_ | refine an ?_ | fail); conv => whnf))
 all_goals first | contradiction | exact hbb | trace_state
theorem put_row (l : List Cu) (c : Cu) (a : Nat) (ha : a ≤ l.length) (r0 r1 rC : Nat → List A) (hc : rC 0 = eCu c) : ∀ i, i < 0 + (a - 0) + 1 + (0 + (l.length - a)) →
  rowCat (0 + (a - 0) + 1) (rowCat (0 + (a - 0)) (rowCat 0 r0 (fun i => rowU l (0 + i))) rC) (rowCat 0 r1 (fun i => rowU l (a + i))) i = rowU (l.take a ++ c :: l.drop a) i := by
 intro i hi
 have lt : ∀ (n : Nat) (f g : Nat → List A) (k : Nat), k < n → rowCat n f g k = f k := fun n f g k h => by unfold rowCat; rw [show Nat.blt k n = true from Nat.ble_eq_true_of_le h]
 have ge : ∀ (n : Nat) (f g : Nat → List A) (k : Nat), n ≤ k → rowCat n f g k = g (k - n) := fun n f g k h => by
  unfold rowCat
  split
  ·rename_i h'
   have : k < n := Nat.le_of_ble_eq_true h'
   omega
  ·rfl
 have hl : (l.take a).length = a := by rw [List.length_take]; omega
 unfold rowU
 rcases Nat.lt_trichotomy i a with h | h | h
 ·rw [lt _ _ _ _ (by omega), lt _ _ _ _ (by omega), ge _ _ _ _ (by omega)]
  rw [List.getD_eq_getElem?_getD, List.getD_eq_getElem?_getD, List.getElem?_append_left (by omega), List.getElem?_take, if_pos h]
  simp
 ·subst h
  rw [lt _ _ _ _ (by omega), ge _ _ _ _ (by omega)]
  rw [List.getD_eq_getElem?_getD, List.getElem?_append_right (by omega), hl]
  simp [hc]
 ·rw [ge _ _ _ _ (by omega), ge _ _ _ _ (by omega)]
  rw [List.getD_eq_getElem?_getD, List.getD_eq_getElem?_getD, List.getElem?_append_right (by omega), hl]
  have e : i - a = (i - (a + 1)) + 1 := by omega
  rw [e, List.getElem?_cons_succ, List.getElem?_drop]
  simp
set_option maxRecDepth 100000 in
set_option maxHeartbeats 2000000 in
theorem cput_c (l : List Cu) (c : Cu) (hl : l.length ≤ 1000) : ACalls Tryz.prog G 82 [cutsA l, .agg (eCu c)] (cutsA (putL ltU l c)) := by
 refine ACalls.of_WA ttok Tryz.func82 rfl rfl _ rfl ?_
 conv => whnf
 repeat (first | refine sq ?_ | refine bk ?_ | ((first | refine rg ttok ?_ | refine dw ttok mixed ?_ | refine cd ?_ | refine sk ?_ | refine xt ?_ | refine rt ?_); conv => whnf))
 refine WA_loopI (fun i : Nat => i ≤ l.length ∧ ∀ j, j < i → l.getD j default ≠ c) (fun i => [(6, .int .i64 (i : Int)), (5, .int .i64 (atK ltU l c i : Nat))]) (fun _ => [.box 58 (eCu c)]) (fun i => l.length - i) 0 ⟨Nat.zero_le _, fun _ h => absurd h (Nat.not_lt_zero _)⟩ ?_ ?_
 ·conv => whnf
  repeat (first | exact fa | ((first | refine fb ?_ | (refine And.intro ?_ ?_; rotate_left)); conv => whnf))
 ·rintro i ⟨hi, hne⟩
  have ha := cahead_c (G := G) (l.getD i default) c
  conv => whnf
  repeat' (first | refine sq ?_ | refine bk ?_ | ((first | refine rg ttok ?_ | refine dw ttok mixed ?_ | refine cd ?_ | refine sk ?_ | refine xt ?_ | refine rt ?_); conv => whnf) | (refine And.intro (fun h => ?_) (fun h => ?_) <;> (try simp only [brsA] at h) <;> conv => whnf) | (refine Or.inl ?_; (conv => whnf); refine ⟨_, ha, ?_⟩; conv => whnf) | ((first | refine wf ?_ | refine wp' ?_ | refine ai ?_ | refine And.intro rfl ?_ | refine an ?_ | fail); conv => whnf))
  ·have hx : (l.getD i default).1 = c.1 := of_decide_eq_true ((ct_eqb (l.getD i default).1 c.1).symm.trans h)
   have hx : l.getD i default = c := Subtype.ext hx
   have hlt : i < l.length := by omega
   have e : putL ltU l c = l := by
    unfold putL
    rw [if_pos (by rw [← hx, List.getD_eq_getElem?_getD, List.getElem?_eq_getElem hlt]; exact List.getElem_mem _)]
   rw [e]
   exact ⟨rfl, Or.inl fun _ _ => rfl⟩
  ·have hx : l.getD i default ≠ c := fun e => by
    have e1 : (l.getD i default).1 = c.1 := by rw [e]
    refine Bool.noConfusion (show false = true from Eq.trans (Eq.symm ?_) ((ct_eqb (l.getD i default).1 c.1).trans (decide_eq_true e1)))
    assumption
   have ea : atK ltU l c (i + 1) = i + 1 := by unfold atK; rw [if_pos h]
   refine ⟨i + 1, ⟨(by show i + 1 ≤ l.length; omega), fun j hj => ?_⟩, (by show l.length - (i + 1) < l.length - i; omega), ?_⟩
   ·rcases Nat.lt_or_ge j i with q | q
    ·exact hne j q
    ·have : j = i := by omega
     subst this; exact hx
   ·conv => whnf
    repeat (first | exact fa | ((first | refine fb ?_ | (refine And.intro ?_ ?_; rotate_left)); conv => whnf))
    all_goals (rw [ea]; omega)
  ·have hx : l.getD i default ≠ c := fun e => by
    have e1 : (l.getD i default).1 = c.1 := by rw [e]
    refine Bool.noConfusion (show false = true from Eq.trans (Eq.symm ?_) ((ct_eqb (l.getD i default).1 c.1).trans (decide_eq_true e1)))
    assumption
   have ea : atK ltU l c (i + 1) = atK ltU l c i := by show (if _ then _ else _) = _; rw [if_neg h]
   refine ⟨i + 1, ⟨(by show i + 1 ≤ l.length; omega), fun j hj => ?_⟩, (by show l.length - (i + 1) < l.length - i; omega), ?_⟩
   ·rcases Nat.lt_or_ge j i with q | q
    ·exact hne j q
    ·have : j = i := by omega
     subst this; exact hx
   ·conv => whnf
    repeat (first | exact fa | ((first | refine fb ?_ | (refine And.intro ?_ ?_; rotate_left)); conv => whnf))
    all_goals rw [ea]
  ·have e : i = l.length := by omega
   subst e
   have hle := atK_le (R := ltU) l c l.length
   have hnm : c ∉ l := fun hm => by
    obtain ⟨j, hj, e⟩ := List.getElem_of_mem hm
    exact hne j hj (by rw [List.getD_eq_getElem?_getD, List.getElem?_eq_getElem hj]; exact e)
   have ep : putL ltU l c = l.take (atK ltU l c l.length) ++ c :: l.drop (atK ltU l c l.length) := by unfold putL; rw [if_neg hnm]
   rw [ep]
   generalize atK ltU l c l.length = a at *
   repeat' (first | refine sq ?_ | refine bk ?_ | ((first | refine rg ttok ?_ | refine dw ttok mixed ?_ | refine cd ?_ | refine sk ?_ | refine xt ?_ | refine rt ?_); conv => whnf) | (refine And.intro (fun h => ?_) (fun h => ?_) <;> (try simp only [brsA] at h) <;> conv => whnf) | ((first | refine wf ?_ | refine wp' ?_ | refine ai ?_ | refine And.intro rfl ?_ | refine an ?_ | fail); conv => whnf))
   all_goals first | exact Or.inl (put_row l c a hle _ _ _ rfl) | (simp; omega) | trace_state
set_option maxRecDepth 100000 in
set_option maxHeartbeats 1000000 in
theorem csame_c (l : List Cu) (hl : l.length ≤ 1000000) : ACalls Tryz.prog G 38 [cutsA l, cutsA l] (.sb true) := by
 refine ACalls.of_WA ttok Tryz.func38 rfl rfl _ rfl ?_
 conv => whnf
 repeat' (first | refine sq ?_ | refine bk ?_ | ((first | refine rg ttok ?_ | refine dw ttok mixed ?_ | refine cd ?_ | refine sk ?_ | refine xt ?_ | refine rt ?_); conv => whnf) | (refine And.intro (fun h => ?_) (fun h => ?_) <;> (try simp only [brsA] at h) <;> conv => whnf) | ((first | refine wf ?_ | refine wp' ?_ | refine ai ?_ | refine And.intro rfl ?_ | refine an ?_ | fail); conv => whnf))
 all_goals first | contradiction | (exfalso; omega) | skip
 refine WA_loopI (fun i : Nat => i ≤ l.length) (fun i => [(5, .int .i64 (i : Int))]) (fun _ => []) (fun i => l.length - i) 0 (Nat.zero_le _) ?_ ?_
 ·conv => whnf
  repeat (first | exact fa | ((first | refine fb ?_ | (refine And.intro ?_ ?_; rotate_left)); conv => whnf))
 ·intro i hi
  conv => whnf
  repeat' (first | refine sq ?_ | refine bk ?_ | ((first | refine rg ttok ?_ | refine dw ttok mixed ?_ | refine cd ?_ | refine sk ?_ | refine xt ?_ | refine rt ?_); conv => whnf) | (refine And.intro (fun h => ?_) (fun h => ?_) <;> (try simp only [brsA] at h) <;> conv => whnf) | ((first | refine wf ?_ | refine wp' ?_ | refine ai ?_ | refine And.intro rfl ?_ | refine an ?_ | fail); conv => whnf))
  ·exfalso
   simp at h
  ·refine ⟨i + 1, (by show i + 1 ≤ l.length; omega), (by show l.length - (i + 1) < l.length - i; omega), ?_⟩
   conv => whnf
   repeat (first | exact fa | ((first | refine fb ?_ | (refine And.intro ?_ ?_; rotate_left)); conv => whnf))
end Go.Proofs.YtcomiiakkhafpaaGreat
namespace Go.Proofs.YtcomiiakkhafpaaGreat
open Go.Proofs.YtcomiiakkhafpaaGreat.Am Go.Sort Go.Proofs Go.Lib
variable [Inhabited DRT]
/-! ### The cuts of one line are told by their parts; both ways lead to the same cuts -/
theorem low_cop (n d : Int) : Nat.gcd (lowN n d).toNat (lowD n d).toNat = 1 := by
 unfold lowN lowD
 by_cases h : BadP n d
 ·rw [if_pos h, if_pos h]; rfl
 ·rw [if_neg h, if_neg h, Int.toNat_natCast, Int.toNat_natCast]
  have hp : 0 < gP n d := Nat.gcd_pos_of_pos_right _ (by unfold BadP at h; omega)
  exact Nat.coprime_iff_gcd_eq_one.1 (Nat.coprime_div_gcd_div_gcd hp)
theorem frac_eq {a b c d : Nat} (h1 : Nat.gcd a b = 1) (h2 : Nat.gcd c d = 1) (h : a * d = c * b) : a = c ∧ b = d := by
 have e1 : b ∣ d := by
  have : b ∣ d * a := ⟨c, by rw [Nat.mul_comm d a, h, Nat.mul_comm]⟩
  exact Nat.Coprime.dvd_of_dvd_mul_right (show Nat.Coprime b a by rw [Nat.coprime_iff_gcd_eq_one, Nat.gcd_comm]; exact h1) this
 have e2 : d ∣ b := by
  have : d ∣ b * c := ⟨a, by rw [Nat.mul_comm b c, ← h, Nat.mul_comm]⟩
  exact Nat.Coprime.dvd_of_dvd_mul_right (show Nat.Coprime d c by rw [Nat.coprime_iff_gcd_eq_one, Nat.gcd_comm]; exact h2) this
 have e := Nat.dvd_antisymm e1 e2
 subst e
 refine ⟨?_, rfl⟩
 rcases Nat.eq_zero_or_pos b with hb | hb
 ·subst hb
  rw [Nat.gcd_zero_right] at h1 h2
  omega
 ·exact Nat.eq_of_mul_eq_mul_right hb h
def OfS (s : Sg) (c : Cu) : Prop := ∃ n d, d ≤ 9223372036854775807 ∧ c = mkC s n d
theorem mk_low {s : Sg} {n d n' d' : Int} (h : d ≤ 9223372036854775807) (h' : d' ≤ 9223372036854775807) (e1 : lowN n d = lowN n' d') (e2 : lowD n d = lowD n' d') : mkC s n d = mkC s n' d' := by
 apply Subtype.ext
 rw [mkC_val h, mkC_val h']
 unfold mkT
 rw [e1, e2]
theorem ofS_eq {s : Sg} {a b : Cu} (ha : OfS s a) (hb : OfS s b) (h1 : ¬ ltU a b) (h2 : ¬ ltU b a) : a = b := by
 obtain ⟨n, d, hd, rfl⟩ := ha
 obtain ⟨n', d', hd', rfl⟩ := hb
 unfold ltU prU at h1 h2
 rw [mkC_val hd, mkC_val hd'] at h1 h2
 simp only [mkT, ctS] at h1 h2
 obtain ⟨a1, a2, a3, a4⟩ := low_ok n d hd
 obtain ⟨b1, b2, b3, b4⟩ := low_ok n' d' hd'
 obtain ⟨e1, e2⟩ := frac_eq (low_cop n d) (low_cop n' d') (by omega)
 exact mk_low hd hd' (by omega) (by omega)
theorem byL_of (s t : Sg) : ∀ x ∈ byL s t, OfS s x := by
 intro x hx
 unfold byL at hx
 split at hx
 ·rename_i hk
  obtain ⟨_, _, _, _, _, _, hd, _⟩ := same_place s t hk
  rw [List.mem_singleton.1 hx]
  exact ⟨_, _, hd, rfl⟩
 ·split at hx
  ·simp only [List.mem_cons, List.not_mem_nil, or_false] at hx
   rcases hx with rfl | rfl
   ·exact ⟨_, _, dotF_max _ _ _, rfl⟩
   ·exact ⟨_, _, dotF_max _ _ _, rfl⟩
  ·cases hx
theorem ends_of (s : Sg) : ∀ x ∈ endsL' s, OfS s x := by
 intro x hx
 unfold endsL' at hx
 simp only [List.mem_cons, List.not_mem_nil, or_false] at hx
 rcases hx with rfl | rfl
 ·exact ⟨0, 1, by omega, rfl⟩
 ·exact ⟨1, 1, by omega, rfl⟩
theorem ends_lt (s : Sg) : ltU (mkC s 0 1) (mkC s 1 1) := by
 unfold ltU prU
 rw [mkC_val (by omega), mkC_val (by omega)]
 simp only [mkT, ctS]
 decide
theorem ltU_irr (a : Cu) : ¬ ltU a a := by unfold ltU; omega
theorem ltU_asy (a b : Cu) (h1 : ltU a b) (h2 : ltU b a) : False := by unfold ltU at *; omega
theorem ends_strict (s : Sg) : (endsL' s).Pairwise ltU := by
 unfold endsL'
 refine List.pairwise_cons.2 ⟨fun x hx => ?_, by simp⟩
 rw [List.mem_singleton.1 hx]
 exact ends_lt s
/-- What is sorted, each once: strict, the same cuts. -/
theorem srtU_strict {s : Sg} (L : List Cu) (h : ∀ x ∈ L, OfS s x) : (srtU L).Pairwise ltU ∧ ∀ x, x ∈ srtU L ↔ x ∈ L := by
 obtain ⟨hp, hs⟩ := srt_facts cfU swo_cu L
 have hlen := hp.length_eq
 have hm : ∀ x ∈ srt cfU L, OfS s x := fun x hx => h x (hp.mem_iff.1 hx)
 obtain ⟨c1, c2⟩ := compact_strict (R := ltU) (srt cfU L) ltU_trans (fun i j hij hj hr => by
  have := hs i j hij (by omega)
  rw [(cfU_lt _ _).2 hr] at this
  exact Bool.noConfusion this) (fun x hx y hy => ofS_eq (hm x hx) (hm y hy)) (srt cfU L).length (Nat.le_refl _)
 refine ⟨c1, fun x => ?_⟩
 show x ∈ compactUpTo _ _ ↔ _
 rw [c2, ← hp.mem_iff]
 constructor
 ·rintro ⟨i, hi, rfl⟩
  rw [List.getD_eq_getElem?_getD, List.getElem?_eq_getElem hi]; exact List.getElem_mem _
 ·intro hx
  obtain ⟨i, hi, e⟩ := List.getElem_of_mem hx
  exact ⟨i, hi, by rw [List.getD_eq_getElem?_getD, List.getElem?_eq_getElem hi]; exact e⟩
theorem fold_put {s : Sg} : ∀ (M L : List Cu), L.Pairwise ltU → (∀ x ∈ L, OfS s x) → (∀ x ∈ M, OfS s x) → (M.foldl (putL ltU) L).Pairwise ltU ∧ (∀ x, x ∈ M.foldl (putL ltU) L ↔ x ∈ L ∨ x ∈ M)
 | [], L, h, _, _ => ⟨h, fun x => by simp⟩
 | c :: M, L, h, hL, hM => by
  have hc := hM c (List.mem_cons_self ..)
  obtain ⟨p1, p2⟩ := put_strict ltU_trans L c h (fun x hx => ofS_eq (hL x hx) hc)
  have hL' : ∀ x ∈ putL ltU L c, OfS s x := fun x hx => by
   rcases (p2 x).1 hx with rfl | h
   ·exact hc
   ·exact hL x h
  obtain ⟨q1, q2⟩ := fold_put M (putL ltU L c) p1 hL' (fun x hx => hM x (List.mem_cons_of_mem _ hx))
  refine ⟨q1, fun x => ?_⟩
  rw [List.foldl_cons, q2, p2, List.mem_cons]
  constructor
  ·rintro ((h | h) | h)
   ·exact .inr (.inl h)
   ·exact .inl h
   ·exact .inr (.inr h)
  ·rintro (h | h | h)
   ·exact .inl (.inr h)
   ·exact .inl (.inl h)
   ·exact .inr h
def rOneK (s : Sg) (l : List Sg) (but : Int) : Nat → List Cu
 | 0 => endsL' s
 | k + 1 => if (k : Int) = but then rOneK s l but k else (byL s (l.getD k default)).foldl (putL ltU) (rOneK s l but k)
theorem rOneK_strict (s : Sg) (l : List Sg) (but : Int) : ∀ k, (rOneK s l but k).Pairwise ltU ∧ (∀ x ∈ rOneK s l but k, OfS s x) ∧ ∀ x, x ∈ rOneK s l but k ↔ x ∈ endsL' s ∨ ∃ j, j < k ∧ (j : Int) ≠ but ∧ x ∈ byL s (l.getD j default)
 | 0 => ⟨ends_strict s, ends_of s, fun x => by simp [rOneK]⟩
 | k + 1 => by
  obtain ⟨h1, h2, h3⟩ := rOneK_strict s l but k
  unfold rOneK
  by_cases hk : (k : Int) = but
  ·rw [if_pos hk]
   refine ⟨h1, h2, fun x => ?_⟩
   rw [h3]
   constructor
   ·rintro (h | ⟨j, a, b, c⟩)
    ·exact .inl h
    ·exact .inr ⟨j, by omega, b, c⟩
   ·rintro (h | ⟨j, a, b, c⟩)
    ·exact .inl h
    ·exact .inr ⟨j, by omega, b, c⟩
  ·rw [if_neg hk]
   obtain ⟨q1, q2⟩ := fold_put (byL s (l.getD k default)) _ h1 h2 (byL_of s _)
   refine ⟨q1, fun x hx => ?_, fun x => ?_⟩
   ·rcases (q2 x).1 hx with h | h
    ·exact h2 x h
    ·exact byL_of s _ x h
   ·rw [q2, h3]
    constructor
    ·rintro ((h | ⟨j, a, b, c⟩) | h)
     ·exact .inl h
     ·exact .inr ⟨j, by omega, b, c⟩
     ·exact .inr ⟨k, by omega, hk, h⟩
    ·rintro (h | ⟨j, a, b, c⟩)
     ·exact .inl (.inl h)
     ·rcases Nat.lt_or_ge j k with q | q
      ·exact .inl (.inr ⟨j, q, b, c⟩)
      ·have : j = k := by omega
       subst this; exact .inr c
theorem oneK_mem (s : Sg) (l : List Sg) (x : Cu) : ∀ k, x ∈ oneK s l k ↔ x ∈ endsL' s ∨ ∃ j, j < k ∧ x ∈ byL s (l.getD j default)
 | 0 => by simp [oneK]
 | k + 1 => by
  rw [oneK, List.mem_append, oneK_mem s l x k]
  constructor
  ·rintro ((h | ⟨j, a, c⟩) | h)
   ·exact .inl h
   ·exact .inr ⟨j, by omega, c⟩
   ·exact .inr ⟨k, by omega, h⟩
  ·rintro (h | ⟨j, a, c⟩)
   ·exact .inl (.inl h)
   ·rcases Nat.lt_or_ge j k with q | q
    ·exact .inl (.inr ⟨j, q, c⟩)
    ·have : j = k := by omega
     subst this; exact .inr c
theorem one_eq (s : Sg) (l : List Sg) : srtU (oneK s l l.length) = rOneK s l (-1) l.length := by
 have hof : ∀ x ∈ oneK s l l.length, OfS s x := fun x hx => by
  rcases (oneK_mem s l x _).1 hx with h | ⟨j, _, h⟩
  ·exact ends_of s x h
  ·exact byL_of s _ x h
 obtain ⟨a1, a2⟩ := srtU_strict _ hof
 obtain ⟨b1, _, b2⟩ := rOneK_strict s l (-1) l.length
 refine strict_eq ltU_irr ltU_asy _ _ a1 b1 fun x => ?_
 rw [a2, b2, oneK_mem]
 constructor
 ·rintro (h | ⟨j, a, c⟩)
  ·exact .inl h
  ·exact .inr ⟨j, a, by omega, c⟩
 ·rintro (h | ⟨j, a, _, c⟩)
  ·exact .inl h
  ·exact .inr ⟨j, a, c⟩
theorem stO1_mem (l : List Sg) (O : Nat → List Cu) (a b i : Nat) (x : Cu) : x ∈ stO1 l O a b i ↔ x ∈ O i ∨ (i = a ∧ x ∈ byL (l.getD a default) (l.getD b default)) := by
 unfold stO1 updN
 by_cases h : i = a
 ·subst h
  rw [if_pos rfl, List.mem_append]
  simp
 ·rw [if_neg h]
  simp [h]
theorem ofK_mem (l : List Sg) (i : Nat) (x : Cu) : ∀ k, k ≤ (refR l).length → (x ∈ ofK l k i ↔ x ∈ endsL' (l.getD i default) ∨ ∃ j m : Nat, j < k ∧ ((refR l).getD j default = ⟨i, m⟩ ∨ (refR l).getD j default = ⟨m, i⟩) ∧ x ∈ byL (l.getD i default) (l.getD m default))
 | 0, _ => by simp [ofK, endsF]
 | k + 1, h => by
  obtain ⟨a, b, e, hab, hb⟩ := refR_get l k (by omega)
  unfold ofK stO
  rw [e]
  simp only [Int.toNat_natCast]
  rw [stO1_mem, stO1_mem, ofK_mem l i x k (by omega)]
  constructor
  ·rintro (((h | ⟨j, m, h1, h2, h3⟩) | ⟨rfl, h⟩) | ⟨rfl, h⟩)
   ·exact .inl h
   ·exact .inr ⟨j, m, by omega, h2, h3⟩
   ·exact .inr ⟨k, b, by omega, .inl e, h⟩
   ·exact .inr ⟨k, a, by omega, .inr e, h⟩
  ·rintro (h | ⟨j, m, h1, h2, h3⟩)
   ·exact .inl (.inl (.inl h))
   ·rcases Nat.lt_or_ge j k with q | q
    ·exact .inl (.inl (.inr ⟨j, m, q, h2, h3⟩))
    ·have : j = k := by omega
     subst this
     rw [e] at h2
     simp only [Pr.mk.injEq, Int.natCast_inj] at h2
     rcases h2 with ⟨rfl, rfl⟩ | ⟨rfl, rfl⟩
     ·exact .inl (.inr ⟨rfl, h3⟩)
     ·exact .inr ⟨rfl, h3⟩
theorem near_comm {s t : Sg} (h : NearP s t) : NearP t s := ⟨h.2.1, h.1, h.2.2.2, h.2.2.1⟩
theorem byL_near {s t : Sg} {x : Cu} (h : x ∈ byL s t) : NearP s t := by
 refine touch_near ((meet_touch s t).1 fun h0 => ?_)
 unfold byL at h
 rw [if_neg (by omega), if_neg (by omega)] at h
 cases h
theorem of_eq (l : List Sg) (i : Nat) (hi : i < l.length) : ofF l i = rOneK (l.getD i default) l i l.length := by
 have hof : ∀ x ∈ ofK l (refR l).length i, OfS (l.getD i default) x := fun x hx => by
  rcases (ofK_mem l i x _ (Nat.le_refl _)).1 hx with h | ⟨_, _, _, _, h⟩
  ·exact ends_of _ x h
  ·exact byL_of _ _ x h
 obtain ⟨a1, a2⟩ := srtU_strict _ hof
 obtain ⟨b1, _, b2⟩ := rOneK_strict (l.getD i default) l i l.length
 refine strict_eq ltU_irr ltU_asy _ _ a1 b1 fun x => ?_
 unfold ofF
 rw [a2, b2, ofK_mem l i x _ (Nat.le_refl _)]
 constructor
 ·rintro (h | ⟨j, m, h1, h2, h3⟩)
  ·exact .inl h
  ·obtain ⟨a, b, e, hab, hb⟩ := refR_get l j h1
   rw [e] at h2
   simp only [Pr.mk.injEq, Int.natCast_inj] at h2
   exact .inr ⟨m, by omega, by omega, h3⟩
 ·rintro (h | ⟨m, h1, h2, h3⟩)
  ·exact .inl h
  ·refine .inr ?_
   have hn := byL_near h3
   have key : ∀ a b : Nat, a < b → b < l.length → NearP (l.getD a default) (l.getD b default) → ∃ j, j < (refR l).length ∧ (refR l).getD j default = ⟨a, b⟩ := fun a b hab hb hnr => by
    have hm : (⟨a, b⟩ : Pr) ∈ refR l := by
     unfold refR
     exact (allR_mem l _ _ _).2 ⟨a, Nat.zero_le _, by omega, (rowR_mem l a _ _ _).2 ⟨b, by omega, by omega, hnr, rfl⟩⟩
    obtain ⟨j, hj, e⟩ := List.getElem_of_mem hm
    exact ⟨j, hj, by rw [List.getD_eq_getElem?_getD, List.getElem?_eq_getElem hj]; exact e⟩
   rcases Nat.lt_or_ge i m with q | q
   ·obtain ⟨j, hj, e⟩ := key i m q h1 hn
    exact ⟨j, m, hj, .inl e, h3⟩
   ·obtain ⟨j, hj, e⟩ := key m i (by omega) hi (near_comm hn)
    exact ⟨j, m, hj, .inr e, h3⟩
end Go.Proofs.YtcomiiakkhafpaaGreat
namespace Go.Proofs.YtcomiiakkhafpaaGreat
open Go.Proofs.YtcomiiakkhafpaaGreat.Am Go.Sort Go.Proofs Go.Lib
variable [Inhabited DRT]
/-! ### Where a cut lies: plain laws -/
theorem gg_scale (x y : Int) (w g : Nat) : gg (x * g) (y * g) (w * g) = gg x y w * g := by
 unfold gg
 rw [Int.natAbs_mul, Int.natAbs_mul, Int.natAbs_natCast, Nat.gcd_mul_right, Nat.gcd_mul_right]
theorem qz_scale (x : Int) (G g : Nat) (hg : 0 < g) : qz (x * g) (G * g) = qz x G := by
 have e : (x * (g : Int)).natAbs / (G * g) = x.natAbs / G := by
  rw [Int.natAbs_mul, Int.natAbs_natCast, Nat.mul_div_mul_right _ _ hg]
 have hs : x * (g : Int) < 0 ↔ x < 0 := by
  constructor
  ·intro h
   refine Classical.byContradiction fun hn => ?_
   have := Int.mul_nonneg (show 0 ≤ x by omega) (show (0 : Int) ≤ g by omega)
   omega
  ·intro h
   exact Int.mul_neg_of_neg_of_pos h (by omega)
 unfold qz
 rw [e]
 by_cases h : x < 0
 ·rw [if_pos h, if_pos (hs.2 h)]
 ·rw [if_neg h, if_neg (fun q => h (hs.1 q))]
theorem low_scale3 (x y : Int) (w g : Nat) (hg : 0 < g) : lowA (x * g) (y * g) (w * g) = lowA x y w := by
 unfold lowA
 rw [gg_scale, qz_scale _ _ _ hg, qz_scale _ _ _ hg, Nat.mul_div_mul_right _ _ hg]
theorem parts_mul {n d : Int} (h : 0 ≤ n ∧ n ≤ d ∧ 1 ≤ d) : ∃ g : Nat, 0 < g ∧ n = lowN n d * g ∧ d = lowD n d * g := by
 have hB : ¬ BadP n d := by unfold BadP; omega
 unfold lowN lowD
 rw [if_neg hB, if_neg hB]
 have hp : 0 < gP n d := Nat.gcd_pos_of_pos_right _ (by omega)
 refine ⟨gP n d, hp, ?_, ?_⟩
 ·have e := Nat.div_mul_cancel (show gP n d ∣ n.toNat from Nat.gcd_dvd_left _ _)
  rw [← Int.natCast_mul, e]; omega
 ·have e := Nat.div_mul_cancel (show gP n d ∣ d.toNat from Nat.gcd_dvd_right _ _)
  rw [← Int.natCast_mul, e]; omega
theorem xS_mul (s : Sg) (n d g : Int) : xS s (n * g) (d * g) = xS s n d * g := by unfold xS; grind
theorem yS_mul (s : Sg) (n d g : Int) : yS s (n * g) (d * g) = yS s n d * g := by unfold yS; grind
/-- The spot of a cut of parts that may be. -/
theorem spot_mk {s : Sg} {n d : Int} (h : 0 ≤ n ∧ n ≤ d ∧ 1 ≤ d) (hd : d ≤ 9223372036854775807) : A.agg (spL (mkC s n d).1) = lowA (xS s n d) (yS s n d) d.toNat := by
 rw [mkC_val hd]
 obtain ⟨g, hg, e1, e2⟩ := parts_mul h
 have e3 : A.agg (spL (mkT s n d)) = lowA (xS s (lowN n d) (lowD n d)) (yS s (lowN n d) (lowD n d)) (lowD n d).toNat := rfl
 rw [e3]
 have hl := low_ok n d hd
 have e4 : d.toNat = (lowD n d).toNat * g := by
  have : ((lowD n d).toNat : Int) = lowD n d := by omega
  have h2 : (d.toNat : Int) = ((lowD n d).toNat : Int) * g := by rw [this, ← e2]; omega
  exact_mod_cast h2
 have ex : xS s n d = xS s (lowN n d) (lowD n d) * g := by rw [← xS_mul, ← e1, ← e2]
 have ey : yS s n d = yS s (lowN n d) (lowD n d) * g := by rw [← yS_mul, ← e1, ← e2]
 rw [e4, ex, ey, low_scale3 _ _ _ _ hg]
theorem low_1 {x y : Int} (hx : In29 x) (hy : In29 y) : lowA x y 1 = spotA x y 1 := low_norm (norm_pt hx hy)
theorem on_x (ux uy vx vy : Int) (h : ux * vy - uy * vx = 0) : ux * (ux * vx + uy * vy) = vx * (ux * ux + uy * uy) := by grind
theorem on_y (ux uy vx vy : Int) (h : ux * vy - uy * vx = 0) : uy * (ux * vx + uy * vy) = vy * (ux * ux + uy * uy) := by grind
theorem on_place {s : Sg} {p : Pt} (h : OnP s p) : xS s (dotP s.a s.b p) (dotP s.a s.b s.b) = p.x * dotP s.a s.b s.b ∧ yS s (dotP s.a s.b p) (dotP s.a s.b s.b) = p.y * dotP s.a s.b s.b := by
 have hc := h.2.2.1
 have ex := on_x (s.b.x - s.a.x) (s.b.y - s.a.y) (p.x - s.a.x) (p.y - s.a.y) hc
 have ey := on_y (s.b.x - s.a.x) (s.b.y - s.a.y) (p.x - s.a.x) (p.y - s.a.y) hc
 have ex : (s.b.x - s.a.x) * dotP s.a s.b p = (p.x - s.a.x) * dotP s.a s.b s.b := ex
 have ey : (s.b.y - s.a.y) * dotP s.a s.b p = (p.y - s.a.y) * dotP s.a s.b s.b := ey
 unfold xS yS
 rw [ex, ey, Int.sub_mul, Int.sub_mul]
 omega
/-- The spot of a point that is on the line. -/
theorem spot_at {s : Sg} {p : Pt} (h : OnP s p) : A.agg (spL (atC s p).1) = spotA p.x p.y 1 := by
 have hp := len_pos h.1
 have d1 := dotF_eq (All3_line h.1 h.2.1)
 have d2 := dotF_eq (All3_line h.1 h.1.2.1)
 obtain ⟨ex, ey⟩ := on_place h
 have hm := dotF_max s.a s.b s.b
 unfold atC
 rw [d1, d2] at *
 rw [spot_mk ⟨h.2.2.2.1, h.2.2.2.2, Int.add_one_le_of_lt hp⟩ hm, ex, ey]
 obtain ⟨f, hf⟩ : ∃ f : Nat, dotP s.a s.b s.b = f := ⟨(dotP s.a s.b s.b).toNat, (Int.toNat_of_nonneg (Int.le_of_lt hp)).symm⟩
 rw [hf] at hp ⊢
 have := low_scale3 p.x p.y 1 f (Int.ofNat_lt.1 hp)
 rw [Nat.one_mul] at this
 rw [Int.toNat_natCast, this]
 exact low_1 h.2.1.1 h.2.1.2
/-! The first and the last cut. -/
theorem getD_at {L : List Cu} {i : Nat} (h : i < L.length) : L.getD i default = L[i] := by rw [List.getD_eq_getElem?_getD, List.getElem?_eq_getElem h]; rfl
end Go.Proofs.YtcomiiakkhafpaaGreat
namespace Go.Proofs.YtcomiiakkhafpaaGreat
open Go.Proofs.YtcomiiakkhafpaaGreat.Am Go.Sort Go.Proofs Go.Lib
variable [Inhabited DRT]
/-! ### Lines that are turned about the origin: plain laws -/
/-- A quarter: (x, y) to (u x - v y, v x + u y). -/
structure Qt where
 u : Int
 v : Int
def QtP (q : Qt) : Prop := (q.u = 1 ∧ q.v = 0) ∨ (q.u = 0 ∧ q.v = 1) ∨ (q.u = -1 ∧ q.v = 0) ∨ (q.u = 0 ∧ q.v = -1)
def tP (q : Qt) (p : Pt) : Pt := ⟨q.u * p.x - q.v * p.y, q.v * p.x + q.u * p.y⟩
def tS (q : Qt) (s : Sg) : Sg := ⟨tP q s.a, tP q s.b⟩
theorem qt_cases {q : Qt} (h : QtP q) (p : Pt) : tP q p = ⟨p.x, p.y⟩ ∨ tP q p = ⟨-p.y, p.x⟩ ∨ tP q p = ⟨-p.x, -p.y⟩ ∨ tP q p = ⟨p.y, -p.x⟩ := by
 unfold tP
 rcases h with ⟨h1, h2⟩ | ⟨h1, h2⟩ | ⟨h1, h2⟩ | ⟨h1, h2⟩ <;> rw [h1, h2]
 ·exact .inl (by simp)
 ·exact .inr (.inl (by simp))
 ·exact .inr (.inr (.inl (by simp)))
 ·exact .inr (.inr (.inr (by simp)))
theorem qt_one {q : Qt} (h : QtP q) : q.u * q.u + q.v * q.v = 1 := by
 rcases h with ⟨h1, h2⟩ | ⟨h1, h2⟩ | ⟨h1, h2⟩ | ⟨h1, h2⟩ <;> rw [h1, h2] <;> rfl
theorem t_may {q : Qt} (h : QtP q) (p : Pt) : MayPt (tP q p) ↔ MayPt p := by
 unfold MayPt In29
 rcases qt_cases h p with e | e | e | e <;> rw [e] <;> dsimp only <;> omega
theorem rot_crs (u v a b c d e f : Int) (h : u * u + v * v = 1) :
  ((u * c - v * d) - (u * a - v * b)) * ((v * e + u * f) - (v * a + u * b)) - ((v * c + u * d) - (v * a + u * b)) * ((u * e - v * f) - (u * a - v * b)) = (c - a) * (f - b) - (d - b) * (e - a) := by grind
theorem rot_dot (u v a b c d e f : Int) (h : u * u + v * v = 1) :
  ((u * c - v * d) - (u * a - v * b)) * ((u * e - v * f) - (u * a - v * b)) + ((v * c + u * d) - (v * a + u * b)) * ((v * e + u * f) - (v * a + u * b)) = (c - a) * (e - a) + (d - b) * (f - b) := by grind
theorem rot_crs4 (u v a b c d e f g i : Int) (h : u * u + v * v = 1) :
  ((u * c - v * d) - (u * a - v * b)) * ((v * g + u * i) - (v * e + u * f)) - ((v * c + u * d) - (v * a + u * b)) * ((u * g - v * i) - (u * e - v * f)) = (c - a) * (i - f) - (d - b) * (g - e) := by grind
theorem t_crs {q : Qt} (h : QtP q) (a b c : Pt) : crs (tP q a) (tP q b) (tP q c) = crs a b c := rot_crs q.u q.v a.x a.y b.x b.y c.x c.y (qt_one h)
theorem t_dot {q : Qt} (h : QtP q) (a b c : Pt) : dotP (tP q a) (tP q b) (tP q c) = dotP a b c := rot_dot q.u q.v a.x a.y b.x b.y c.x c.y (qt_one h)
theorem t_inj {q : Qt} (h : QtP q) {a b : Pt} : tP q a = tP q b ↔ a = b := by
 refine ⟨fun e => ?_, fun e => by rw [e]⟩
 obtain ⟨ax, ay⟩ := a
 obtain ⟨bx, by'⟩ := b
 unfold tP at e
 simp only [Pt.mk.injEq] at e ⊢
 rcases h with ⟨h1, h2⟩ | ⟨h1, h2⟩ | ⟨h1, h2⟩ | ⟨h1, h2⟩ <;> rw [h1, h2] at e <;> omega
theorem t_all {q : Qt} (h : QtP q) (a b c : Pt) : All3 (tP q a) (tP q b) (tP q c) ↔ All3 a b c := by unfold All3; rw [t_may h, t_may h, t_may h]
theorem t_dotF {q : Qt} (h : QtP q) (a b c : Pt) : dotF (tP q a) (tP q b) (tP q c) = dotF a b c := by
 unfold dotF
 by_cases hA : All3 a b c
 ·rw [if_pos hA, if_pos ((t_all h a b c).2 hA), t_dot h]
 ·rw [if_neg hA, if_neg (fun x => hA ((t_all h a b c).1 x))]
theorem t_crsF {q : Qt} (h : QtP q) (a b c : Pt) : crsF (tP q a) (tP q b) (tP q c) = crsF a b c := by
 unfold crsF
 by_cases hA : All3 a b c
 ·rw [if_pos hA, if_pos ((t_all h a b c).2 hA), t_crs h]
 ·rw [if_neg hA, if_neg (fun x => hA ((t_all h a b c).1 x))]
theorem pt_iff {a b : Pt} : (a.x = b.x ∧ a.y = b.y) ↔ a = b := by
 obtain ⟨ax, ay⟩ := a
 obtain ⟨bx, by'⟩ := b
 simp
theorem t_line {q : Qt} (h : QtP q) (s : Sg) : LineS (tS q s) ↔ LineS s := by
 unfold LineS
 rw [pt_iff, pt_iff]
 show MayPt (tP q s.a) ∧ MayPt (tP q s.b) ∧ ¬ tP q s.a = tP q s.b ↔ _
 rw [t_may h, t_may h, t_inj h]
theorem t_on {q : Qt} (h : QtP q) (s : Sg) (p : Pt) : OnP (tS q s) (tP q p) ↔ OnP s p := by
 unfold OnP
 rw [t_line h, t_may h]
 show _ ∧ _ ∧ crs (tP q s.a) (tP q s.b) (tP q p) = 0 ∧ 0 ≤ dotP (tP q s.a) (tP q s.b) (tP q p) ∧ dotP (tP q s.a) (tP q s.b) (tP q p) ≤ dotP (tP q s.a) (tP q s.b) (tP q s.b) ↔ _
 rw [t_crs h, t_dot h, t_dot h]
theorem t_both {q : Qt} (h : QtP q) (s t : Sg) (p : Pt) : BothP (tS q s) (tS q t) (tP q p) ↔ BothP s t p := by unfold BothP; rw [t_on h, t_on h]
theorem t_touch {q : Qt} (h : QtP q) (s t : Sg) : TouchP (tS q s) (tS q t) ↔ TouchP s t := by
 unfold TouchP
 rw [t_line h, t_line h]
 show _ ∧ _ ∧ (OnP (tS q s) (tP q t.a) ∨ OnP (tS q s) (tP q t.b) ∨ OnP (tS q t) (tP q s.a) ∨ OnP (tS q t) (tP q s.b) ∨ (Opp (crsF (tP q s.a) (tP q s.b) (tP q t.a)) (crsF (tP q s.a) (tP q s.b) (tP q t.b)) ∧ Opp (crsF (tP q t.a) (tP q t.b) (tP q s.a)) (crsF (tP q t.a) (tP q t.b) (tP q s.b)))) ↔ _
 rw [t_on h, t_on h, t_on h, t_on h, t_crsF h, t_crsF h, t_crsF h, t_crsF h]
theorem t_rD {q : Qt} (h : QtP q) (s t : Sg) : rD (tS q s) (tS q t) = rD s t := rot_crs4 q.u q.v s.a.x s.a.y s.b.x s.b.y t.a.x t.a.y t.b.x t.b.y (qt_one h)
theorem t_rN {q : Qt} (h : QtP q) (s t : Sg) : rN (tS q s) (tS q t) = rN s t := rot_crs4 q.u q.v s.a.x s.a.y t.a.x t.a.y t.a.x t.a.y t.b.x t.b.y (qt_one h)
theorem t_rM {q : Qt} (h : QtP q) (s t : Sg) : rM (tS q s) (tS q t) = rM s t := rot_crs4 q.u q.v s.a.x s.a.y t.a.x t.a.y s.a.x s.a.y s.b.x s.b.y (qt_one h)
theorem t_ends {q : Qt} (s t : Sg) (p : Pt) (hp : p ∈ endsL s t) : tP q p ∈ endsL (tS q s) (tS q t) := by
 unfold endsL at *
 simp only [List.mem_cons, List.not_mem_nil, or_false] at *
 rcases hp with rfl | rfl | rfl | rfl <;> simp [tS]
theorem t_ends' {q : Qt} (s t : Sg) (p : Pt) (hp : p ∈ endsL (tS q s) (tS q t)) : ∃ p', p = tP q p' ∧ p' ∈ endsL s t := by
 unfold endsL at *
 simp only [List.mem_cons, List.not_mem_nil, or_false] at hp
 rcases hp with rfl | rfl | rfl | rfl
 ·exact ⟨s.a, rfl, by simp⟩
 ·exact ⟨s.b, rfl, by simp⟩
 ·exact ⟨t.a, rfl, by simp⟩
 ·exact ⟨t.b, rfl, by simp⟩
theorem t_exts {q : Qt} (h : QtP q) {s t : Sg} {f l : Pt} (hE : Exts s t f l) : Exts (tS q s) (tS q t) (tP q f) (tP q l) := by
 refine ⟨t_ends s t f hE.fe, (t_both h s t f).2 hE.fb, t_ends s t l hE.le, (t_both h s t l).2 hE.lb, fun p hp hb => ?_⟩
 obtain ⟨p', rfl, hp'⟩ := t_ends' s t p hp
 have := hE.mm p' hp' ((t_both h s t p').1 hb)
 show dotF (tP q s.a) (tP q s.b) (tP q f) ≤ dotF (tP q s.a) (tP q s.b) (tP q p') ∧ dotF (tP q s.a) (tP q s.b) (tP q p') ≤ dotF (tP q s.a) (tP q s.b) (tP q l)
 rw [t_dotF h, t_dotF h, t_dotF h]
 exact this
theorem exts_one {s t : Sg} {f l f' l' : Pt} (hs : LineS s) (h : Exts s t f l) (h' : Exts s t f' l') : f' = f ∧ l' = l := by
 have inj : ∀ p q, OnP s p → OnP s q → dotF s.a s.b p = dotF s.a s.b q → p = q := fun p q hp hq h => by
  obtain ⟨_, a2, a3⟩ := on_all hp
  obtain ⟨_, b2, b3⟩ := on_all hq
  exact dot_inj hs a2 b2 (by omega)
 have k1 := h.mm f' h'.fe h'.fb
 have k2 := h.mm l' h'.le h'.lb
 have k3 := h'.mm f h.fe h.fb
 have k4 := h'.mm l h.le h.lb
 exact ⟨inj _ _ h'.fb.1 h.fb.1 (by omega), inj _ _ h'.lb.1 h.lb.1 (by omega)⟩
/-- The meeting of turned lines. -/
theorem t_meet {q : Qt} (h : QtP q) (s t : Sg) : (meetM (tS q s) (tS q t)).k = (meetM s t).k ∧ ((meetM s t).k = 1 → (meetM (tS q s) (tS q t)).n = (meetM s t).n ∧ (meetM (tS q s) (tS q t)).d = (meetM s t).d) ∧
  ((meetM s t).k = 2 → (meetM (tS q s) (tS q t)).p = tP q (meetM s t).p ∧ (meetM (tS q s) (tS q t)).q = tP q (meetM s t).q) := by
 unfold meetM
 by_cases hT : TouchP s t
 ·have hT' := (t_touch h s t).2 hT
  rw [if_pos hT, if_pos hT', t_rD h]
  by_cases hd : rD s t = 0
  ·rw [if_pos hd, if_pos hd]
   obtain ⟨f, l, hE, hR⟩ := exts hT ((along_iff s t hT).2 hd)
   obtain ⟨f', l', hE', hR'⟩ := exts hT' ((along_iff _ _ hT').2 (by rw [t_rD h]; exact hd))
   obtain ⟨rfl, rfl⟩ := exts_one hT'.1 (t_exts h hE) hE'
   rw [hR, hR']
   unfold ovM
   by_cases hf : f = l
   ·have hf' : tP q f = tP q l := by rw [hf]
    rw [if_neg (fun x : tP q f ≠ tP q l => x hf'), if_neg (fun x : f ≠ l => x hf)]
    refine ⟨rfl, fun _ => ⟨?_, rfl⟩, fun hk => absurd (show (1 : Int) = 2 from hk) (by decide)⟩
    show (if tP q f = tP q s.b then (1 : Int) else 0) = if f = s.b then 1 else 0
    by_cases hb : f = s.b
    ·rw [if_pos hb, if_pos (by rw [hb])]
    ·rw [if_neg hb, if_neg (fun x => hb ((t_inj h).1 x))]
   ·have hf' : tP q f ≠ tP q l := fun x => hf ((t_inj h).1 x)
    rw [if_pos hf, if_pos hf']
    exact ⟨rfl, fun hk => absurd (show (2 : Int) = 1 from hk) (by decide), fun _ => ⟨rfl, rfl⟩⟩
  ·rw [if_neg hd, if_neg hd]
   unfold refCross
   rw [t_rD h, t_rN h, t_rM h]
   have hk := (cross_bd hT hd).2.2.2.2
   unfold refCross at hk
   by_cases hn : rD s t < 0
   ·rw [if_pos hn]; exact ⟨rfl, fun _ => ⟨rfl, rfl⟩, fun hk => absurd (show (1 : Int) = 2 from hk) (by decide)⟩
   ·rw [if_neg hn]; exact ⟨rfl, fun _ => ⟨rfl, rfl⟩, fun hk => absurd (show (1 : Int) = 2 from hk) (by decide)⟩
 ·rw [if_neg hT, if_neg (fun x => hT ((t_touch h s t).1 x))]
  exact ⟨rfl, fun hk => absurd (show (0 : Int) = 1 from hk) (by decide), fun hk => absurd (show (0 : Int) = 2 from hk) (by decide)⟩
/-! Parts. -/
def ndC (c : Cu) : Int × Int := (c.1.n, c.1.d)
theorem nd_mk {s : Sg} {n d : Int} (hd : d ≤ 9223372036854775807) : ndC (mkC s n d) = (lowN n d, lowD n d) := by
 unfold ndC
 rw [mkC_val hd]; rfl
theorem t_atC {q : Qt} (h : QtP q) (s : Sg) (p : Pt) : ndC (atC (tS q s) (tP q p)) = ndC (atC s p) := by
 unfold atC
 show ndC (mkC (tS q s) (dotF (tP q s.a) (tP q s.b) (tP q p)) (dotF (tP q s.a) (tP q s.b) (tP q s.b))) = _
 rw [t_dotF h, t_dotF h, nd_mk (dotF_max _ _ _), nd_mk (dotF_max _ _ _)]
theorem t_byL {q : Qt} (h : QtP q) (s t : Sg) : (byL (tS q s) (tS q t)).map ndC = (byL s t).map ndC := by
 obtain ⟨h1, h2, h3⟩ := t_meet h s t
 unfold byL
 rw [h1]
 by_cases hk : (meetM s t).k = 1
 ·obtain ⟨e1, e2⟩ := h2 hk
  have hd := (same_place s t hk).2.2.2.2.2.2.1
  rw [if_pos hk, if_pos hk, e1, e2, List.map_cons, List.map_cons, nd_mk hd, nd_mk hd]
 ·rw [if_neg hk, if_neg hk]
  by_cases hk2 : (meetM s t).k = 2
  ·obtain ⟨e1, e2⟩ := h3 hk2
   rw [if_pos hk2, if_pos hk2, e1, e2]
   simp only [List.map_cons, List.map_nil, t_atC h]
  ·rw [if_neg hk2, if_neg hk2]
def ltND (a b : Int × Int) : Prop := a.1.toNat * b.2.toNat < b.1.toNat * a.2.toNat
theorem nd_strict {L : List Cu} (h : L.Pairwise ltU) : (L.map ndC).Pairwise ltND := by
 rw [List.pairwise_map]
 exact h.imp fun h => h
theorem t_ends_nd (s s' : Sg) : (endsL' s').map ndC = (endsL' s).map ndC := by
 unfold endsL'
 simp only [List.map_cons, List.map_nil]
 rw [nd_mk (by omega), nd_mk (by omega), nd_mk (by omega), nd_mk (by omega)]
theorem mem_nd (s : Sg) (l : List Sg) (but : Int) (x : Int × Int) (k : Nat) : x ∈ (rOneK s l but k).map ndC ↔ x ∈ (endsL' s).map ndC ∨ ∃ j, j < k ∧ (j : Int) ≠ but ∧ x ∈ (byL s (l.getD j default)).map ndC := by
 obtain ⟨_, _, h3⟩ := rOneK_strict s l but k
 constructor
 ·intro hx
  obtain ⟨c, hc, rfl⟩ := List.mem_map.1 hx
  rcases (h3 c).1 hc with h | ⟨j, a, b, c'⟩
  ·exact .inl (List.mem_map.2 ⟨c, h, rfl⟩)
  ·exact .inr ⟨j, a, b, List.mem_map.2 ⟨c, c', rfl⟩⟩
 ·rintro (h | ⟨j, a, b, h⟩)
  ·obtain ⟨c, hc, rfl⟩ := List.mem_map.1 h
   exact List.mem_map.2 ⟨c, (h3 c).2 (.inl hc), rfl⟩
  ·obtain ⟨c, hc, rfl⟩ := List.mem_map.1 h
   exact List.mem_map.2 ⟨c, (h3 c).2 (.inr ⟨j, a, b, hc⟩), rfl⟩
theorem t_one {q : Qt} (h : QtP q) (l : List Sg) (i : Nat) (hi : i < l.length) : (rOneK ((l.map (tS q)).getD i default) (l.map (tS q)) i l.length).map ndC = (rOneK (l.getD i default) l i l.length).map ndC := by
 have hg : ∀ j, j < l.length → (l.map (tS q)).getD j default = tS q (l.getD j default) := fun j hj => by
  simp [List.getD_eq_getElem?_getD, hj]
 rw [hg i hi]
 refine strict_eq (R := ltND) (fun x => by unfold ltND; omega) (fun x y h1 h2 => by unfold ltND at *; omega) _ _ (nd_strict (rOneK_strict _ _ _ _).1) (nd_strict (rOneK_strict _ _ _ _).1) fun x => ?_
 rw [mem_nd, mem_nd, t_ends_nd (l.getD i default) (tS q (l.getD i default))]
 constructor
 ·rintro (h' | ⟨j, a, b, c⟩)
  ·exact .inl h'
  ·rw [hg j a, t_byL h] at c
   exact .inr ⟨j, a, b, c⟩
 ·rintro (h' | ⟨j, a, b, c⟩)
  ·exact .inl h'
  ·refine .inr ⟨j, a, b, ?_⟩
   rw [hg j a, t_byL h]; exact c
end Go.Proofs.YtcomiiakkhafpaaGreat
namespace Go.Proofs.YtcomiiakkhafpaaGreat
open Go.Proofs.YtcomiiakkhafpaaGreat.Am Go.Sort Go.Proofs Go.Lib
variable [Inhabited DRT]
variable {G : GInv}
/-! ### The law's example; any point as a cut -/
def lEx : List Sg := [⟨⟨0, 0⟩, ⟨2, 2⟩⟩, ⟨⟨0, 2⟩, ⟨2, 0⟩⟩]
def fEx : Nat → List Cu := fun i => match i with
 | 0 => [mkC ⟨⟨0, 0⟩, ⟨2, 2⟩⟩ 0 1, mkC ⟨⟨0, 0⟩, ⟨2, 2⟩⟩ 1 2, mkC ⟨⟨0, 0⟩, ⟨2, 2⟩⟩ 1 1]
 | _ => [mkC ⟨⟨0, 2⟩, ⟨2, 0⟩⟩ 0 1, mkC ⟨⟨0, 2⟩, ⟨2, 0⟩⟩ 1 2, mkC ⟨⟨0, 2⟩, ⟨2, 0⟩⟩ 1 1]
theorem ex_0 : rOneK ⟨⟨0, 0⟩, ⟨2, 2⟩⟩ lEx 0 2 = fEx 0 := of_decide_eq_true (by kernel_rfl)
theorem ex_1 : rOneK ⟨⟨0, 2⟩, ⟨2, 0⟩⟩ lEx 1 2 = fEx 1 := of_decide_eq_true (by kernel_rfl)
theorem ex_F : ∀ i, i < lEx.length → fEx i = ofF lEx i := by
 intro i hi
 rw [of_eq lEx i hi]
 match i, hi with
 | 0, _ => exact ex_0.symm
 | 1, _ => exact ex_1.symm
theorem ex_mid : (mkC ⟨⟨0, 0⟩, ⟨2, 2⟩⟩ 1 2).1 = ⟨1, 2, false, false, ⟨1, 0, 0, 0, 0, 0, 0, 0⟩, ⟨1, 0, 0, 0, 0, 0, 0, 0⟩, ⟨1, 0, 0, 0, 0, 0, 0, 0⟩⟩ := of_decide_eq_true (by kernel_rfl)
theorem ex_mid2 : (mkC ⟨⟨0, 2⟩, ⟨2, 0⟩⟩ 1 2).1 = ⟨1, 2, false, false, ⟨1, 0, 0, 0, 0, 0, 0, 0⟩, ⟨1, 0, 0, 0, 0, 0, 0, 0⟩, ⟨1, 0, 0, 0, 0, 0, 0, 0⟩⟩ := of_decide_eq_true (by kernel_rfl)
set_option maxRecDepth 100000 in
set_option maxHeartbeats 2000000 in
theorem cawake_c (hns : ¬ (default : DRT).ns) : ACalls Tryz.prog G 28 [] (.sb true) := by
 have h1 := of13_c (G := G) hns lEx (by decide) fEx ex_F
 have h2 : ACalls Tryz.prog G 32 [.sl 2 4 (fun i => takeL 4 (List.drop (i * 4) [.int .i64 0, .int .i64 0, .int .i64 2, .int .i64 2, .int .i64 0, .int .i64 2, .int .i64 2, .int .i64 0]))] (.tup [.sl 2 1 (fun i => [.sl (fEx i).length 28 (rowU (fEx i))]), .int .i64 0]) := h1.fit (by
  conv => whnf
  repeat (first | exact fa | ((first | refine fb ?_ | (refine And.intro ?_ ?_; rotate_left)); conv => whnf))
  all_goals (refine Or.inl fun i hi => ?_; rcases i with _ | _ | _ | _ | i <;> first | rfl | omega))
 have l0 : (fEx (Int.toNat 0)).length = 3 := rfl
 have l1 : (fEx (Int.toNat 1)).length = 3 := rfl
 have m0 : ((fEx (Int.toNat 0)).getD (Int.toNat 1) default).1 = ⟨1, 2, false, false, ⟨1, 0, 0, 0, 0, 0, 0, 0⟩, ⟨1, 0, 0, 0, 0, 0, 0, 0⟩, ⟨1, 0, 0, 0, 0, 0, 0, 0⟩⟩ := ex_mid
 have m1 : ((fEx (Int.toNat 1)).getD (Int.toNat 1) default).1 = ⟨1, 2, false, false, ⟨1, 0, 0, 0, 0, 0, 0, 0⟩, ⟨1, 0, 0, 0, 0, 0, 0, 0⟩, ⟨1, 0, 0, 0, 0, 0, 0, 0⟩⟩ := ex_mid2
 have n0 : ((fEx (Int.toNat 0)).getD (Int.toNat 1) default).1.n = 1 := by rw [m0]
 have d0 : ((fEx (Int.toNat 0)).getD (Int.toNat 1) default).1.d = 2 := by rw [m0]
 refine ACalls.of_WA ttok Tryz.func28 rfl rfl _ rfl ?_
 conv => whnf
 repeat' (first | refine sq ?_ | refine bk ?_ | ((first | refine rg ttok ?_ | refine dw ttok mixed ?_ | refine cd ?_ | refine sk ?_ | refine xt ?_ | refine rt ?_); conv => whnf) | (refine And.intro (fun h => ?_) (fun h => ?_) <;> (try simp only [brsA] at h) <;> conv => whnf) | (refine Or.inr (Or.inr (Or.inl ?_)); (conv => whnf); refine ⟨_, h2, ?_⟩; conv => whnf) | ((first | refine wf ?_ | refine wp' ?_ | refine ai ?_ | refine And.intro rfl ?_ | refine an ?_ | fail); conv => whnf))
 all_goals first | contradiction | (exfalso; omega) | (simp only [m0, m1]; rfl) | trace_state
end Go.Proofs.YtcomiiakkhafpaaGreat

/-
  The walks and plain laws, part 3.
-/
import Derived.Test.YtfhdmhoeopbhnaaBidiCosts2
set_option linter.unusedSimpArgs false
set_option linter.unusedSectionVars false
set_option linter.unusedVariables false
namespace Go.Proofs.Ytfhdmhoeopbhnaa
open Go.Proofs.Ytfhdmhoeopbhnaa.Am Go.HeapL
variable [Inhabited DRT]
variable {G : GInv}
abbrev Jx (rk : List Int) (ls : List Lk) (sa sz : List It) (q : Bool) (s : St) : Prop := ∃ Da Dz, J rk.length sa sz (upE rk ls) (dnE rk ls) q Da Dz s
theorem J0 {rk : List Int} {ls : List Lk} {sa sz : List It} (q : Bool) (hd : Dat rk.length sa (upE rk ls)) (hd' : Dat rk.length sz (dnE rk ls)) : J rk.length sa sz (upE rk ls) (dnE rk ls) q [] [] (st0 sa sz) := by
  obtain ⟨a1, a2, a3, a4⟩ := beg_inv hd sa Sd0 (fun x h => h) (inv0 _ _ _)
  obtain ⟨z1, z2, z3, z4⟩ := beg_inv hd' sz Sd0 (fun x h => h) (inv0 _ _ _)
  exact
    { ia := a1
      iz := z1
      ba := a3
      bz := z3
      ca := fun _ u hu => by simp at hu
      cz := fun _ u hu => by simp at hu
      mt := fun v h => by simp at h
      bb := .inl ⟨rfl, rfl⟩ }
theorem wle_up {rk : List Int} {ls : List Lk} (hS : SortedP rk.length ls) (v : Int) (i : Nat) (hi : i < (upE rk ls v).length) : 0 ≤ ((upE rk ls v).getD i (0, 0)).1 ∧ ((upE rk ls v).getD i (0, 0)).1 ≤ 1152921504606846976 := by
  have hm : (((upE rk ls v).getD i (0, 0)).1, ((upE rk ls v).getD i (0, 0)).2) ∈ upE rk ls v := mem_gt hi
  obtain ⟨j, hj, e1, e2, e3, _⟩ := (upE_mem rk ls v _ _).1 hm
  have ho := (hS j hj).1
  unfold okL at ho
  rw [← e3]; omega
theorem wle_dn {rk : List Int} {ls : List Lk} (hS : SortedP rk.length ls) (v : Int) (i : Nat) (hi : i < (dnE rk ls v).length) : 0 ≤ ((dnE rk ls v).getD i (0, 0)).1 ∧ ((dnE rk ls v).getD i (0, 0)).1 ≤ 1152921504606846976 := by
  have hm : (((dnE rk ls v).getD i (0, 0)).1, ((dnE rk ls v).getD i (0, 0)).2) ∈ dnE rk ls v := mem_gt hi
  obtain ⟨j, hj, e1, e2, e3, _⟩ := (dnE_mem rk ls v _ _).1 hm
  have ho := (hS j hj).1
  unfold okL at ho
  rw [← e3]; omega
theorem search_ok (rk : List Int) (ls : List Lk) (sa sz : List It) (q : Bool) (hM : MayP rk ls) (ha : ItP rk.length sa) (hz : ItP rk.length sz) :
    ∃ s, Jx rk ls sa sz q s ∧ fin q (upE rk ls) (dnE rk ls) s = true ∧ ∀ G, ACalls Try.prog G 67 [.agg [intsA rk, lksA ls], itmA sa, itmA sz, .bool q] (srA rk ls q s) := by
  obtain ⟨hr, hl, hR, hS, _⟩ := hM
  have hd := dat_up hS ha
  have hd' := dat_dn hS hz
  have hJ := J0 q hd hd'
  have hJi := itr_J hd hd' hJ
  obtain ⟨N, hN1, hN2⟩ := itr_end hd hd' hJ
  have ll : ∀ v, (upE rk ls v).length ≤ 1000000 ∧ (dnE rk ls v).length ≤ 1000000 := fun v => ⟨Nat.le_trans (filterMap_len _ _) (by omega), Nat.le_trans (filterMap_len _ _) (by omega)⟩
  refine ⟨itr q (upE rk ls) (dnE rk ls) (st0 sa sz) N, ?_, hN2, fun G => ?_⟩
  · obtain ⟨Da, Dz, h, _⟩ := hJi N
    exact ⟨Da, Dz, h⟩
  · refine search_c rk ls sa sz q N (by omega) (by omega) hR hS ha.1 hz.1 (fun i hi => ?_) (fun i hi => ?_) hN1 hN2 (fun i => ?_)
    · obtain ⟨h, _⟩ := beg_inv hd (sa.take i) Sd0 (fun x h => List.mem_of_mem_take h) (inv0 _ _ _)
      exact ⟨h.nd, by have := h.lenL; omega⟩
    · obtain ⟨h, _⟩ := beg_inv hd' (sz.take i) Sd0 (fun x h => List.mem_of_mem_take h) (inv0 _ _ _)
      exact ⟨h.nd, by have := h.lenL; omega⟩
    · obtain ⟨Da, Dz, h, _⟩ := hJi i
      refine ⟨TB_of hd h.ia h.iz (by omega) ll (wle_up hS) (wle_dn hS), ?_⟩
      have h2 : ∃ Da', J rk.length sa sz (upE rk ls) (dnE rk ls) q Da' Dz (hlf q (upE rk ls) (dnE rk ls) (itr q (upE rk ls) (dnE rk ls) (st0 sa sz) i)) := by
        cases ho : okT (itr q (upE rk ls) (dnE rk ls) (st0 sa sz) i).a (itr q (upE rk ls) (dnE rk ls) (st0 sa sz) i).b with
        | false => exact ⟨Da, by rw [hlf_id ho]; exact h⟩
        | true => exact ⟨_, (hlf_J hd h ho).1⟩
      obtain ⟨Da', h'⟩ := h2
      exact TB_of hd' h'.iz h'.ia (by omega) (fun v => ⟨(ll v).2, (ll v).1⟩) (wle_dn hS) (wle_up hS)
end Go.Proofs.Ytfhdmhoeopbhnaa
namespace Go.Proofs.Ytfhdmhoeopbhnaa
open Go.Proofs.Ytfhdmhoeopbhnaa.Am Go.HeapL
variable [Inhabited DRT]
variable {G : GInv}
def okV (rk : List Int) (ls : List Lk) (sa sz : List It) : Prop := MayP rk ls ∧ ItP rk.length sa ∧ ItP rk.length sz
def wayL (pa pz : List Int) : List Int := pa.reverse ++ pz.drop 1
theorem way_len (pa pz : List Int) : pa.length + (pz.length - Int.toNat 1) = (wayL pa pz).length := by
  unfold wayL
  rw [List.length_append, List.length_reverse, List.length_drop]; rfl
theorem way_row (pa pz : List Int) (k : Nat) (hk : k < pa.length + (pz.length - Int.toNat 1)) :
    rowCat pa.length (fun k => [A.int .i64 (pa.getD (pa.length - 1 - k) (-1))]) (fun i => (fun k => [A.int .i64 (pz.getD k (-1))]) (Int.toNat 1 + i)) k = [A.int .i64 ((wayL pa pz).getD k 0)] := by
  have hk : k < pa.length + (pz.length - 1) := hk
  unfold rowCat wayL
  by_cases h : k < pa.length
  · rw [show Nat.blt k pa.length = true from Nat.ble_eq_true_of_le (show k + 1 ≤ pa.length from h)]
    show [A.int .i64 (pa.getD (pa.length - 1 - k) (-1))] = _
    congr 2
    rw [List.getD_eq_getElem?_getD, List.getD_eq_getElem?_getD, List.getElem?_append_left (by rw [List.length_reverse]; exact h), List.getElem?_reverse h, List.getElem?_eq_getElem (show pa.length - 1 - k < pa.length by omega)]
    rfl
  · have hb : Nat.blt k pa.length = false := by
      cases hc : Nat.blt k pa.length with
      | false => rfl
      | true => exact absurd (Nat.le_of_ble_eq_true hc) h
    rw [hb]
    show [A.int .i64 (pz.getD (1 + (k - pa.length)) (-1))] = _
    congr 2
    rw [List.getD_eq_getElem?_getD, List.getD_eq_getElem?_getD, List.getElem?_append_right (by rw [List.length_reverse]; omega), List.length_reverse, List.getElem?_drop, List.getElem?_eq_getElem (show 1 + (k - pa.length) < pz.length by omega)]
    rfl
structure Sml (rk : List Int) (ls : List Lk) (sa sz : List It) : Prop where
  hl : ls.length ≤ 1000000
  hr : rk.length ≤ 1000000
  ha : (sa.length : Int) ≤ 4611686018427387904
  hz : (sz.length : Int) ≤ 4611686018427387904
def PB (S : Sd) (p : List Int) : Prop := ∀ i, i < p.length → 0 ≤ p.getD i (-1) ∧ (S.c (p.getD i (-1))).isSome = true ∧ S.f (p.getD i (-1)) = p.getD (i + 1) (-1)
set_option maxRecDepth 100000 in
set_option maxHeartbeats 2000000 in
theorem way_bad (rk : List Int) (ls : List Lk) (sa sz : List It) (hs : Sml rk ls sa sz) (h : ¬ (MayP rk ls ∧ ItP rk.length sa ∧ ItP rk.length sz)) :
    ACalls Try.prog G 31 [.agg [intsA rk, lksA ls], itmA sa, itmA sz] (.tup [intsA [], .int .i64 0, .int .i64 1]) := by
  have h1 := check_c (G := G) rk ls sa sz hs.hl hs.hr hs.ha hs.hz
  rw [if_neg h] at h1
  refine ACalls.of_WA ttok Try.func31 rfl rfl _ rfl ?_
  conv => whnf
  repeat' (first | refine sq ?_ | refine bk ?_ | ((first | refine rg ttok ?_ | refine dw ttok mixed ?_ | refine cd ?_ | refine sk ?_ | refine xt ?_ | refine rt ?_); conv => whnf) | (refine And.intro (fun h => ?_) (fun h => ?_) <;> (try simp only [brsA] at h) <;> conv => whnf) | (refine Or.inl ?_; (conv => whnf); refine ⟨_, h1, ?_⟩; conv => whnf) | ((first | refine wf ?_ | refine wp' ?_ | refine ai ?_ | refine And.intro rfl ?_ | refine an ?_ | fail); conv => whnf))
  exact absurd h (by decide)
set_option maxRecDepth 100000 in
set_option maxHeartbeats 2000000 in
theorem way_none (rk : List Int) (ls : List Lk) (sa sz : List It) (hs : Sml rk ls sa sz) (h : (MayP rk ls ∧ ItP rk.length sa ∧ ItP rk.length sz)) (s : St)
    (h2 : ACalls Try.prog G 67 [.agg [intsA rk, lksA ls], itmA sa, itmA sz, .bool false] (srA rk ls false s)) (h3 : s.b.pt < 0) :
    ACalls Try.prog G 31 [.agg [intsA rk, lksA ls], itmA sa, itmA sz] (.tup [intsA [], .int .i64 0, .int .i64 12]) := by
  have h1 := check_c (G := G) rk ls sa sz hs.hl hs.hr hs.ha hs.hz
  rw [if_pos h] at h1
  refine ACalls.of_WA ttok Try.func31 rfl rfl _ rfl ?_
  conv => whnf
  repeat' (first | refine sq ?_ | refine bk ?_ | ((first | refine rg ttok ?_ | refine dw ttok mixed ?_ | refine cd ?_ | refine sk ?_ | refine xt ?_ | refine rt ?_); conv => whnf) | (refine And.intro (fun h => ?_) (fun h => ?_) <;> (try simp only [brsA] at h) <;> conv => whnf) | (refine Or.inl ?_; (conv => whnf); (first | refine ⟨_, h1, ?_⟩ | refine ⟨_, h2, ?_⟩); conv => whnf) | ((first | refine wf ?_ | refine wp' ?_ | refine ai ?_ | refine And.intro rfl ?_ | refine an ?_ | fail); conv => whnf))
  · exact absurd trivial h
  · exact absurd h3 h
set_option maxRecDepth 100000 in
set_option maxHeartbeats 2000000 in
theorem way_some (rk : List Int) (ls : List Lk) (sa sz : List It) (hs : Sml rk ls sa sz) (h : (MayP rk ls ∧ ItP rk.length sa ∧ ItP rk.length sz)) (s : St)
    (h2 : ACalls Try.prog G 67 [.agg [intsA rk, lksA ls], itmA sa, itmA sz, .bool false] (srA rk ls false s)) (h3 : ¬ s.b.pt < 0) (pa pz : List Int)
    (ha0 : pa.getD 0 (-1) = s.b.pt) (hz0 : pz.getD 0 (-1) = s.b.pt) (hpa : PB s.a pa) (hpz : PB s.z pz) (hla : pa.length ≤ 100000) (hlz : pz.length ≤ 100000) (hlz0 : 1 ≤ pz.length) :
    ACalls Try.prog G 31 [.agg [intsA rk, lksA ls], itmA sa, itmA sz] (.tup [intsA (wayL pa pz), .int .i64 s.b.cost, .int .i64 0]) := by
  have h1 := check_c (G := G) rk ls sa sz hs.hl hs.hr hs.ha hs.hz
  rw [if_pos h] at h1
  have h4 := back_n (G := G) s.a rk.length (upE rk ls) (dnE rk ls) false s.b.pt pa (by omega) ha0 hpa
  have h5 := back_a (G := G) s.z rk.length (dnE rk ls) (upE rk ls) false s.b.pt pz (by omega) hz0 hpz
  have h6 := reverse_c (G := G) pa.length (fun k => pa.getD k (-1)) (by omega)
  refine ACalls.of_WA ttok Try.func31 rfl rfl _ rfl ?_
  conv => whnf
  repeat' (first | refine sq ?_ | refine bk ?_ | ((first | refine rg ttok ?_ | refine dw ttok mixed ?_ | refine cd ?_ | refine sk ?_ | refine xt ?_ | refine rt ?_); conv => whnf) | (refine And.intro (fun h => ?_) (fun h => ?_) <;> (try simp only [brsA] at h) <;> conv => whnf) | (refine Or.inl ?_; (conv => whnf); (first | refine ⟨_, h1, ?_⟩ | refine ⟨_, h2, ?_⟩ | refine ⟨_, h5, ?_⟩); conv => whnf) | (refine Or.inr (Or.inl ?_); (conv => whnf); refine ⟨_, _, h6, ?_⟩; conv => whnf) | ((first | refine Or.inr (Or.inr (Or.inr ?_)) | refine Or.inr ?_); (conv => whnf); refine ⟨_, _, h4, ?_⟩; conv => whnf) | ((first | refine wf ?_ | refine wp' ?_ | refine ai ?_ | refine And.intro rfl ?_ | refine an ?_ | fail); conv => whnf))
  · exact absurd trivial h
  · exact absurd h h3
  · repeat (first | exact fa | ((first | refine fb ?_ | (refine And.intro ?_ ?_; rotate_left)); conv => whnf))
    · exact way_len pa pz
    · exact Or.inl fun k hk => way_row pa pz k hk
set_option maxRecDepth 100000 in
set_option maxHeartbeats 2000000 in
theorem cost_c (rk : List Int) (ls : List Lk) (sa sz : List It) (w : List Int) (c e : Int) (h : ACalls Try.prog G 31 [.agg [intsA rk, lksA ls], itmA sa, itmA sz] (.tup [intsA w, .int .i64 c, .int .i64 e])) :
    ACalls Try.prog G 30 [.agg [intsA rk, lksA ls], itmA sa, itmA sz] (.tup [.int .i64 c, .int .i64 e]) := by
  refine ACalls.of_WA ttok Try.func30 rfl rfl _ rfl ?_
  conv => whnf
  repeat' (first | refine sq ?_ | refine bk ?_ | ((first | refine rg ttok ?_ | refine dw ttok mixed ?_ | refine cd ?_ | refine sk ?_ | refine xt ?_ | refine rt ?_); conv => whnf) | (refine And.intro (fun h => ?_) (fun h => ?_) <;> (try simp only [brsA] at h) <;> conv => whnf) | (refine Or.inl ?_; (conv => whnf); refine ⟨_, h, ?_⟩; conv => whnf) | ((first | refine wf ?_ | refine wp' ?_ | refine ai ?_ | refine And.intro rfl ?_ | refine an ?_ | fail); conv => whnf))
set_option maxRecDepth 100000 in
set_option maxHeartbeats 2000000 in
theorem count_bad (rk : List Int) (ls : List Lk) (sa sz : List It) (hs : Sml rk ls sa sz) (h : ¬ (MayP rk ls ∧ ItP rk.length sa ∧ ItP rk.length sz)) :
    ACalls Try.prog G 32 [.agg [intsA rk, lksA ls], itmA sa, itmA sz] (.tup [.int .i64 0, .int .i64 1]) := by
  have h1 := check_c (G := G) rk ls sa sz hs.hl hs.hr hs.ha hs.hz
  rw [if_neg h] at h1
  refine ACalls.of_WA ttok Try.func32 rfl rfl _ rfl ?_
  conv => whnf
  repeat' (first | refine sq ?_ | refine bk ?_ | ((first | refine rg ttok ?_ | refine dw ttok mixed ?_ | refine cd ?_ | refine sk ?_ | refine xt ?_ | refine rt ?_); conv => whnf) | (refine And.intro (fun h => ?_) (fun h => ?_) <;> (try simp only [brsA] at h) <;> conv => whnf) | (refine Or.inl ?_; (conv => whnf); refine ⟨_, h1, ?_⟩; conv => whnf) | ((first | refine wf ?_ | refine wp' ?_ | refine ai ?_ | refine And.intro rfl ?_ | refine an ?_ | fail); conv => whnf))
  exact absurd h (by decide)
set_option maxRecDepth 100000 in
set_option maxHeartbeats 2000000 in
theorem count_ok (rk : List Int) (ls : List Lk) (sa sz : List It) (hs : Sml rk ls sa sz) (h : (MayP rk ls ∧ ItP rk.length sa ∧ ItP rk.length sz)) (s : St)
    (h2 : ACalls Try.prog G 67 [.agg [intsA rk, lksA ls], itmA sa, itmA sz, .bool false] (srA rk ls false s)) (hta : 0 ≤ s.a.t ∧ s.a.t ≤ 100000) (htz : 0 ≤ s.z.t ∧ s.z.t ≤ 100000) :
    ACalls Try.prog G 32 [.agg [intsA rk, lksA ls], itmA sa, itmA sz] (.tup [.int .i64 (s.a.t + s.z.t), .int .i64 0]) := by
  have h1 := check_c (G := G) rk ls sa sz hs.hl hs.hr hs.ha hs.hz
  rw [if_pos h] at h1
  refine ACalls.of_WA ttok Try.func32 rfl rfl _ rfl ?_
  conv => whnf
  repeat' (first | refine sq ?_ | refine bk ?_ | ((first | refine rg ttok ?_ | refine dw ttok mixed ?_ | refine cd ?_ | refine sk ?_ | refine xt ?_ | refine rt ?_); conv => whnf) | (refine And.intro (fun h => ?_) (fun h => ?_) <;> (try simp only [brsA] at h) <;> conv => whnf) | (refine Or.inl ?_; (conv => whnf); (first | refine ⟨_, h1, ?_⟩ | refine ⟨_, h2, ?_⟩); conv => whnf) | ((first | refine wf ?_ | refine wp' ?_ | refine ai ?_ | refine And.intro rfl ?_ | refine an ?_ | fail); conv => whnf))
  exact absurd trivial h
set_option maxRecDepth 100000 in
set_option maxHeartbeats 2000000 in
theorem quick_bad (rk : List Int) (ls : List Lk) (sa sz : List It) (hs : Sml rk ls sa sz) (h : ¬ (MayP rk ls ∧ ItP rk.length sa ∧ ItP rk.length sz)) :
    ACalls Try.prog G 34 [.agg [intsA rk, lksA ls], itmA sa, itmA sz] (.tup [.int .i64 0, .int .i64 1]) := by
  have h1 := check_c (G := G) rk ls sa sz hs.hl hs.hr hs.ha hs.hz
  rw [if_neg h] at h1
  refine ACalls.of_WA ttok Try.func34 rfl rfl _ rfl ?_
  conv => whnf
  repeat' (first | refine sq ?_ | refine bk ?_ | ((first | refine rg ttok ?_ | refine dw ttok mixed ?_ | refine cd ?_ | refine sk ?_ | refine xt ?_ | refine rt ?_); conv => whnf) | (refine And.intro (fun h => ?_) (fun h => ?_) <;> (try simp only [brsA] at h) <;> conv => whnf) | (refine Or.inl ?_; (conv => whnf); refine ⟨_, h1, ?_⟩; conv => whnf) | ((first | refine wf ?_ | refine wp' ?_ | refine ai ?_ | refine And.intro rfl ?_ | refine an ?_ | fail); conv => whnf))
  exact absurd h (by decide)
set_option maxRecDepth 100000 in
set_option maxHeartbeats 2000000 in
theorem quick_none (rk : List Int) (ls : List Lk) (sa sz : List It) (hs : Sml rk ls sa sz) (h : (MayP rk ls ∧ ItP rk.length sa ∧ ItP rk.length sz)) (s : St) (h2 : ACalls Try.prog G 67 [.agg [intsA rk, lksA ls], itmA sa, itmA sz, .bool true] (srA rk ls true s)) (h3 : s.b.pt < 0) :
    ACalls Try.prog G 34 [.agg [intsA rk, lksA ls], itmA sa, itmA sz] (.tup [.int .i64 0, .int .i64 12]) := by
  have h1 := check_c (G := G) rk ls sa sz hs.hl hs.hr hs.ha hs.hz
  rw [if_pos h] at h1
  refine ACalls.of_WA ttok Try.func34 rfl rfl _ rfl ?_
  conv => whnf
  repeat' (first | refine sq ?_ | refine bk ?_ | ((first | refine rg ttok ?_ | refine dw ttok mixed ?_ | refine cd ?_ | refine sk ?_ | refine xt ?_ | refine rt ?_); conv => whnf) | (refine And.intro (fun h => ?_) (fun h => ?_) <;> (try simp only [brsA] at h) <;> conv => whnf) | (refine Or.inl ?_; (conv => whnf); (first | refine ⟨_, h1, ?_⟩ | refine ⟨_, h2, ?_⟩); conv => whnf) | ((first | refine wf ?_ | refine wp' ?_ | refine ai ?_ | refine And.intro rfl ?_ | refine an ?_ | fail); conv => whnf))
  · exact absurd trivial h
  · exact absurd h3 h
set_option maxRecDepth 100000 in
set_option maxHeartbeats 2000000 in
theorem quick_some (rk : List Int) (ls : List Lk) (sa sz : List It) (hs : Sml rk ls sa sz) (h : (MayP rk ls ∧ ItP rk.length sa ∧ ItP rk.length sz)) (s : St) (h2 : ACalls Try.prog G 67 [.agg [intsA rk, lksA ls], itmA sa, itmA sz, .bool true] (srA rk ls true s)) (h3 : ¬ s.b.pt < 0) :
    ACalls Try.prog G 34 [.agg [intsA rk, lksA ls], itmA sa, itmA sz] (.tup [.int .i64 s.b.cost, .int .i64 0]) := by
  have h1 := check_c (G := G) rk ls sa sz hs.hl hs.hr hs.ha hs.hz
  rw [if_pos h] at h1
  refine ACalls.of_WA ttok Try.func34 rfl rfl _ rfl ?_
  conv => whnf
  repeat' (first | refine sq ?_ | refine bk ?_ | ((first | refine rg ttok ?_ | refine dw ttok mixed ?_ | refine cd ?_ | refine sk ?_ | refine xt ?_ | refine rt ?_); conv => whnf) | (refine And.intro (fun h => ?_) (fun h => ?_) <;> (try simp only [brsA] at h) <;> conv => whnf) | (refine Or.inl ?_; (conv => whnf); (first | refine ⟨_, h1, ?_⟩ | refine ⟨_, h2, ?_⟩); conv => whnf) | ((first | refine wf ?_ | refine wp' ?_ | refine ai ?_ | refine And.intro rfl ?_ | refine an ?_ | fail); conv => whnf))
  · exact absurd trivial h
  · exact absurd h h3
end Go.Proofs.Ytfhdmhoeopbhnaa
namespace Go.Proofs.Ytfhdmhoeopbhnaa
open Go.Proofs.Ytfhdmhoeopbhnaa.Am Go.HeapL
variable [Inhabited DRT]
variable {G : GInv}
def pSum (ls : List Lk) (w : List Int) : Nat → Int
  | 0 => 0
  | j + 1 => pSum ls w j + wAt ls (w.getD j 0) (w.getD (j + 1) 0)
theorem pSum_cons (ls : List Lk) (x : Int) (w : List Int) : ∀ j, pSum ls (x :: w) (j + 1) = wAt ls x (w.getD 0 0) + pSum ls w j
  | 0 => by simp [pSum]
  | j + 1 => by
    have h := pSum_cons ls x w j
    show pSum ls (x :: w) (j + 1) + wAt ls ((x :: w).getD (j + 1) 0) ((x :: w).getD (j + 1 + 1) 0) = wAt ls x (w.getD 0 0) + (pSum ls w j + wAt ls (w.getD j 0) (w.getD (j + 1) 0))
    rw [h]
    simp only [List.getD_cons_succ]
    omega
theorem wsum_pSum (ls : List Lk) : ∀ w : List Int, wsum ls w = pSum ls w (w.length - 1)
  | [] => rfl
  | [_] => rfl
  | x :: y :: l => by
    have h := wsum_pSum ls (y :: l)
    rw [wsum, h, show (x :: y :: l).length - 1 = ((y :: l).length - 1) + 1 by simp, pSum_cons]
    rfl
theorem chn_at (ls : List Lk) : ∀ (w : List Int), chn ls w → ∀ j, j + 1 < w.length → 0 ≤ posL ls (w.getD j 0) (w.getD (j + 1) 0)
  | [], _, j, h => by simp at h
  | [_], _, j, h => by simp at h
  | x :: y :: l, hc, 0, h => hc.1
  | x :: y :: l, hc, j + 1, h => by
    have := chn_at ls (y :: l) hc.2 j (by simpa using h)
    simpa using this
/-- The least key at a place, so far. -/
def KI (l : List It) (v : Int) (i : Nat) (a : Int) : Prop := (a = -1 ∧ ∀ j, j < i → (l.getD j (0, 0)).2 ≠ v) ∨ (0 ≤ a ∧ (∃ j, j < i ∧ l.getD j (0, 0) = (a, v)) ∧ ∀ j, j < i → (l.getD j (0, 0)).2 = v → a ≤ (l.getD j (0, 0)).1)
theorem KI.init (l : List It) (v : Int) : KI l v 0 (-1) := .inl ⟨rfl, fun j h => by omega⟩
theorem KI.skip {l : List It} {v : Int} {i : Nat} {a : Int} (h : KI l v i a) (hn : (l.getD i (0, 0)).2 = v → 0 ≤ a ∧ a ≤ (l.getD i (0, 0)).1) : KI l v (i + 1) a := by
  rcases h with ⟨h1, h2⟩ | ⟨h1, ⟨j, hj, e⟩, h3⟩
  · refine .inl ⟨h1, fun j hj e => ?_⟩
    by_cases ej : j = i
    · subst ej; have := hn e; omega
    · exact h2 j (by omega) e
  · refine .inr ⟨h1, ⟨j, by omega, e⟩, fun j hj e => ?_⟩
    by_cases ej : j = i
    · subst ej; exact (hn e).2
    · exact h3 j (by omega) e
theorem KI.take {l : List It} {v : Int} {i : Nat} {a : Int} (h : KI l v i a) (he : (l.getD i (0, 0)).2 = v) (h0 : 0 ≤ (l.getD i (0, 0)).1) (hn : a < 0 ∨ (l.getD i (0, 0)).1 < a) : KI l v (i + 1) (l.getD i (0, 0)).1 := by
  refine .inr ⟨h0, ⟨i, by omega, by rw [← he]⟩, fun j hj e => ?_⟩
  by_cases ej : j = i
  · subst ej; exact Int.le_refl _
  · rcases h with ⟨h1, h2⟩ | ⟨h1, _, h3⟩
    · exact absurd e (h2 j (by omega))
    · have := h3 j (by omega) e
      omega
theorem KI.fin {l : List It} {v : Int} {a k : Int} (h : KI l v l.length a) (hm : (k, v) ∈ l) (hmin : ∀ k', (k', v) ∈ l → k ≤ k') : a = k := by
  obtain ⟨j, hj, e⟩ := mem_at hm
  have e : l.getD j (0, 0) = (k, v) := e
  rcases h with ⟨h1, h2⟩ | ⟨h1, ⟨i, hi, e'⟩, h3⟩
  · exact absurd (by rw [e]) (h2 j hj)
  · have a1 := h3 j hj (by rw [e])
    rw [e] at a1
    have a2 := hmin a (by rw [← e']; rw [List.getD_eq_getElem?_getD, List.getElem?_eq_getElem hi]; exact List.getElem_mem hi)
    have a1 : a ≤ k := a1
    omega
end Go.Proofs.Ytfhdmhoeopbhnaa
namespace Go.Proofs.Ytfhdmhoeopbhnaa
open Go.Proofs.Ytfhdmhoeopbhnaa.Am Go.HeapL
variable [Inhabited DRT]
variable {G : GInv}
theorem posL_lt (ls : List Lk) (a b : Int) (h : 0 ≤ posL ls a b) : posL ls a b < ls.length := by
  rcases posL_cases ls a b with ⟨h1, _⟩ | ⟨i, h1, h2, _⟩
  · omega
  · omega
theorem wAt_nn {n : Nat} {ls : List Lk} (hS : SortedP n ls) {a b : Int} (h : 0 ≤ posL ls a b) : 0 ≤ wAt ls a b ∧ wAt ls a b ≤ 1152921504606846976 := by
  have hl := posL_lt ls a b h
  have := (hS (posL ls a b).toNat (by omega)).1
  unfold okL at this
  exact this.2.2.2
theorem pSum_le {n : Nat} {ls : List Lk} (hS : SortedP n ls) {w : List Int} (hc : chn ls w) (j : Nat) : ∀ d, j + d + 1 ≤ w.length → 0 ≤ pSum ls w j ∧ pSum ls w j ≤ pSum ls w (j + d) := by
  have nn : ∀ j, j + 1 ≤ w.length → 0 ≤ pSum ls w j := by
    intro j
    induction j with
    | zero => intro _; exact Int.le_refl _
    | succ j ih =>
      intro h
      have h1 := ih (by omega)
      have h2 := (wAt_nn hS (chn_at ls w hc j (by omega))).1
      show 0 ≤ pSum ls w j + wAt ls (w.getD j 0) (w.getD (j + 1) 0)
      omega
  intro d
  induction d with
  | zero => intro h; exact ⟨nn j (by omega), Int.le_refl _⟩
  | succ d ih =>
    intro h
    have h1 := ih (by omega)
    have h2 := (wAt_nn hS (chn_at ls w hc (j + d) (by omega))).1
    refine ⟨h1.1, ?_⟩
    show pSum ls w j ≤ pSum ls w (j + d) + wAt ls (w.getD (j + d) 0) (w.getD (j + d + 1) 0)
    omega
set_option maxRecDepth 100000 in
set_option maxHeartbeats 4000000 in
theorem walk_c (rk : List Int) (ls : List Lk) (sa sz : List It) (w : List Int) (ka kz : Int) (hl : ls.length ≤ 1000000) (hr : rk.length ≤ 1000000) (hS : SortedP rk.length ls) (ha : ItP rk.length sa) (hz : ItP rk.length sz)
    (hw : 1 ≤ w.length) (hwl : w.length ≤ 1000000) (hc : chn ls w) (hka : (ka, w.getD 0 0) ∈ sa) (hka2 : ∀ k', (k', w.getD 0 0) ∈ sa → ka ≤ k') (hkz : (kz, w.getD (w.length - 1) 0) ∈ sz) (hkz2 : ∀ k', (k', w.getD (w.length - 1) 0) ∈ sz → kz ≤ k')
    (hsum : ka + kz + wsum ls w ≤ 4611686018427387904) :
    ACalls Try.prog G 36 [.agg [intsA rk, lksA ls], itmA sa, itmA sz, intsA w] (.int .i64 (ka + kz + wsum ls w)) := by
  have hla := ha.1
  have hlz := hz.1
  have bka := ha.mem hka
  have bkz := hz.mem hkz
  refine ACalls.of_WA ttok Try.func36 rfl rfl _ rfl ?_
  conv => whnf
  repeat' (first | refine sq ?_ | refine bk ?_ | ((first | refine rg ttok ?_ | refine dw ttok mixed ?_ | refine cd ?_ | refine sk ?_ | refine xt ?_ | refine rt ?_); conv => whnf) | (refine And.intro (fun h => ?_) (fun h => ?_) <;> (try simp only [brsA] at h) <;> conv => whnf) | ((first | refine wf ?_ | refine wp' ?_ | refine ai ?_ | refine And.intro rfl ?_ | refine an ?_ | fail); conv => whnf))
  · exfalso; omega
  refine WA_loopI (ι := Nat × Int) (fun x => x.1 ≤ sa.length ∧ KI sa (w.getD 0 0) x.1 x.2) (fun x => match x with | (i, a) => [(11, .int .i64 (i : Int)), (9, .int .i64 a)]) (fun x => match x with | (_, _) => [.box 25 [intsA rk, lksA ls]]) (fun x => sa.length - x.1) (0, -1) ⟨Nat.zero_le _, KI.init _ _⟩ ?_ ?_
  · conv => whnf
    repeat (first | exact fa | ((first | refine fb ?_ | (refine And.intro ?_ ?_; rotate_left)); conv => whnf))
  · rintro ⟨i, a⟩ ⟨hi, hI⟩
    have hi : i ≤ sa.length := hi
    have hI : KI sa (w.getD 0 0) i a := hI
    have hai : (i : Int) < sa.length → 0 ≤ (sa.getD (i : Int).toNat (0, 0)).1 := fun h => (ha.2 (i : Int).toNat (by omega)).2.2.1
    conv => whnf
    repeat' (first | refine sq ?_ | refine bk ?_ | ((first | refine rg ttok ?_ | refine dw ttok mixed ?_ | refine cd ?_ | refine sk ?_ | refine xt ?_ | refine rt ?_); conv => whnf) | (refine And.intro (fun h => ?_) (fun h => ?_) <;> (try simp only [brsA] at h) <;> conv => whnf) | ((first | refine wf ?_ | refine wp' ?_ | refine ai ?_ | refine And.intro rfl ?_ | refine an ?_ | fail); conv => whnf))
    · refine ⟨(i + 1, (sa.getD i (0, 0)).1), ⟨(by show i + 1 ≤ sa.length; omega), hI.take (by assumption) (hai (by omega)) (.inl h)⟩, (by show sa.length - (i + 1) < sa.length - i; omega), ?_⟩
      conv => whnf
      repeat (first | exact fa | ((first | refine fb ?_ | (refine And.intro ?_ ?_; rotate_left)); conv => whnf))
    · refine ⟨(i + 1, (sa.getD i (0, 0)).1), ⟨(by show i + 1 ≤ sa.length; omega), hI.take (by assumption) (hai (by omega)) (.inr h)⟩, (by show sa.length - (i + 1) < sa.length - i; omega), ?_⟩
      conv => whnf
      repeat (first | exact fa | ((first | refine fb ?_ | (refine And.intro ?_ ?_; rotate_left)); conv => whnf))
    · rename_i g
      refine ⟨(i + 1, a), ⟨(by show i + 1 ≤ sa.length; omega), hI.skip (fun _ => ⟨Int.not_lt.1 g, Int.not_lt.1 h⟩)⟩, (by show sa.length - (i + 1) < sa.length - i; omega), ?_⟩
      conv => whnf
      repeat (first | exact fa | ((first | refine fb ?_ | (refine And.intro ?_ ?_; rotate_left)); conv => whnf))
    · refine ⟨(i + 1, a), ⟨(by show i + 1 ≤ sa.length; omega), hI.skip (fun e => absurd e h)⟩, (by show sa.length - (i + 1) < sa.length - i; omega), ?_⟩
      conv => whnf
      repeat (first | exact fa | ((first | refine fb ?_ | (refine And.intro ?_ ?_; rotate_left)); conv => whnf))
    · have ei : i = sa.length := by omega
      subst ei
      have e1 := (hI.fin hka hka2).symm
      subst e1
      have hkz := hkz
      have el : ((w.length : Int) - 1).toNat = w.length - 1 := by omega
      rw [← el] at hkz hkz2
      conv => whnf
      refine WA_loopI (ι := Nat × Int) (fun x => x.1 ≤ sz.length ∧ KI sz (w.getD ((w.length : Int) - 1).toNat 0) x.1 x.2) (fun x => match x with | (i, a) => [(12, .int .i64 (i : Int)), (10, .int .i64 a)]) (fun x => match x with | (_, _) => [.box 25 [intsA rk, lksA ls]]) (fun x => sz.length - x.1) (0, -1) ⟨Nat.zero_le _, KI.init _ _⟩ ?_ ?_
      · conv => whnf
        repeat (first | exact fa | ((first | refine fb ?_ | (refine And.intro ?_ ?_; rotate_left)); conv => whnf))
      · rintro ⟨i, a⟩ ⟨hi, hI⟩
        have hi : i ≤ sz.length := hi
        have hI : KI sz (w.getD ((w.length : Int) - 1).toNat 0) i a := hI
        have hai : (i : Int) < sz.length → 0 ≤ (sz.getD (i : Int).toNat (0, 0)).1 := fun h => (hz.2 (i : Int).toNat (by omega)).2.2.1
        have hfin : ¬ (i : Int) < sz.length → 0 ≤ a ∧ a ≤ 1152921504606846976 := fun h => by
          have ei : i = sz.length := by omega
          have := hI
          rw [ei] at this
          have := this.fin hkz hkz2
          omega
        conv => whnf
        repeat' (first | refine sq ?_ | refine bk ?_ | ((first | refine rg ttok ?_ | refine dw ttok mixed ?_ | refine cd ?_ | refine sk ?_ | refine xt ?_ | refine rt ?_); conv => whnf) | (refine And.intro (fun h => ?_) (fun h => ?_) <;> (try simp only [brsA] at h) <;> conv => whnf) | ((first | refine wf ?_ | refine wp' ?_ | refine ai ?_ | refine And.intro rfl ?_ | refine an ?_ | fail); conv => whnf))
        · refine ⟨(i + 1, (sz.getD i (0, 0)).1), ⟨(by show i + 1 ≤ sz.length; omega), hI.take (by assumption) (hai (by omega)) (.inl h)⟩, (by show sz.length - (i + 1) < sz.length - i; omega), ?_⟩
          conv => whnf
          repeat (first | exact fa | ((first | refine fb ?_ | (refine And.intro ?_ ?_; rotate_left)); conv => whnf))
        · refine ⟨(i + 1, (sz.getD i (0, 0)).1), ⟨(by show i + 1 ≤ sz.length; omega), hI.take (by assumption) (hai (by omega)) (.inr h)⟩, (by show sz.length - (i + 1) < sz.length - i; omega), ?_⟩
          conv => whnf
          repeat (first | exact fa | ((first | refine fb ?_ | (refine And.intro ?_ ?_; rotate_left)); conv => whnf))
        · rename_i g
          refine ⟨(i + 1, a), ⟨(by show i + 1 ≤ sz.length; omega), hI.skip (fun _ => ⟨Int.not_lt.1 g, Int.not_lt.1 h⟩)⟩, (by show sz.length - (i + 1) < sz.length - i; omega), ?_⟩
          conv => whnf
          repeat (first | exact fa | ((first | refine fb ?_ | (refine And.intro ?_ ?_; rotate_left)); conv => whnf))
        · refine ⟨(i + 1, a), ⟨(by show i + 1 ≤ sz.length; omega), hI.skip (fun e => absurd e h)⟩, (by show sz.length - (i + 1) < sz.length - i; omega), ?_⟩
          conv => whnf
          repeat (first | exact fa | ((first | refine fb ?_ | (refine And.intro ?_ ?_; rotate_left)); conv => whnf))
        · have ei : i = sz.length := by omega
          subst ei
          have e2 := hI.fin hkz hkz2
          exfalso; omega
        · have ei : i = sz.length := by omega
          subst ei
          have e2 := (hI.fin hkz hkz2).symm
          subst e2
          have hps := wsum_pSum ls w
          refine WA_loopI (ι := Nat × Int) (fun x => x.1 + 1 ≤ w.length ∧ x.2 = ka + kz + pSum ls w x.1) (fun x => match x with | (j, s) => [(14, .int .i64 ((j + 1 : Nat) : Int)), (13, .int .i64 s)]) (fun x => match x with | (_, _) => [.box 25 [intsA rk, lksA ls]]) (fun x => w.length - x.1) (0, ka + kz) ⟨hw, by show ka + kz = ka + kz + 0; omega⟩ ?_ ?_
          · conv => whnf
            repeat (first | exact fa | ((first | refine fb ?_ | (refine And.intro ?_ ?_; rotate_left)); conv => whnf))
          · rintro ⟨j, s⟩ ⟨hj, hs⟩
            have hj : j + 1 ≤ w.length := hj
            have hs : s = ka + kz + pSum ls w j := hs
            have ej : (((j + 1 : Nat) : Int) - 1).toNat = j := by omega
            have hpj := pSum_le hS hc j (w.length - 1 - j) (by omega)
            rw [show j + (w.length - 1 - j) = w.length - 1 by omega, ← hps] at hpj
            have hpos : ((j + 1 : Nat) : Int) < w.length → 0 ≤ posL ls (w.getD (((j + 1 : Nat) : Int) - 1).toNat 0) (w.getD ((j + 1 : Nat) : Int).toNat 0) := fun h => by rw [ej]; exact chn_at ls w hc j (by omega)
            have hlt := fun h => posL_lt ls _ _ (hpos h)
            have hwt : ((j + 1 : Nat) : Int) < w.length → 0 ≤ (ls.getD (posL ls (w.getD (((j + 1 : Nat) : Int) - 1).toNat 0) (w.getD ((j + 1 : Nat) : Int).toNat 0)).toNat default).w ∧ (ls.getD (posL ls (w.getD (((j + 1 : Nat) : Int) - 1).toNat 0) (w.getD ((j + 1 : Nat) : Int).toNat 0)).toNat default).w ≤ 1152921504606846976 := fun h => wAt_nn hS (hpos h)
            have h1 := refLink_p (G := G) ls (w.getD (((j + 1 : Nat) : Int) - 1).toNat 0) (w.getD ((j + 1 : Nat) : Int).toNat 0) hl
            conv => whnf
            repeat' (first | refine sq ?_ | refine bk ?_ | ((first | refine rg ttok ?_ | refine dw ttok mixed ?_ | refine cd ?_ | refine sk ?_ | refine xt ?_ | refine rt ?_); conv => whnf) | (refine And.intro (fun h => ?_) (fun h => ?_) <;> (try simp only [brsA] at h) <;> conv => whnf) | (refine Or.inl ?_; (conv => whnf); refine ⟨_, h1, ?_⟩; conv => whnf) | ((first | refine wf ?_ | refine wp' ?_ | refine ai ?_ | refine And.intro rfl ?_ | refine an ?_ | fail); conv => whnf))
            · exfalso
              have := hpos (by assumption)
              omega
            · refine ⟨(j + 1, s + (ls.getD (posL ls (w.getD (((j + 1 : Nat) : Int) - 1).toNat 0) (w.getD ((j + 1 : Nat) : Int).toNat 0)).toNat default).w), ⟨(by show j + 1 + 1 ≤ w.length; omega), ?_⟩, (by show w.length - (j + 1) < w.length - j; omega), ?_⟩
              · show s + (ls.getD (posL ls (w.getD (((j + 1 : Nat) : Int) - 1).toNat 0) (w.getD ((j + 1 : Nat) : Int).toNat 0)).toNat default).w = ka + kz + (pSum ls w j + wAt ls (w.getD j 0) (w.getD (j + 1) 0))
                rw [ej, hs]
                unfold wAt
                rw [show ((j + 1 : Nat) : Int).toNat = j + 1 from rfl]
                omega
              · conv => whnf
                repeat (first | exact fa | ((first | refine fb ?_ | (refine And.intro ?_ ?_; rotate_left)); conv => whnf))
            · have ej' : j = w.length - 1 := by omega
              rw [hs, hps, ej']
        · exfalso; omega
end Go.Proofs.Ytfhdmhoeopbhnaa
namespace Go.Proofs.Ytfhdmhoeopbhnaa
open Go.Proofs.Ytfhdmhoeopbhnaa.Am Go.HeapL
variable [Inhabited DRT]
variable {G : GInv}
def eF (ls : List Lk) (i : Nat) : Int := (ls.getD i default).f
def eT (ls : List Lk) (i : Nat) : Int := (ls.getD i default).t
def eW (ls : List Lk) (i : Nat) : Int := (ls.getD i default).w
def cR (c : Nat → Int) : Nat → List A := fun k => [.int .i64 (c k)]
theorem cR_upd (c : Nat → Int) (i : Nat) (x : Int) (k : Nat) : updRow (cR c) i [.int .i64 x] k = cR (updF1 c i x) k := by
  unfold updRow cR updF1
  split <;> rfl
theorem c0_step (i : Nat) (k : Nat) : updRow (cR fun k => if k < i then NC else 0) i [.int .i64 4611686018427387904] k = cR (fun k => if k < i + 1 then NC else 0) k := by
  unfold updRow cR
  split
  · rename_i e; subst e
    show [A.int .i64 4611686018427387904] = [A.int .i64 (if k < k + 1 then NC else 0)]
    rw [if_pos (by omega)]; rfl
  · rename_i e
    show [A.int .i64 (if k < i then NC else 0)] = [A.int .i64 (if k < i + 1 then NC else 0)]
    by_cases h : k < i
    · rw [if_pos h, if_pos (by omega)]
    · rw [if_neg h, if_neg (by omega)]
theorem ini_a {n : Nat} {fr : Int} (h : 0 ≤ fr) (k : Nat) (hk : k < n) : updRow (cR fun k => if k < n then NC else 0) fr.toNat [.int .i64 0] k = cR (fun v => if (v : Int) = fr then 0 else NC) k := by
  unfold updRow cR
  split
  · rename_i e; subst e
    show [A.int .i64 0] = [A.int .i64 (if ((fr.toNat : Nat) : Int) = fr then 0 else NC)]
    rw [if_pos (by omega)]
  · rename_i e
    show [A.int .i64 (if k < n then NC else 0)] = [A.int .i64 (if ((k : Nat) : Int) = fr then 0 else NC)]
    rw [if_pos hk, if_neg (by omega)]
theorem ini_b {n : Nat} {fr : Int} (h : ¬ (0 ≤ fr ∧ fr < n)) (k : Nat) (hk : k < n) : cR (fun k => if k < n then NC else 0) k = cR (fun v => if (v : Int) = fr then 0 else NC) k := by
  show [A.int .i64 (if k < n then NC else 0)] = [A.int .i64 (if ((k : Nat) : Int) = fr then 0 else NC)]
  rw [if_pos hk, if_neg (by omega)]
set_option maxRecDepth 100000 in
set_option maxHeartbeats 8000000 in
theorem up0_c (rk : List Int) (ls : List Lk) (fr : Int) (hl : ls.length ≤ 1000000) (hr : rk.length ≤ 1000000) (hR : RanksP rk) (hS : SortedP rk.length ls) :
    ACalls Try.prog G 103 [.agg [intsA rk, lksA ls], .int .i64 fr, .bool false] (.sl rk.length 1 fun k => [.int .i64 (minV (UW ls.length (eF ls) (eT ls) (eW ls) (rkI rk) fr k))]) := by
  have hrk0 : ∀ v : Nat, v < rk.length → 0 ≤ rkI rk v := fun v hv => (hR v hv).1.1
  have hrkn : ∀ v : Nat, v < rk.length → rkI rk v < rk.length := fun v hv => (hR v hv).1.2
  refine ACalls.of_WA ttok Try.func103 rfl rfl _ rfl ?_
  conv => whnf
  repeat' (first | refine sq ?_ | refine bk ?_ | ((first | refine rg ttok ?_ | refine dw ttok mixed ?_ | refine cd ?_ | refine sk ?_ | refine xt ?_ | refine rt ?_); conv => whnf) | (refine And.intro (fun h => ?_) (fun h => ?_) <;> (try simp only [brsA] at h) <;> conv => whnf) | ((first | refine wf ?_ | refine wp' ?_ | refine ai ?_ | refine And.intro rfl ?_ | refine an ?_ | fail); conv => whnf))
  refine WA_loopI (fun i => i ≤ rk.length) (fun i => [(8, .int .i64 (i : Int))]) (fun i => [.box 25 [intsA rk, lksA ls], .row 3 1 rk.length (cR fun k => if k < i then NC else 0)]) (fun i => rk.length - i) 0 (by omega) ?_ ?_
  · conv => whnf
    repeat (first | exact fa | ((first | refine fb ?_ | (refine And.intro ?_ ?_; rotate_left)); conv => whnf))
  · intro i hi
    have hi : i ≤ rk.length := hi
    conv => whnf
    repeat' (first | refine sq ?_ | refine bk ?_ | ((first | refine rg ttok ?_ | refine dw ttok mixed ?_ | refine cd ?_ | refine sk ?_ | refine xt ?_ | refine rt ?_); conv => whnf) | (refine And.intro (fun h => ?_) (fun h => ?_) <;> (try simp only [brsA] at h) <;> conv => whnf) | ((first | refine wf ?_ | refine wp' ?_ | refine ai ?_ | refine And.intro rfl ?_ | refine an ?_ | fail); conv => whnf))
    · refine ⟨i + 1, (by show i + 1 ≤ rk.length; omega), (by show rk.length - (i + 1) < rk.length - i; omega), ?_⟩
      conv => whnf
      repeat (first | exact fa | ((first | refine fb ?_ | (refine And.intro ?_ ?_; rotate_left)); conv => whnf))
      exact Or.inl fun k hk => c0_step i k
    all_goals
      have e : i = rk.length := by omega
      subst e
      refine WA_loopI (ι := Nat × (Nat → Int)) (fun x => x.1 ≤ rk.length + 1 ∧ UpI ls.length rk.length (eF ls) (eT ls) (eW ls) (rkI rk) fr x.1 0 x.2) (fun x => match x with | (t, _) => [(9, .int .i64 (t : Int))]) (fun x => match x with | (_, c) => [.box 25 [intsA rk, lksA ls], .row 3 1 rk.length (cR c)]) (fun x => rk.length + 1 - x.1) (0, fun v => if (v : Int) = fr then 0 else NC) ⟨Nat.zero_le _, UpI.init hrk0⟩ ?_ ?_
      · conv => whnf
        repeat (first | exact fa | ((first | refine fb ?_ | (refine And.intro ?_ ?_; rotate_left)); conv => whnf))
        first
          | (refine Or.inl fun k hk => ini_a ?_ k hk; assumption)
          | (refine Or.inl fun k hk => ini_b ?_ k hk; omega)
      · rintro ⟨t, c⟩ ⟨ht, hI⟩
        have ht : t ≤ rk.length + 1 := ht
        have hI : UpI ls.length rk.length (eF ls) (eT ls) (eW ls) (rkI rk) fr t 0 c := hI
        conv => whnf
        repeat' (first | refine sq ?_ | refine bk ?_ | ((first | refine rg ttok ?_ | refine dw ttok mixed ?_ | refine cd ?_ | refine sk ?_ | refine xt ?_ | refine rt ?_); conv => whnf) | (refine And.intro (fun h => ?_) (fun h => ?_) <;> (try simp only [brsA] at h) <;> conv => whnf) | ((first | refine wf ?_ | refine wp' ?_ | refine ai ?_ | refine And.intro rfl ?_ | refine an ?_ | fail); conv => whnf))
        · refine WA_loopI (ι := Nat × (Nat → Int)) (fun x => x.1 ≤ ls.length ∧ UpI ls.length rk.length (eF ls) (eT ls) (eW ls) (rkI rk) fr t x.1 x.2) (fun x => match x with | (i, _) => [(10, .int .i64 (i : Int))]) (fun x => match x with | (_, c) => [.box 25 [intsA rk, lksA ls], .row 3 1 rk.length (cR c)]) (fun x => ls.length - x.1) (0, c) ⟨Nat.zero_le _, hI⟩ ?_ ?_
          · conv => whnf
            repeat (first | exact fa | ((first | refine fb ?_ | (refine And.intro ?_ ?_; rotate_left)); conv => whnf))
          · rintro ⟨i, c⟩ ⟨hi, hI⟩
            have hi : i ≤ ls.length := hi
            have hI : UpI ls.length rk.length (eF ls) (eT ls) (eW ls) (rkI rk) fr t i c := hI
            have hok : (i : Int) < ls.length → okL rk.length (ls.getD (i : Int).toNat default) := fun h => (hS i (by omega)).1
            have hok : (i : Int) < ls.length → (0 ≤ (ls.getD (i : Int).toNat default).f ∧ (ls.getD (i : Int).toNat default).f < rk.length) ∧ (0 ≤ (ls.getD (i : Int).toNat default).t ∧ (ls.getD (i : Int).toNat default).t < rk.length) ∧ 0 ≤ (ls.getD (i : Int).toNat default).w ∧ (ls.getD (i : Int).toNat default).w ≤ 1152921504606846976 := fun h => ⟨(hok h).1, (hok h).2.1, (hok h).2.2.2⟩
            have hb1 : (i : Int) < ls.length → 0 ≤ c (ls.getD (i : Int).toNat default).f.toNat ∧ c (ls.getD (i : Int).toNat default).f.toNat ≤ 4611686018427387904 := fun h => by
              have := hI.bd (ls.getD (i : Int).toNat default).f.toNat (by have := hok h; omega)
              unfold NC at this; exact ⟨this.1, this.2.1⟩
            have hb2 : (i : Int) < ls.length → 0 ≤ c (ls.getD (i : Int).toNat default).t.toNat ∧ c (ls.getD (i : Int).toNat default).t.toNat ≤ 4611686018427387904 := fun h => by
              have := hI.bd (ls.getD (i : Int).toNat default).t.toNat (by have := hok h; omega)
              unfold NC at this; exact ⟨this.1, this.2.1⟩
            have hL := fun (h : i < ls.length) => hI.link h (show 0 ≤ (eF ls) i ∧ (eF ls) i < rk.length from by have := hok (by omega); first | exact this.1 | exact this.2.1) (show 0 ≤ (eT ls) i ∧ (eT ls) i < rk.length from by have := hok (by omega); first | exact this.1 | exact this.2.1) (show 0 ≤ eW ls i from (hok (by omega)).2.2.1)
            conv => whnf
            repeat' (first | refine sq ?_ | refine bk ?_ | ((first | refine rg ttok ?_ | refine dw ttok mixed ?_ | refine cd ?_ | refine sk ?_ | refine xt ?_ | refine rt ?_); conv => whnf) | (refine And.intro (fun h => ?_) (fun h => ?_) <;> (try simp only [brsA] at h) <;> conv => whnf) | ((first | refine wf ?_ | refine wp' ?_ | refine ai ?_ | refine And.intro rfl ?_ | refine an ?_ | fail); conv => whnf))
            · refine ⟨(i + 1, updF1 c ((eT ls) i).toNat (c ((eF ls) i).toNat + eW ls i)), ⟨(by show i + 1 ≤ ls.length; omega), (hL (by omega)).1 (by assumption) (by assumption) h⟩, (by show ls.length - (i + 1) < ls.length - i; omega), ?_⟩
              conv => whnf
              repeat (first | exact fa | ((first | refine fb ?_ | (refine And.intro ?_ ?_; rotate_left)); conv => whnf))
              exact Or.inl fun k hk => cR_upd c _ _ k
            · refine ⟨(i + 1, c), ⟨(by show i + 1 ≤ ls.length; omega), (hL (by omega)).2 (fun hc => h hc.2.2)⟩, (by show ls.length - (i + 1) < ls.length - i; omega), ?_⟩
              conv => whnf
              repeat (first | exact fa | ((first | refine fb ?_ | (refine And.intro ?_ ?_; rotate_left)); conv => whnf))
            · refine ⟨(i + 1, c), ⟨(by show i + 1 ≤ ls.length; omega), (hL (by omega)).2 (fun hc => h hc.2.1)⟩, (by show ls.length - (i + 1) < ls.length - i; omega), ?_⟩
              conv => whnf
              repeat (first | exact fa | ((first | refine fb ?_ | (refine And.intro ?_ ?_; rotate_left)); conv => whnf))
            · refine ⟨(i + 1, c), ⟨(by show i + 1 ≤ ls.length; omega), (hL (by omega)).2 (fun hc => h hc.1)⟩, (by show ls.length - (i + 1) < ls.length - i; omega), ?_⟩
              conv => whnf
              repeat (first | exact fa | ((first | refine fb ?_ | (refine And.intro ?_ ?_; rotate_left)); conv => whnf))
            · have e : i = ls.length := by omega
              subst e
              refine ⟨(t + 1, c), ⟨(by show t + 1 ≤ rk.length + 1; omega), hI.round⟩, (by show rk.length + 1 - (t + 1) < rk.length + 1 - t; omega), ?_⟩
              conv => whnf
              repeat (first | exact fa | ((first | refine fb ?_ | (refine And.intro ?_ ?_; rotate_left)); conv => whnf))
        · have e : t = rk.length + 1 := by omega
          subst e
          refine Or.inl fun k hk => ?_
          have hf := hI.fin (fun v hv => by have := hrkn v hv; omega) hk
          show [A.int .i64 (c k)] = [A.int .i64 (minV (UW ls.length (eF ls) (eT ls) (eW ls) (rkI rk) fr k))]
          rw [minV_eq hf]
end Go.Proofs.Ytfhdmhoeopbhnaa
namespace Go.Proofs.Ytfhdmhoeopbhnaa
open Go.Proofs.Ytfhdmhoeopbhnaa.Am Go.HeapL
variable [Inhabited DRT]
variable {G : GInv}
set_option maxRecDepth 100000 in
set_option maxHeartbeats 2000000 in
theorem refItems_c (rk : List Int) (ls : List Lk) (l : List It) (hr : rk.length ≤ 1000000) (hl : l.length ≤ 1000000) :
    ACalls Try.prog G 70 [.agg [intsA rk, lksA ls], itmA l] (.sb (decide (ItP rk.length l))) := by
  refine ACalls.of_WA ttok Try.func70 rfl rfl _ rfl ?_
  conv => whnf
  repeat' (first | refine sq ?_ | refine bk ?_ | ((first | refine rg ttok ?_ | refine dw ttok mixed ?_ | refine cd ?_ | refine sk ?_ | refine xt ?_ | refine rt ?_); conv => whnf) | (refine And.intro (fun h => ?_) (fun h => ?_) <;> (try simp only [brsA] at h) <;> conv => whnf) | ((first | refine wf ?_ | refine wp' ?_ | refine ai ?_ | refine And.intro rfl ?_ | refine an ?_ | fail); conv => whnf))
  refine WA_loopI (fun i => i ≤ l.length ∧ ∀ j, j < i → badI rk.length (l.getD j (0, 0)) = false) (fun i => [(5, .int .i64 (i : Int))]) (fun i => [.box 25 [intsA rk, lksA ls]]) (fun i => l.length - i) 0 ⟨by omega, fun j h => by omega⟩ ?_ ?_
  · conv => whnf
    repeat (first | exact fa | ((first | refine fb ?_ | (refine And.intro ?_ ?_; rotate_left)); conv => whnf))
  · rintro i ⟨hi, hI⟩
    have hi : i ≤ l.length := hi
    have hbad : i < l.length → badI rk.length (l.getD i (0, 0)) = true → decide (ItP rk.length l) = false := fun h hb => decide_eq_false fun hp => by
      have := badI_iff.2 (hp.2 i h)
      rw [this] at hb; cases hb
    conv => whnf
    repeat' (first | refine sq ?_ | refine bk ?_ | ((first | refine rg ttok ?_ | refine dw ttok mixed ?_ | refine cd ?_ | refine sk ?_ | refine xt ?_ | refine rt ?_); conv => whnf) | (refine And.intro (fun h => ?_) (fun h => ?_) <;> (try simp only [brsA] at h) <;> conv => whnf) | ((first | refine wf ?_ | refine wp' ?_ | refine ai ?_ | refine And.intro rfl ?_ | refine an ?_ | fail); conv => whnf))
    · exact (hbad (by omega) (badI_true.2 (.inl h))).symm
    · exact (hbad (by omega) (badI_true.2 (.inr (.inl h)))).symm
    · exact (hbad (by omega) (badI_true.2 (.inr (.inr (.inl h))))).symm
    · exact (hbad (by omega) (badI_true.2 (.inr (.inr (.inr h))))).symm
    · have hg : badI rk.length (l.getD i (0, 0)) = false := badI_iff.2 (show 0 ≤ (l.getD (i : Int).toNat (0, 0)).2 ∧ (l.getD (i : Int).toNat (0, 0)).2 < rk.length ∧ 0 ≤ (l.getD (i : Int).toNat (0, 0)).1 ∧ (l.getD (i : Int).toNat (0, 0)).1 ≤ 1152921504606846976 from by omega)
      refine ⟨i + 1, ⟨(by show i + 1 ≤ l.length; omega), fun j hj => ?_⟩, (by show l.length - (i + 1) < l.length - i; omega), ?_⟩
      · have hj : j < i + 1 := hj
        by_cases e : j = i
        · rw [e]; exact hg
        · exact hI j (by omega)
      · conv => whnf
        repeat (first | exact fa | ((first | refine fb ?_ | (refine And.intro ?_ ?_; rotate_left)); conv => whnf))
    · have e : i = l.length := by omega
      subst e
      rw [decide_eq_decide]
      exact ⟨fun h => ⟨by omega, fun j hj => badI_iff.1 (hI j hj)⟩, fun h => by have := h.1; omega⟩
set_option maxRecDepth 100000 in
set_option maxHeartbeats 2000000 in
theorem refMay33_c (rk : List Int) (ls : List Lk) (sa sz : List It) (hl : ls.length ≤ 1000000) (hr : rk.length ≤ 1000000) (ha : sa.length ≤ 1000000) (hz : sz.length ≤ 1000000) :
    ACalls Try.prog G 33 [.agg [intsA rk, lksA ls], itmA sa, itmA sz] (.sb (decide (MayP rk ls ∧ ItP rk.length sa ∧ ItP rk.length sz))) := by
  have h1 := refMay_c (G := G) rk ls hl hr
  have h2 := refItems_c (G := G) rk ls sa hr ha
  have h3 := refItems_c (G := G) rk ls sz hr hz
  refine ACalls.of_WA ttok Try.func33 rfl rfl _ rfl ?_
  conv => whnf
  repeat' (first | refine sq ?_ | refine bk ?_ | ((first | refine rg ttok ?_ | refine dw ttok mixed ?_ | refine cd ?_ | refine sk ?_ | refine xt ?_ | refine rt ?_); conv => whnf) | (refine And.intro (fun h => ?_) (fun h => ?_) <;> (try simp only [brsA] at h) <;> conv => whnf) | (refine Or.inl ?_; (conv => whnf); (first | refine ⟨_, h1, ?_⟩ | refine ⟨_, h2, ?_⟩ | refine ⟨_, h3, ?_⟩); conv => whnf) | ((first | refine wf ?_ | refine wp' ?_ | refine ai ?_ | refine And.intro rfl ?_ | refine an ?_ | fail); conv => whnf))
  · rename_i g
    rw [decide_eq_decide]
    exact ⟨fun hz => ⟨g, h, hz⟩, fun hc => hc.2.2⟩
  · exact (decide_eq_false fun hc => h hc.2.1).symm
  · exact (decide_eq_false fun hc => h hc.1).symm
end Go.Proofs.Ytfhdmhoeopbhnaa
namespace Go.Proofs.Ytfhdmhoeopbhnaa
open Go.Proofs.Ytfhdmhoeopbhnaa.Am Go.HeapL
variable [Inhabited DRT]
variable {G : GInv}
theorem minV_congr {P Q : Int → Prop} (h : ∀ d, P d ↔ Q d) : minV P = minV Q := by
  have : P = Q := funext fun d => propext (h d)
  rw [this]
abbrev wU (rk : List Int) (ls : List Lk) (s : Int) (v : Nat) : Int → Prop := Wk [(0, s)] (upE rk ls) v
abbrev wD (rk : List Int) (ls : List Lk) (s : Int) (v : Nat) : Int → Prop := Wk [(0, s)] (dnE rk ls) v
theorem wU_eq (rk : List Int) (ls : List Lk) (s : Int) (v : Nat) : minV (UW ls.length (eF ls) (eT ls) (eW ls) (rkI rk) s v) = minV (wU rk ls s v) :=
  minV_congr fun d => uw_wk (fun u w x => upE_mem rk ls u w x) s v d
theorem wD_eq (rk : List Int) (ls : List Lk) (s : Int) (v : Nat) : minV (UW ls.length (eT ls) (eF ls) (eW ls) (rkI rk) s v) = minV (wD rk ls s v) :=
  minV_congr fun d => uw_wk (fun u w x => dnE_mem rk ls u w x) s v d
theorem wU_nn {rk : List Int} {ls : List Lk} (hS : SortedP rk.length ls) {s : Int} {v : Nat} (h : 0 ≤ s ∧ s < rk.length) : ∀ d, wU rk ls s v d → 0 ≤ d := fun d hd => (wk_ok (dat_up hS (itp_one h)) hd).2.2
theorem wD_nn {rk : List Int} {ls : List Lk} (hS : SortedP rk.length ls) {s : Int} {v : Nat} (h : 0 ≤ s ∧ s < rk.length) : ∀ d, wD rk ls s v d → 0 ≤ d := fun d hd => (wk_ok (dat_dn hS (itp_one h)) hd).2.2
theorem minV_min {P : Int → Prop} (h : ∀ d, P d → 0 ≤ d) : IsMin P (minV P) := minV_ok (IsMin.ex P h)
theorem isMin_bd {P : Int → Prop} {x : Int} (h : IsMin P x) (h0 : ∀ d, P d → 0 ≤ d) : 0 ≤ x ∧ x ≤ NC := by
  refine ⟨?_, h.1⟩
  by_cases hx : x < NC
  · exact h0 x (h.2.2 hx)
  · unfold NC at hx; omega
def mid (rk : List Int) (ls : List Lk) (s e : Int) (i : Nat) (d : Int) : Prop := ∃ v : Nat, v < i ∧ ∃ a b, wU rk ls s v a ∧ wD rk ls e v b ∧ d = a + b
theorem mid_step (rk : List Int) (ls : List Lk) (s e : Int) (i : Nat) (d : Int) : mid rk ls s e (i + 1) d ↔ mid rk ls s e i d ∨ ∃ a b, wU rk ls s i a ∧ wD rk ls e i b ∧ d = a + b := by
  constructor
  · rintro ⟨v, hv, h⟩
    by_cases ev : v = i
    · subst ev; exact .inr h
    · exact .inl ⟨v, by omega, h⟩
  · rintro (⟨v, hv, h⟩ | h)
    · exact ⟨v, by omega, h⟩
    · exact ⟨i, by omega, h⟩
theorem mid_all {rk : List Int} {ls : List Lk} (hS : SortedP rk.length ls) {s e : Int} (h : 0 ≤ s ∧ s < rk.length) (d : Int) : mid rk ls s e rk.length d ↔ two [(0, s)] [(0, e)] (upE rk ls) (dnE rk ls) d := by
  rw [two_at (dat_up hS (itp_one h))]
  exact ⟨fun ⟨v, hv, k⟩ => ⟨v, by omega, k⟩, fun ⟨v, hv, k⟩ => ⟨v, by omega, k⟩⟩
set_option maxRecDepth 100000 in
set_option maxHeartbeats 2000000 in
theorem least24_c (rk : List Int) (ls : List Lk) (s e : Int) (hl : ls.length ≤ 1000000) (hr : rk.length ≤ 1000000) (hR : RanksP rk) (hS : SortedP rk.length ls) (hs : 0 ≤ s ∧ s < rk.length) (he : 0 ≤ e ∧ e < rk.length)
    (h1 : ACalls Try.prog G 103 [.agg [intsA rk, lksA ls], .int .i64 s, .bool false] (.sl rk.length 1 fun k => [.int .i64 (minV (wU rk ls s k))])) (h2 : ACalls Try.prog G 103 [.agg [intsA rk, lksA ls], .int .i64 e, .bool true] (.sl rk.length 1 fun k => [.int .i64 (minV (wD rk ls e k))])) :
    ACalls Try.prog G 71 [.agg [intsA rk, lksA ls], .int .i64 s, .int .i64 e] (.int .i64 (minV (two [(0, s)] [(0, e)] (upE rk ls) (dnE rk ls)))) := by
  refine ACalls.of_WA ttok Try.func71 rfl rfl _ rfl ?_
  conv => whnf
  repeat' (first | refine sq ?_ | refine bk ?_ | ((first | refine rg ttok ?_ | refine dw ttok mixed ?_ | refine cd ?_ | refine sk ?_ | refine xt ?_ | refine rt ?_); conv => whnf) | (refine And.intro (fun h => ?_) (fun h => ?_) <;> (try simp only [brsA] at h) <;> conv => whnf) | (refine Or.inl ?_; (conv => whnf); (first | refine ⟨_, h1, ?_⟩ | refine ⟨_, h2, ?_⟩); conv => whnf) | ((first | refine wf ?_ | refine wp' ?_ | refine ai ?_ | refine And.intro rfl ?_ | refine an ?_ | fail); conv => whnf))
  refine WA_loopI (ι := Nat × Int) (fun x => x.1 ≤ rk.length ∧ IsMin (mid rk ls s e x.1) x.2) (fun x => match x with | (i, b) => [(10, .int .i64 (i : Int)), (9, .int .i64 b)]) (fun x => match x with | (_, _) => [.box 25 [intsA rk, lksA ls]]) (fun x => rk.length - x.1) (0, NC) ⟨Nat.zero_le _, IsMin.none (fun d ⟨v, hv, _⟩ => by omega)⟩ ?_ ?_
  · conv => whnf
    repeat (first | exact fa | ((first | refine fb ?_ | (refine And.intro ?_ ?_; rotate_left)); conv => whnf))
  · rintro ⟨i, b⟩ ⟨hi, hI⟩
    have hi : i ≤ rk.length := hi
    have hI : IsMin (mid rk ls s e i) b := hI
    have hA := minV_min (wU_nn hS (v := (i : Int).toNat) hs)
    have hB := minV_min (wD_nn hS (v := (i : Int).toNat) he)
    have bA := isMin_bd hA (wU_nn hS (v := (i : Int).toNat) hs)
    have bB := isMin_bd hB (wD_nn hS (v := (i : Int).toNat) he)
    unfold NC at bA bB
    have hst := IsMin.step2 hI hA hB (wU_nn hS hs) (wD_nn hS he) (mid_step rk ls s e i)
    unfold NC at hst
    conv => whnf
    repeat' (first | refine sq ?_ | refine bk ?_ | ((first | refine rg ttok ?_ | refine dw ttok mixed ?_ | refine cd ?_ | refine sk ?_ | refine xt ?_ | refine rt ?_); conv => whnf) | (refine And.intro (fun h => ?_) (fun h => ?_) <;> (try simp only [brsA] at h) <;> conv => whnf) | ((first | refine wf ?_ | refine wp' ?_ | refine ai ?_ | refine And.intro rfl ?_ | refine an ?_ | fail); conv => whnf))
    · refine ⟨(i + 1, minV (wU rk ls s i) + minV (wD rk ls e i)), ⟨(by show i + 1 ≤ rk.length; omega), hst.1 (by assumption) (by assumption) h⟩, (by show rk.length - (i + 1) < rk.length - i; omega), ?_⟩
      conv => whnf
      repeat (first | exact fa | ((first | refine fb ?_ | (refine And.intro ?_ ?_; rotate_left)); conv => whnf))
    · refine ⟨(i + 1, b), ⟨(by show i + 1 ≤ rk.length; omega), hst.2 (fun hc => h hc.2.2)⟩, (by show rk.length - (i + 1) < rk.length - i; omega), ?_⟩
      conv => whnf
      repeat (first | exact fa | ((first | refine fb ?_ | (refine And.intro ?_ ?_; rotate_left)); conv => whnf))
    · refine ⟨(i + 1, b), ⟨(by show i + 1 ≤ rk.length; omega), hst.2 (fun hc => h hc.2.1)⟩, (by show rk.length - (i + 1) < rk.length - i; omega), ?_⟩
      conv => whnf
      repeat (first | exact fa | ((first | refine fb ?_ | (refine And.intro ?_ ?_; rotate_left)); conv => whnf))
    · refine ⟨(i + 1, b), ⟨(by show i + 1 ≤ rk.length; omega), hst.2 (fun hc => h hc.1)⟩, (by show rk.length - (i + 1) < rk.length - i; omega), ?_⟩
      conv => whnf
      repeat (first | exact fa | ((first | refine fb ?_ | (refine And.intro ?_ ?_; rotate_left)); conv => whnf))
    · have ei : i = rk.length := by omega
      subst ei
      exact (minV_eq (hI.congr (mid_all hS hs))).symm
end Go.Proofs.Ytfhdmhoeopbhnaa
namespace Go.Proofs.Ytfhdmhoeopbhnaa
open Go.Proofs.Ytfhdmhoeopbhnaa.Am Go.HeapL
variable [Inhabited DRT]
variable {G : GInv}
abbrev two1 (rk : List Int) (ls : List Lk) (s e : Int) : Int → Prop := two [(0, s)] [(0, e)] (upE rk ls) (dnE rk ls)
theorem two1_nn {rk : List Int} {ls : List Lk} (hS : SortedP rk.length ls) {s e : Int} (h : 0 ≤ s ∧ s < rk.length) (h' : 0 ≤ e ∧ e < rk.length) : ∀ d, two1 rk ls s e d → 0 ≤ d := by
  rintro d ⟨v, ka, kz, h1, h2, rfl⟩
  have a1 := (wk_ok (dat_up hS (itp_one h)) h1).2.2
  have a2 := (wk_ok (dat_dn hS (itp_one h')) h2).2.2
  omega
set_option maxRecDepth 100000 in
set_option maxHeartbeats 4000000 in
theorem least26_c (rk : List Int) (ls : List Lk) (sa sz : List It) (hl : ls.length ≤ 1000000) (hr : rk.length ≤ 1000000) (hS : SortedP rk.length ls) (ha : ItP rk.length sa) (hz : ItP rk.length sz)
    (hL : ∀ s e : Int, (0 ≤ s ∧ s < rk.length) → (0 ≤ e ∧ e < rk.length) → ACalls Try.prog G 71 [.agg [intsA rk, lksA ls], .int .i64 s, .int .i64 e] (.int .i64 (minV (two1 rk ls s e)))) :
    ACalls Try.prog G 35 [.agg [intsA rk, lksA ls], itmA sa, itmA sz] (.int .i64 (minV (two sa sz (upE rk ls) (dnE rk ls)))) := by
  have hla := ha.1
  have hlz := hz.1
  refine ACalls.of_WA ttok Try.func35 rfl rfl _ rfl ?_
  conv => whnf
  repeat' (first | refine sq ?_ | refine bk ?_ | ((first | refine rg ttok ?_ | refine dw ttok mixed ?_ | refine cd ?_ | refine sk ?_ | refine xt ?_ | refine rt ?_); conv => whnf) | (refine And.intro (fun h => ?_) (fun h => ?_) <;> (try simp only [brsA] at h) <;> conv => whnf) | ((first | refine wf ?_ | refine wp' ?_ | refine ai ?_ | refine And.intro rfl ?_ | refine an ?_ | fail); conv => whnf))
  refine WA_loopI (ι := Nat × Int) (fun x => x.1 ≤ sa.length ∧ IsMin (twoTo sa sz (upE rk ls) (dnE rk ls) x.1 0) x.2) (fun x => match x with | (i, b) => [(8, .int .i64 (i : Int)), (7, .int .i64 b)]) (fun x => match x with | (_, _) => [.box 25 [intsA rk, lksA ls]]) (fun x => sa.length - x.1) (0, NC) ⟨Nat.zero_le _, IsMin.none (fun d ⟨i', k', h, _⟩ => by omega)⟩ ?_ ?_
  · conv => whnf
    repeat (first | exact fa | ((first | refine fb ?_ | (refine And.intro ?_ ?_; rotate_left)); conv => whnf))
  · rintro ⟨i, b⟩ ⟨hi, hI⟩
    have hi : i ≤ sa.length := hi
    have hI : IsMin (twoTo sa sz (upE rk ls) (dnE rk ls) i 0) b := hI
    conv => whnf
    repeat' (first | refine sq ?_ | refine bk ?_ | ((first | refine rg ttok ?_ | refine dw ttok mixed ?_ | refine cd ?_ | refine sk ?_ | refine xt ?_ | refine rt ?_); conv => whnf) | (refine And.intro (fun h => ?_) (fun h => ?_) <;> (try simp only [brsA] at h) <;> conv => whnf) | ((first | refine wf ?_ | refine wp' ?_ | refine ai ?_ | refine And.intro rfl ?_ | refine an ?_ | fail); conv => whnf))
    · refine WA_loopI (ι := Nat × Int) (fun x => x.1 ≤ sz.length ∧ IsMin (twoTo sa sz (upE rk ls) (dnE rk ls) i x.1) x.2) (fun x => match x with | (k, b) => [(9, .int .i64 (k : Int)), (7, .int .i64 b)]) (fun x => match x with | (_, _) => [.box 25 [intsA rk, lksA ls]]) (fun x => sz.length - x.1) (0, b) ⟨Nat.zero_le _, hI⟩ ?_ ?_
      · conv => whnf
        repeat (first | exact fa | ((first | refine fb ?_ | (refine And.intro ?_ ?_; rotate_left)); conv => whnf))
      · rintro ⟨k, b⟩ ⟨hk, hK⟩
        have hk : k ≤ sz.length := hk
        have hK : IsMin (twoTo sa sz (upE rk ls) (dnE rk ls) i k) b := hK
        have hai := ha.2 (i : Int).toNat (by omega)
        have hzk : (k : Int) < sz.length → 0 ≤ (sz.getD (k : Int).toNat (0, 0)).2 ∧ (sz.getD (k : Int).toNat (0, 0)).2 < rk.length ∧ 0 ≤ (sz.getD (k : Int).toNat (0, 0)).1 ∧ (sz.getD (k : Int).toNat (0, 0)).1 ≤ 1152921504606846976 := fun h => hz.2 (k : Int).toNat (by omega)
        have h1 := fun h : (k : Int) < sz.length => hL (sa.getD (i : Int).toNat (0, 0)).2 (sz.getD (k : Int).toNat (0, 0)).2 ⟨hai.1, hai.2.1⟩ ⟨(hzk h).1, (hzk h).2.1⟩
        have hT := fun h : (k : Int) < sz.length => minV_min (two1_nn hS (s := (sa.getD (i : Int).toNat (0, 0)).2) (e := (sz.getD (k : Int).toNat (0, 0)).2) ⟨hai.1, hai.2.1⟩ ⟨(hzk h).1, (hzk h).2.1⟩)
        have hbT := fun h : (k : Int) < sz.length => isMin_bd (hT h) (two1_nn hS (s := (sa.getD (i : Int).toNat (0, 0)).2) (e := (sz.getD (k : Int).toNat (0, 0)).2) ⟨hai.1, hai.2.1⟩ ⟨(hzk h).1, (hzk h).2.1⟩)
        unfold NC at hbT
        have hst := fun h : (k : Int) < sz.length => IsMin.step hK (hT h) (two1_nn hS ⟨hai.1, hai.2.1⟩ ⟨(hzk h).1, (hzk h).2.1⟩) (k := (sa.getD (i : Int).toNat (0, 0)).1 + (sz.getD (k : Int).toNat (0, 0)).1) (by have := hzk h; omega) (twoTo_step (i := i) (k := k) (by omega) (by omega))
        unfold NC at hst
        conv => whnf
        repeat' (first | refine sq ?_ | refine bk ?_ | ((first | refine rg ttok ?_ | refine dw ttok mixed ?_ | refine cd ?_ | refine sk ?_ | refine xt ?_ | refine rt ?_); conv => whnf) | (refine And.intro (fun h => ?_) (fun h => ?_) <;> (try simp only [brsA] at h) <;> conv => whnf) | (refine Or.inl ?_; (conv => whnf); refine ⟨_, h1 (by omega), ?_⟩; conv => whnf) | ((first | refine wf ?_ | refine wp' ?_ | refine ai ?_ | refine And.intro rfl ?_ | refine an ?_ | fail); conv => whnf))
        · have h3 : (sa.getD (i : Int).toNat (0, 0)).1 + minV (two1 rk ls (sa.getD (i : Int).toNat (0, 0)).2 (sz.getD (k : Int).toNat (0, 0)).2) + (sz.getD (k : Int).toNat (0, 0)).1 < b := h
          have h2 := (hst (by omega)).1 (by assumption) (by omega)
          rw [show (sa.getD (i : Int).toNat (0, 0)).1 + (sz.getD (k : Int).toNat (0, 0)).1 + minV (two1 rk ls (sa.getD (i : Int).toNat (0, 0)).2 (sz.getD (k : Int).toNat (0, 0)).2) = (sa.getD (i : Int).toNat (0, 0)).1 + minV (two1 rk ls (sa.getD (i : Int).toNat (0, 0)).2 (sz.getD (k : Int).toNat (0, 0)).2) + (sz.getD (k : Int).toNat (0, 0)).1 by omega] at h2
          refine ⟨(k + 1, (sa.getD (i : Int).toNat (0, 0)).1 + minV (two1 rk ls (sa.getD (i : Int).toNat (0, 0)).2 (sz.getD (k : Int).toNat (0, 0)).2) + (sz.getD (k : Int).toNat (0, 0)).1), ⟨(by show k + 1 ≤ sz.length; omega), h2⟩, (by show sz.length - (k + 1) < sz.length - k; omega), ?_⟩
          conv => whnf
          repeat (first | exact fa | ((first | refine fb ?_ | (refine And.intro ?_ ?_; rotate_left)); conv => whnf))
        · have h3 : ¬ (sa.getD (i : Int).toNat (0, 0)).1 + minV (two1 rk ls (sa.getD (i : Int).toNat (0, 0)).2 (sz.getD (k : Int).toNat (0, 0)).2) + (sz.getD (k : Int).toNat (0, 0)).1 < b := h
          refine ⟨(k + 1, b), ⟨(by show k + 1 ≤ sz.length; omega), (hst (by omega)).2 (fun hc => h3 (by have := hc.2; omega))⟩, (by show sz.length - (k + 1) < sz.length - k; omega), ?_⟩
          conv => whnf
          repeat (first | exact fa | ((first | refine fb ?_ | (refine And.intro ?_ ?_; rotate_left)); conv => whnf))
        · refine ⟨(k + 1, b), ⟨(by show k + 1 ≤ sz.length; omega), (hst (by omega)).2 (fun hc => h hc.1)⟩, (by show sz.length - (k + 1) < sz.length - k; omega), ?_⟩
          conv => whnf
          repeat (first | exact fa | ((first | refine fb ?_ | (refine And.intro ?_ ?_; rotate_left)); conv => whnf))
        · have ek : k = sz.length := by omega
          subst ek
          refine ⟨(i + 1, b), ⟨(by show i + 1 ≤ sa.length; omega), hK.congr twoTo_row⟩, (by show sa.length - (i + 1) < sa.length - i; omega), ?_⟩
          conv => whnf
          repeat (first | exact fa | ((first | refine fb ?_ | (refine And.intro ?_ ?_; rotate_left)); conv => whnf))
    · have ei : i = sa.length := by omega
      subst ei
      exact (minV_eq (hI.congr twoTo_all)).symm
end Go.Proofs.Ytfhdmhoeopbhnaa
namespace Go.Proofs.Ytfhdmhoeopbhnaa
open Go.Proofs.Ytfhdmhoeopbhnaa.Am Go.HeapL
variable [Inhabited DRT]
structure Good (ls : List Lk) (sa sz : List It) (w : List Int) (ka kz : Int) : Prop where
  l1 : 1 ≤ w.length
  l2 : w.length ≤ 1000000
  ch : chn ls w
  m1 : (ka, w.getD 0 0) ∈ sa
  m2 : ∀ k', (k', w.getD 0 0) ∈ sa → ka ≤ k'
  n1 : (kz, w.getD (w.length - 1) 0) ∈ sz
  n2 : ∀ k', (k', w.getD (w.length - 1) 0) ∈ sz → kz ≤ k'
theorem lastD_append (xs : List Int) (v : Int) (ys : List Int) : (xs ++ v :: ys).getLastD 0 = (v :: ys).getLastD 0 := by
  rw [List.getLastD_eq_getLast?, List.getLastD_eq_getLast?, List.getLast?_append]
  cases h : (v :: ys).getLast? with
  | none => simp at h
  | some a => rfl
theorem last_getD (l : List Int) (h : 1 ≤ l.length) : l.getD (l.length - 1) 0 = l.getLastD 0 := by
  rw [List.getLastD_eq_getLast?, List.getLast?_eq_getElem?, List.getD_eq_getElem?_getD]
theorem first_rev (l : List Int) : l.reverse.getD 0 0 = l.getLastD 0 := by
  rw [List.getLastD_eq_getLast?, List.getD_eq_getElem?_getD, ← List.head?_eq_getElem?, List.head?_reverse]
theorem way_join {rk : List Int} {ls : List Lk} {sa sz : List It} (hS : SortedP rk.length ls) {pa pz : List Int} {ka kz pt : Int} (h1 : PC sa (upE rk ls) pa ka) (h2 : PC sz (dnE rk ls) pz kz)
    (ha : pa.head? = some pt) (hz : pz.head? = some pt) (hla : pa.length ≤ 100000) (hlz : pz.length ≤ 100000) :
    ∃ k0 k1, Good ls sa sz (wayL pa pz) k0 k1 ∧ k0 + k1 + wsum ls (wayL pa pz) = ka + kz := by
  obtain ⟨c1, k0, a1, a2, a3⟩ := pc_up hS h1
  obtain ⟨c2, k1, b1, b2, b3⟩ := pc_dn hS h2
  cases pa with
  | nil => cases ha
  | cons x xs =>
    cases pz with
    | nil => cases hz
    | cons y ys =>
      simp only [List.head?_cons, Option.some.injEq] at ha hz
      subst ha; subst hz
      have e : wayL (y :: xs) (y :: ys) = xs.reverse ++ y :: ys := by
        unfold wayL
        simp
      have hf : (xs.reverse ++ y :: ys).getD 0 0 = (y :: xs).getLastD 0 := by
        rw [← first_rev, List.reverse_cons]
        cases xs.reverse <;> rfl
      have hg : (xs.reverse ++ y :: ys).getD ((xs.reverse ++ y :: ys).length - 1) 0 = (y :: ys).getLastD 0 := by
        rw [last_getD _ (by rw [List.length_append, List.length_cons]; omega), lastD_append]
      simp only [List.reverse_cons] at c1 a3
      rw [e]
      refine ⟨k0, k1, ⟨by rw [List.length_append, List.length_cons]; omega, by rw [List.length_cons] at hla hlz; rw [List.length_append, List.length_reverse, List.length_cons]; omega, chn_app ls y ys _ c1 c2, ?_, ?_, ?_, ?_⟩, ?_⟩
      · rw [hf]; exact a1
      · rw [hf]; exact a2
      · rw [hg]; exact b1
      · rw [hg]; exact b2
      · rw [wsum_app, a3, b3]; omega
theorem pth_PB {n : Int} {st : List It} {lk : Int → List It} {D : List Int} {S : Sd} (h : Inv n st lk D S) (p : List Int) (hp : ∀ i, i < p.length → ∃ k', S.c (p.getD i (-1)) = some k' ∧ S.f (p.getD i (-1)) = p.getD (i + 1) (-1)) : PB S p := fun i hi => by
  obtain ⟨k', e1, e2⟩ := hp i hi
  have := h.rng _ _ e1
  exact ⟨this.1, by rw [e1]; rfl, e2⟩
/-- What Way answers. -/
theorem way_law (rk : List Int) (ls : List Lk) (sa sz : List It) (hs : Sml rk ls sa sz) (h : MayP rk ls ∧ ItP rk.length sa ∧ ItP rk.length sz) :
    ∃ (w : List Int) (c e : Int) (s : St), (∀ G, ACalls Try.prog G 31 [.agg [intsA rk, lksA ls], itmA sa, itmA sz] (.tup [intsA w, .int .i64 c, .int .i64 e])) ∧
      (∀ G, ACalls Try.prog G 67 [.agg [intsA rk, lksA ls], itmA sa, itmA sz, .bool false] (srA rk ls false s)) ∧ Jx rk ls sa sz false s ∧
      ((minV (two sa sz (upE rk ls) (dnE rk ls)) = NC ∧ w = [] ∧ c = 0 ∧ e = 12) ∨
       (minV (two sa sz (upE rk ls) (dnE rk ls)) < NC ∧ minV (two sa sz (upE rk ls) (dnE rk ls)) = c ∧ e = 0 ∧ ∃ ka kz, Good ls sa sz w ka kz ∧ ka + kz + wsum ls w = c)) := by
  obtain ⟨s, ⟨Da, Dz, hJ⟩, hf, hc⟩ := search_ok rk ls sa sz false h.1 h.2.1 h.2.2
  obtain ⟨hr, hl, hR, hS, _⟩ := h.1
  have hd := dat_up hS h.2.1
  have hd' := dat_dn hS h.2.2
  have hm := minV_eq (fin_isMin hd hd' hJ hf)
  rcases hJ.bb with ⟨h1, h2⟩ | ⟨h0, h1, _⟩
  · exact ⟨[], 0, 12, s, fun G => way_none rk ls sa sz hs h s (hc G) (by omega), hc, ⟨Da, Dz, hJ⟩, .inl ⟨by rw [hm, h2], rfl, rfl, rfl⟩⟩
  · obtain ⟨ka, kz, e1, e2, e3⟩ := fin_sum hd hd' hJ hf (by omega)
    have ra := hJ.ia.rng _ _ e1
    obtain ⟨Na, _, pa1, pa2, pa3, pa4⟩ := pth_ok hJ.ia hJ.ba (rkN rk) (rise_up hR hS) rk.length s.b.pt ka (by have := rkN_le hR (v := s.b.pt) ⟨ra.1, ra.2.1⟩; omega) e1
    obtain ⟨Nz, _, pz1, pz2, pz3, pz4⟩ := pth_ok hJ.iz hJ.bz (rkN rk) (rise_dn hR hS) rk.length s.b.pt kz (by have := rkN_le hR (v := s.b.pt) ⟨ra.1, ra.2.1⟩; omega) e2
    generalize pth s.a.f Na s.b.pt = pa at *
    generalize pth s.z.f Nz s.b.pt = pz at *
    obtain ⟨k0, k1, g, hg⟩ := way_join hS pa1 pz1 pa3 pz3 (by omega) (by omega)
    have gd : ∀ p : List Int, p.head? = some s.b.pt → p.getD 0 (-1) = s.b.pt := fun p hp => by
      cases p with
      | nil => cases hp
      | cons x l => simpa using hp
    refine ⟨wayL pa pz, s.b.cost, 0, s, fun G => way_some rk ls sa sz hs h s (hc G) (by omega) pa pz (gd pa pa3) (gd pz pz3) (pth_PB hJ.ia pa pa4) (pth_PB hJ.iz pz pz4) (by omega) (by omega) ?_, hc, ⟨Da, Dz, hJ⟩, .inr ⟨by rw [hm]; exact h1, hm, rfl, k0, k1, g, by rw [hg, e3]⟩⟩
    cases pz with
    | nil => cases pz3
    | cons x l => rw [List.length_cons]; omega
end Go.Proofs.Ytfhdmhoeopbhnaa
namespace Go.Proofs.Ytfhdmhoeopbhnaa
open Go.Proofs.Ytfhdmhoeopbhnaa.Am Go.HeapL
variable [Inhabited DRT]
variable {G : GInv}
set_option maxRecDepth 100000 in
theorem light_c (sa sz : List It) : ACalls Try.prog G 28 [.agg [itmA sa, itmA sz]] (.sb (decide (sa.length ≤ 1010 ∧ sz.length ≤ 1010))) := by
  refine ACalls.of_WA ttok Try.func28 rfl rfl _ rfl ?_
  conv => whnf
  repeat' (first | refine sq ?_ | refine bk ?_ | ((first | refine rg ttok ?_ | refine dw ttok mixed ?_ | refine cd ?_ | refine sk ?_ | refine xt ?_ | refine rt ?_); conv => whnf) | (refine And.intro (fun h => ?_) (fun h => ?_) <;> (try simp only [brsA] at h) <;> conv => whnf) | ((first | refine wf ?_ | refine wp' ?_ | refine ai ?_ | refine And.intro rfl ?_ | refine an ?_ | fail); conv => whnf))
  · rw [decide_eq_decide]; omega
  · exact (decide_eq_false (by omega)).symm
set_option maxRecDepth 100000 in
theorem small_c (rk : List Int) (ls : List Lk) : ACalls Try.prog G 10 [.agg [intsA rk, lksA ls]] (.sb (decide (rk.length ≤ 40 ∧ ls.length ≤ 400))) := by
  refine ACalls.of_WA ttok Try.func10 rfl rfl _ rfl ?_
  conv => whnf
  repeat' (first | refine sq ?_ | refine bk ?_ | ((first | refine rg ttok ?_ | refine dw ttok mixed ?_ | refine cd ?_ | refine sk ?_ | refine xt ?_ | refine rt ?_); conv => whnf) | (refine And.intro (fun h => ?_) (fun h => ?_) <;> (try simp only [brsA] at h) <;> conv => whnf) | ((first | refine wf ?_ | refine wp' ?_ | refine ai ?_ | refine And.intro rfl ?_ | refine an ?_ | fail); conv => whnf))
  · rw [decide_eq_decide]; omega
  · exact (decide_eq_false (by omega)).symm
set_option maxRecDepth 100000 in
set_option maxHeartbeats 4000000 in
theorem law_bad (rk : List Int) (ls : List Lk) (sa sz : List It) (hAw : ACalls Try.prog G 29 [] (.bool true)) (h : ¬ (MayP rk ls ∧ ItP rk.length sa ∧ ItP rk.length sz)) :
    ACalls Try.prog G 5 [.agg [intsA rk, lksA ls], .agg [itmA sa, itmA sz]] (.bool true) := by
  have h1 := small_c (G := G) rk ls
  have h2 := light_c (G := G) sa sz
  by_cases hsm : (rk.length ≤ 40 ∧ ls.length ≤ 400) ∧ (sa.length ≤ 1010 ∧ sz.length ≤ 1010)
  · have hs : Sml rk ls sa sz := ⟨by omega, by omega, by omega, by omega⟩
    have h3 := way_bad (G := G) rk ls sa sz hs h
    have h4 := cost_c (G := G) rk ls sa sz _ _ _ h3
    have h5 := count_bad (G := G) rk ls sa sz hs h
    have h6 := refMay33_c (G := G) rk ls sa sz (by omega) (by omega) (by omega) (by omega)
    rw [decide_eq_false h] at h6
    refine ACalls.of_WA ttok Try.func5 rfl rfl _ rfl ?_
    conv => whnf
    repeat' (first | refine sq ?_ | refine bk ?_ | ((first | refine rg ttok ?_ | refine dw ttok mixed ?_ | refine cd ?_ | refine sk ?_ | refine xt ?_ | refine rt ?_); conv => whnf) | (refine And.intro (fun h => ?_) (fun h => ?_) <;> (try simp only [brsA] at h) <;> conv => whnf) | (refine Or.inl ?_; (conv => whnf); (first | refine ⟨_, h1, ?_⟩ | refine ⟨_, h2, ?_⟩ | refine ⟨_, hAw, ?_⟩ | refine ⟨_, h3, ?_⟩ | refine ⟨_, h4, ?_⟩ | refine ⟨_, h5, ?_⟩ | refine ⟨_, h6, ?_⟩); conv => whnf) | ((first | refine wf ?_ | refine wp' ?_ | refine ai ?_ | refine And.intro rfl ?_ | refine an ?_ | fail); conv => whnf))
    all_goals first
      | (exfalso; exact h trivial)
      | (exfalso; exact h rfl)
      | (exfalso; omega)
      | exact Bool.noConfusion h
  · refine ACalls.of_WA ttok Try.func5 rfl rfl _ rfl ?_
    conv => whnf
    repeat' (first | refine sq ?_ | refine bk ?_ | ((first | refine rg ttok ?_ | refine dw ttok mixed ?_ | refine cd ?_ | refine sk ?_ | refine xt ?_ | refine rt ?_); conv => whnf) | (refine And.intro (fun h => ?_) (fun h => ?_) <;> (try simp only [brsA] at h) <;> conv => whnf) | (refine Or.inl ?_; (conv => whnf); (first | refine ⟨_, h1, ?_⟩ | refine ⟨_, h2, ?_⟩ | refine ⟨_, hAw, ?_⟩); conv => whnf) | ((first | refine wf ?_ | refine wp' ?_ | refine ai ?_ | refine And.intro rfl ?_ | refine an ?_ | fail); conv => whnf))
    all_goals first
      | (exfalso; exact h trivial)
      | (exfalso; exact h rfl)
      | (exfalso; omega)
      | exact Bool.noConfusion h
end Go.Proofs.Ytfhdmhoeopbhnaa
namespace Go.Proofs.Ytfhdmhoeopbhnaa
open Go.Proofs.Ytfhdmhoeopbhnaa.Am Go.HeapL
variable [Inhabited DRT]
variable {G : GInv}
def rk0 : List Int := [0, 2, 1]
def ls0 : List Lk := [⟨0, 1, 7, -1⟩, ⟨1, 2, 4, -1⟩]
def sa0 : List It := [(1, 0)]
def sz0 : List It := [(2, 2)]
theorem ok0 : MayP rk0 ls0 ∧ ItP rk0.length sa0 ∧ ItP rk0.length sz0 := by decide
theorem two0 : two sa0 sz0 (upE rk0 ls0) (dnE rk0 ls0) 14 :=
  ⟨1, 8, 6, .step (u := 0) (d := 1) (w := 7) (.start (by decide)) (by decide), .step (u := 2) (d := 2) (w := 4) (.start (by decide)) (by decide), rfl⟩
theorem pos0 (x y : Int) (h : 0 ≤ posL ls0 x y) : (x = 0 ∧ y = 1 ∧ wAt ls0 x y = 7) ∨ (x = 1 ∧ y = 2 ∧ wAt ls0 x y = 4) := by
  rcases posL_cases ls0 x y with ⟨h1, _⟩ | ⟨i, h1, h2, h3, h4⟩
  · omega
  · unfold wAt
    rw [h1]
    have : i = 0 ∨ i = 1 := by have : i < 2 := h2; omega
    rcases this with rfl | rfl
    · exact .inl ⟨h3.symm, h4.symm, rfl⟩
    · exact .inr ⟨h3.symm, h4.symm, rfl⟩
theorem good0 {w : List Int} {ka kz : Int} (h : Good ls0 sa0 sz0 w ka kz) : ka + kz + wsum ls0 w = 14 ∧ w = [0, 1, 2] := by
  have m1 := h.m1
  have n1 := h.n1
  simp only [sa0, sz0, List.mem_singleton, Prod.mk.injEq] at m1 n1
  have hc := h.ch
  match w, h.l1, m1, n1, hc with
  | [x], _, m1, n1, _ => simp at m1 n1; omega
  | [x, y], _, m1, n1, hc =>
    have := pos0 x y hc.1
    simp at m1 n1; omega
  | [x, y, z], _, m1, n1, hc =>
    have p1 := pos0 x y hc.1
    have p2 := pos0 y z hc.2.1
    simp at m1 n1
    simp only [wsum]
    refine ⟨by omega, ?_⟩
    rw [show x = 0 by omega, show y = 1 by omega, show z = 2 by omega]
  | x :: y :: z :: u :: l, _, m1, n1, hc =>
    have p1 := pos0 x y hc.1
    have p2 := pos0 y z hc.2.1
    have p3 := pos0 z u hc.2.2.1
    simp at m1; omega
theorem way0 (G : GInv) : ACalls Try.prog G 31 [.agg [intsA rk0, lksA ls0], itmA sa0, itmA sz0] (.tup [intsA [0, 1, 2], .int .i64 14, .int .i64 0]) := by
  obtain ⟨w, c, e, s, h1, _, _, h | ⟨_, _, he, ka, kz, hg, hw⟩⟩ := way_law rk0 ls0 sa0 sz0 ⟨by decide, by decide, by decide, by decide⟩ ok0
  · have hm := minV_min (P := two sa0 sz0 (upE rk0 ls0) (dnE rk0 ls0)) (by
      rintro d ⟨v, a, b, w1, w2, rfl⟩
      have a1 := (wk_ok (dat_up ok0.1.2.2.2.1 ok0.2.1) w1).2.2
      have a2 := (wk_ok (dat_dn ok0.1.2.2.2.1 ok0.2.2) w2).2.2
      omega)
    have := hm.2.1 14 two0
    rw [h.1] at this
    unfold NC at this
    omega
  · obtain ⟨g1, g2⟩ := good0 hg
    have := h1 G
    rw [g2, he, ← hw, g1] at this
    exact this
theorem lit2 : andL (fitA.fitL 6 0 [A.agg [.sl 3 1 fun i => takeL 1 (List.drop (i * 1) [A.int .i64 0, A.int .i64 2, A.int .i64 1]), .sl 2 4 fun i => takeL 4 (List.drop (i * 4) [A.int .i64 0, A.int .i64 1, A.int .i64 7, A.int .i64 (-1), A.int .i64 1, A.int .i64 2, A.int .i64 4, A.int .i64 (-1)])], .sl 1 2 fun i => takeL 2 (List.drop (i * 2) [A.int .i64 1, A.int .i64 0]), .sl 1 2 fun i => takeL 2 (List.drop (i * 2) [A.int .i64 2, A.int .i64 2])] [.agg [intsA rk0, lksA ls0], itmA sa0, itmA sz0]) := by
  conv => whnf
  repeat (first | exact fa | ((first | refine fb ?_ | (refine And.intro ?_ ?_; rotate_left)); conv => whnf))
  all_goals (refine Or.inl fun i hi => ?_; rcases i with _ | _ | _ | _ | i <;> first | rfl | omega)
set_option maxRecDepth 100000 in
set_option maxHeartbeats 2000000 in
theorem awake_c : ACalls Try.prog G 29 [] (.bool true) := by
  have h1 := (way0 G).fit lit2
  refine ACalls.of_WA ttok Try.func29 rfl rfl _ rfl ?_
  conv => whnf
  repeat' (first | refine sq ?_ | refine bk ?_ | ((first | refine rg ttok ?_ | refine dw ttok mixed ?_ | refine cd ?_ | refine sk ?_ | refine xt ?_ | refine rt ?_); conv => whnf) | (refine And.intro (fun h => ?_) (fun h => ?_) <;> (try simp only [brsA] at h) <;> conv => whnf) | (refine Or.inr (Or.inr (Or.inl ?_)); (conv => whnf); refine ⟨_, h1, ?_⟩; conv => whnf) | ((first | refine wf ?_ | refine wp' ?_ | refine ai ?_ | refine And.intro rfl ?_ | refine an ?_ | fail); conv => whnf))
  all_goals first
    | (exfalso; exact h trivial)
    | (exfalso; exact h rfl)
    | rfl
end Go.Proofs.Ytfhdmhoeopbhnaa
namespace Go.Proofs.Ytfhdmhoeopbhnaa
open Go.Proofs.Ytfhdmhoeopbhnaa.Am Go.HeapL
variable [Inhabited DRT]
variable {G : GInv}
set_option maxRecDepth 100000 in
set_option maxHeartbeats 8000000 in
theorem up1_c (rk : List Int) (ls : List Lk) (fr : Int) (hl : ls.length ≤ 1000000) (hr : rk.length ≤ 1000000) (hR : RanksP rk) (hS : SortedP rk.length ls) :
    ACalls Try.prog G 103 [.agg [intsA rk, lksA ls], .int .i64 fr, .bool true] (.sl rk.length 1 fun k => [.int .i64 (minV (UW ls.length (eT ls) (eF ls) (eW ls) (rkI rk) fr k))]) := by
  have hrk0 : ∀ v : Nat, v < rk.length → 0 ≤ rkI rk v := fun v hv => (hR v hv).1.1
  have hrkn : ∀ v : Nat, v < rk.length → rkI rk v < rk.length := fun v hv => (hR v hv).1.2
  refine ACalls.of_WA ttok Try.func103 rfl rfl _ rfl ?_
  conv => whnf
  repeat' (first | refine sq ?_ | refine bk ?_ | ((first | refine rg ttok ?_ | refine dw ttok mixed ?_ | refine cd ?_ | refine sk ?_ | refine xt ?_ | refine rt ?_); conv => whnf) | (refine And.intro (fun h => ?_) (fun h => ?_) <;> (try simp only [brsA] at h) <;> conv => whnf) | ((first | refine wf ?_ | refine wp' ?_ | refine ai ?_ | refine And.intro rfl ?_ | refine an ?_ | fail); conv => whnf))
  refine WA_loopI (fun i => i ≤ rk.length) (fun i => [(8, .int .i64 (i : Int))]) (fun i => [.box 25 [intsA rk, lksA ls], .row 3 1 rk.length (cR fun k => if k < i then NC else 0)]) (fun i => rk.length - i) 0 (by omega) ?_ ?_
  · conv => whnf
    repeat (first | exact fa | ((first | refine fb ?_ | (refine And.intro ?_ ?_; rotate_left)); conv => whnf))
  · intro i hi
    have hi : i ≤ rk.length := hi
    conv => whnf
    repeat' (first | refine sq ?_ | refine bk ?_ | ((first | refine rg ttok ?_ | refine dw ttok mixed ?_ | refine cd ?_ | refine sk ?_ | refine xt ?_ | refine rt ?_); conv => whnf) | (refine And.intro (fun h => ?_) (fun h => ?_) <;> (try simp only [brsA] at h) <;> conv => whnf) | ((first | refine wf ?_ | refine wp' ?_ | refine ai ?_ | refine And.intro rfl ?_ | refine an ?_ | fail); conv => whnf))
    · refine ⟨i + 1, (by show i + 1 ≤ rk.length; omega), (by show rk.length - (i + 1) < rk.length - i; omega), ?_⟩
      conv => whnf
      repeat (first | exact fa | ((first | refine fb ?_ | (refine And.intro ?_ ?_; rotate_left)); conv => whnf))
      exact Or.inl fun k hk => c0_step i k
    all_goals
      have e : i = rk.length := by omega
      subst e
      refine WA_loopI (ι := Nat × (Nat → Int)) (fun x => x.1 ≤ rk.length + 1 ∧ UpI ls.length rk.length (eT ls) (eF ls) (eW ls) (rkI rk) fr x.1 0 x.2) (fun x => match x with | (t, _) => [(9, .int .i64 (t : Int))]) (fun x => match x with | (_, c) => [.box 25 [intsA rk, lksA ls], .row 3 1 rk.length (cR c)]) (fun x => rk.length + 1 - x.1) (0, fun v => if (v : Int) = fr then 0 else NC) ⟨Nat.zero_le _, UpI.init hrk0⟩ ?_ ?_
      · conv => whnf
        repeat (first | exact fa | ((first | refine fb ?_ | (refine And.intro ?_ ?_; rotate_left)); conv => whnf))
        first
          | (refine Or.inl fun k hk => ini_a ?_ k hk; assumption)
          | (refine Or.inl fun k hk => ini_b ?_ k hk; omega)
      · rintro ⟨t, c⟩ ⟨ht, hI⟩
        have ht : t ≤ rk.length + 1 := ht
        have hI : UpI ls.length rk.length (eT ls) (eF ls) (eW ls) (rkI rk) fr t 0 c := hI
        conv => whnf
        repeat' (first | refine sq ?_ | refine bk ?_ | ((first | refine rg ttok ?_ | refine dw ttok mixed ?_ | refine cd ?_ | refine sk ?_ | refine xt ?_ | refine rt ?_); conv => whnf) | (refine And.intro (fun h => ?_) (fun h => ?_) <;> (try simp only [brsA] at h) <;> conv => whnf) | ((first | refine wf ?_ | refine wp' ?_ | refine ai ?_ | refine And.intro rfl ?_ | refine an ?_ | fail); conv => whnf))
        · refine WA_loopI (ι := Nat × (Nat → Int)) (fun x => x.1 ≤ ls.length ∧ UpI ls.length rk.length (eT ls) (eF ls) (eW ls) (rkI rk) fr t x.1 x.2) (fun x => match x with | (i, _) => [(10, .int .i64 (i : Int))]) (fun x => match x with | (_, c) => [.box 25 [intsA rk, lksA ls], .row 3 1 rk.length (cR c)]) (fun x => ls.length - x.1) (0, c) ⟨Nat.zero_le _, hI⟩ ?_ ?_
          · conv => whnf
            repeat (first | exact fa | ((first | refine fb ?_ | (refine And.intro ?_ ?_; rotate_left)); conv => whnf))
          · rintro ⟨i, c⟩ ⟨hi, hI⟩
            have hi : i ≤ ls.length := hi
            have hI : UpI ls.length rk.length (eT ls) (eF ls) (eW ls) (rkI rk) fr t i c := hI
            have hok : (i : Int) < ls.length → okL rk.length (ls.getD (i : Int).toNat default) := fun h => (hS i (by omega)).1
            have hok : (i : Int) < ls.length → (0 ≤ (ls.getD (i : Int).toNat default).f ∧ (ls.getD (i : Int).toNat default).f < rk.length) ∧ (0 ≤ (ls.getD (i : Int).toNat default).t ∧ (ls.getD (i : Int).toNat default).t < rk.length) ∧ 0 ≤ (ls.getD (i : Int).toNat default).w ∧ (ls.getD (i : Int).toNat default).w ≤ 1152921504606846976 := fun h => ⟨(hok h).1, (hok h).2.1, (hok h).2.2.2⟩
            have hb1 : (i : Int) < ls.length → 0 ≤ c (ls.getD (i : Int).toNat default).t.toNat ∧ c (ls.getD (i : Int).toNat default).t.toNat ≤ 4611686018427387904 := fun h => by
              have := hI.bd (ls.getD (i : Int).toNat default).t.toNat (by have := hok h; omega)
              unfold NC at this; exact ⟨this.1, this.2.1⟩
            have hb2 : (i : Int) < ls.length → 0 ≤ c (ls.getD (i : Int).toNat default).f.toNat ∧ c (ls.getD (i : Int).toNat default).f.toNat ≤ 4611686018427387904 := fun h => by
              have := hI.bd (ls.getD (i : Int).toNat default).f.toNat (by have := hok h; omega)
              unfold NC at this; exact ⟨this.1, this.2.1⟩
            have hL := fun (h : i < ls.length) => hI.link h (show 0 ≤ (eT ls) i ∧ (eT ls) i < rk.length from by have := hok (by omega); first | exact this.1 | exact this.2.1) (show 0 ≤ (eF ls) i ∧ (eF ls) i < rk.length from by have := hok (by omega); first | exact this.1 | exact this.2.1) (show 0 ≤ eW ls i from (hok (by omega)).2.2.1)
            conv => whnf
            repeat' (first | refine sq ?_ | refine bk ?_ | ((first | refine rg ttok ?_ | refine dw ttok mixed ?_ | refine cd ?_ | refine sk ?_ | refine xt ?_ | refine rt ?_); conv => whnf) | (refine And.intro (fun h => ?_) (fun h => ?_) <;> (try simp only [brsA] at h) <;> conv => whnf) | ((first | refine wf ?_ | refine wp' ?_ | refine ai ?_ | refine And.intro rfl ?_ | refine an ?_ | fail); conv => whnf))
            · refine ⟨(i + 1, updF1 c ((eF ls) i).toNat (c ((eT ls) i).toNat + eW ls i)), ⟨(by show i + 1 ≤ ls.length; omega), (hL (by omega)).1 (by assumption) (by assumption) h⟩, (by show ls.length - (i + 1) < ls.length - i; omega), ?_⟩
              conv => whnf
              repeat (first | exact fa | ((first | refine fb ?_ | (refine And.intro ?_ ?_; rotate_left)); conv => whnf))
              exact Or.inl fun k hk => cR_upd c _ _ k
            · refine ⟨(i + 1, c), ⟨(by show i + 1 ≤ ls.length; omega), (hL (by omega)).2 (fun hc => h hc.2.2)⟩, (by show ls.length - (i + 1) < ls.length - i; omega), ?_⟩
              conv => whnf
              repeat (first | exact fa | ((first | refine fb ?_ | (refine And.intro ?_ ?_; rotate_left)); conv => whnf))
            · refine ⟨(i + 1, c), ⟨(by show i + 1 ≤ ls.length; omega), (hL (by omega)).2 (fun hc => h hc.2.1)⟩, (by show ls.length - (i + 1) < ls.length - i; omega), ?_⟩
              conv => whnf
              repeat (first | exact fa | ((first | refine fb ?_ | (refine And.intro ?_ ?_; rotate_left)); conv => whnf))
            · refine ⟨(i + 1, c), ⟨(by show i + 1 ≤ ls.length; omega), (hL (by omega)).2 (fun hc => h hc.1)⟩, (by show ls.length - (i + 1) < ls.length - i; omega), ?_⟩
              conv => whnf
              repeat (first | exact fa | ((first | refine fb ?_ | (refine And.intro ?_ ?_; rotate_left)); conv => whnf))
            · have e : i = ls.length := by omega
              subst e
              refine ⟨(t + 1, c), ⟨(by show t + 1 ≤ rk.length + 1; omega), hI.round⟩, (by show rk.length + 1 - (t + 1) < rk.length + 1 - t; omega), ?_⟩
              conv => whnf
              repeat (first | exact fa | ((first | refine fb ?_ | (refine And.intro ?_ ?_; rotate_left)); conv => whnf))
        · have e : t = rk.length + 1 := by omega
          subst e
          refine Or.inl fun k hk => ?_
          have hf := hI.fin (fun v hv => by have := hrkn v hv; omega) hk
          show [A.int .i64 (c k)] = [A.int .i64 (minV (UW ls.length (eT ls) (eF ls) (eW ls) (rkI rk) fr k))]
          rw [minV_eq hf]
end Go.Proofs.Ytfhdmhoeopbhnaa
namespace Go.Proofs.Ytfhdmhoeopbhnaa
open Go.Proofs.Ytfhdmhoeopbhnaa.Am Go.HeapL
variable [Inhabited DRT]
variable {G : GInv}
theorem ups0_c (rk : List Int) (ls : List Lk) (s : Int) (hl : ls.length ≤ 1000000) (hr : rk.length ≤ 1000000) (hR : RanksP rk) (hS : SortedP rk.length ls) :
    ACalls Try.prog G 103 [.agg [intsA rk, lksA ls], .int .i64 s, .bool false] (.sl rk.length 1 fun k => [.int .i64 (minV (wU rk ls s k))]) := by
  have h := up0_c (G := G) rk ls s hl hr hR hS
  have e : (fun k : Nat => [A.int .i64 (minV (UW ls.length (eF ls) (eT ls) (eW ls) (rkI rk) s k))]) = fun k : Nat => [A.int .i64 (minV (wU rk ls s k))] := funext fun k => by rw [wU_eq]
  rw [e] at h
  exact h
theorem ups1_c (rk : List Int) (ls : List Lk) (s : Int) (hl : ls.length ≤ 1000000) (hr : rk.length ≤ 1000000) (hR : RanksP rk) (hS : SortedP rk.length ls) :
    ACalls Try.prog G 103 [.agg [intsA rk, lksA ls], .int .i64 s, .bool true] (.sl rk.length 1 fun k => [.int .i64 (minV (wD rk ls s k))]) := by
  have h := up1_c (G := G) rk ls s hl hr hR hS
  have e : (fun k : Nat => [A.int .i64 (minV (UW ls.length (eT ls) (eF ls) (eW ls) (rkI rk) s k))]) = fun k : Nat => [A.int .i64 (minV (wD rk ls s k))] := funext fun k => by rw [wD_eq]
  rw [e] at h
  exact h
theorem least_all (rk : List Int) (ls : List Lk) (sa sz : List It) (h : MayP rk ls ∧ ItP rk.length sa ∧ ItP rk.length sz) :
    ACalls Try.prog G 35 [.agg [intsA rk, lksA ls], itmA sa, itmA sz] (.int .i64 (minV (two sa sz (upE rk ls) (dnE rk ls)))) := by
  obtain ⟨⟨hr, hl, hR, hS, _⟩, ha, hz⟩ := h
  exact least26_c rk ls sa sz (by omega) (by omega) hS ha hz fun s e hs he => least24_c rk ls s e (by omega) (by omega) hR hS hs he (ups0_c rk ls s (by omega) (by omega) hR hS) (ups1_c rk ls e (by omega) (by omega) hR hS)
theorem quick_law (rk : List Int) (ls : List Lk) (sa sz : List It) (hs : Sml rk ls sa sz) (h : MayP rk ls ∧ ItP rk.length sa ∧ ItP rk.length sz) :
    ∃ q i : Int, (∀ G, ACalls Try.prog G 34 [.agg [intsA rk, lksA ls], itmA sa, itmA sz] (.tup [.int .i64 q, .int .i64 i])) ∧
      ((i = 0 ∧ minV (two sa sz (upE rk ls) (dnE rk ls)) ≤ q ∧ q < NC) ∨ (i = 12 ∧ q = 0)) := by
  obtain ⟨s, ⟨Da, Dz, hJ⟩, hf, hc⟩ := search_ok rk ls sa sz true h.1 h.2.1 h.2.2
  by_cases hp : s.b.pt < 0
  · exact ⟨0, 12, fun G => quick_none rk ls sa sz hs h s (hc G) hp, .inr ⟨rfl, rfl⟩⟩
  · have hm := minV_min (P := two sa sz (upE rk ls) (dnE rk ls)) (by
      rintro d ⟨v, a, b, w1, w2, rfl⟩
      have a1 := (wk_ok (dat_up h.1.2.2.2.1 h.2.1) w1).2.2
      have a2 := (wk_ok (dat_dn h.1.2.2.2.1 h.2.2) w2).2.2
      omega)
    have hg := quick_ge hJ (by omega) hm
    exact ⟨s.b.cost, 0, fun G => quick_some rk ls sa sz hs h s (hc G) hp, .inl ⟨rfl, hg.1, hg.2⟩⟩
end Go.Proofs.Ytfhdmhoeopbhnaa
namespace Go.Proofs.Ytfhdmhoeopbhnaa
open Go.Proofs.Ytfhdmhoeopbhnaa.Am Go.HeapL
variable [Inhabited DRT]
variable {G : GInv}
/-- Guards are met. -/
def NearP (rk : List Int) (ls : List Lk) (sa sz : List It) : Prop := rk.length ≤ 16 ∧ ls.length ≤ 400 ∧ sa.length ≤ 1010 ∧ sz.length ≤ 1010 ∧ (sa.length ≤ 4 ∨ 1000 ≤ sa.length) ∧ (sz.length ≤ 4 ∨ 1000 ≤ sz.length)
set_option maxRecDepth 100000 in
set_option maxHeartbeats 8000000 in
theorem law_far (rk : List Int) (ls : List Lk) (sa sz : List It) (hAw : ACalls Try.prog G 29 [] (.bool true)) (hn : ¬ NearP rk ls sa sz) :
    ACalls Try.prog G 5 [.agg [intsA rk, lksA ls], .agg [itmA sa, itmA sz]] (.bool true) := by
  have h1 := small_c (G := G) rk ls
  have h2 := light_c (G := G) sa sz
  unfold NearP at hn
  refine ACalls.of_WA ttok Try.func5 rfl rfl _ rfl ?_
  conv => whnf
  repeat' (first | refine sq ?_ | refine bk ?_ | ((first | refine rg ttok ?_ | refine dw ttok mixed ?_ | refine cd ?_ | refine sk ?_ | refine xt ?_ | refine rt ?_); conv => whnf) | (refine And.intro (fun h => ?_) (fun h => ?_) <;> (try simp only [brsA] at h) <;> conv => whnf) | (refine Or.inl ?_; (conv => whnf); (first | refine ⟨_, h1, ?_⟩ | refine ⟨_, h2, ?_⟩ | refine ⟨_, hAw, ?_⟩); conv => whnf) | ((first | refine wf ?_ | refine wp' ?_ | refine ai ?_ | refine And.intro rfl ?_ | refine an ?_ | fail); conv => whnf))
  all_goals first
    | (exfalso; exact h trivial)
    | (exfalso; exact h rfl)
    | (exfalso; omega)
    | exact Bool.noConfusion h
set_option maxRecDepth 100000 in
set_option maxHeartbeats 8000000 in
theorem near_big (rk : List Int) (ls : List Lk) (sa sz : List It) (hn : NearP rk ls sa sz) (hb : 4 < sa.length ∨ 4 < sz.length) (w : List Int) (c e k q i : Int) (hAw : ACalls Try.prog G 29 [] (.bool true))
    (h3 : ACalls Try.prog G 31 [.agg [intsA rk, lksA ls], itmA sa, itmA sz] (.tup [intsA w, .int .i64 c, .int .i64 e])) (h4 : ACalls Try.prog G 30 [.agg [intsA rk, lksA ls], itmA sa, itmA sz] (.tup [.int .i64 c, .int .i64 e]))
    (h5 : ACalls Try.prog G 32 [.agg [intsA rk, lksA ls], itmA sa, itmA sz] (.tup [.int .i64 k, .int .i64 0])) (h6 : ACalls Try.prog G 33 [.agg [intsA rk, lksA ls], itmA sa, itmA sz] (.sb true))
    (h7 : ACalls Try.prog G 34 [.agg [intsA rk, lksA ls], itmA sa, itmA sz] (.tup [.int .i64 q, .int .i64 i]))
    (hk : 0 ≤ k ∧ k ≤ 2 * rk.length) (hi : (i = 0 ∧ e = 0 ∧ c ≤ q) ∨ (i = 12 ∧ q = 0)) :
    ACalls Try.prog G 5 [.agg [intsA rk, lksA ls], .agg [itmA sa, itmA sz]] (.bool true) := by
  have h1 := small_c (G := G) rk ls
  have h2 := light_c (G := G) sa sz
  unfold NearP at hn
  rw [decide_eq_true (by omega)] at h1 h2
  refine ACalls.of_WA ttok Try.func5 rfl rfl _ rfl ?_
  conv => whnf
  repeat' (first | ((exfalso; exact h rfl)) | ((exfalso; exact h trivial)) | (exact Bool.noConfusion h) | ((exfalso; omega)) | refine sq ?_ | refine bk ?_ | ((first | refine rg ttok ?_ | refine dw ttok mixed ?_ | refine cd ?_ | refine sk ?_ | refine xt ?_ | refine rt ?_); conv => whnf) | (refine And.intro (fun h => ?_) (fun h => ?_) <;> (try simp only [brsA] at h) <;> conv => whnf) | (refine Or.inl ?_; (conv => whnf); (first | refine ⟨_, h1, ?_⟩ | refine ⟨_, h2, ?_⟩ | refine ⟨_, hAw, ?_⟩ | refine ⟨_, h3, ?_⟩ | refine ⟨_, h4, ?_⟩ | refine ⟨_, h5, ?_⟩ | refine ⟨_, h6, ?_⟩ | refine ⟨_, h7, ?_⟩); conv => whnf) | ((first | refine wf ?_ | refine wp' ?_ | refine ai ?_ | refine And.intro rfl ?_ | refine an ?_ | fail); conv => whnf))
  all_goals first
    | (exfalso; exact h trivial)
    | (exfalso; exact h rfl)
    | (exfalso; omega)
    | exact Bool.noConfusion h
set_option maxRecDepth 100000 in
set_option maxHeartbeats 8000000 in
theorem near_few (rk : List Int) (ls : List Lk) (sa sz : List It) (hn : NearP rk ls sa sz) (hb : sa.length ≤ 4 ∧ sz.length ≤ 4) (w : List Int) (c e k q i m : Int) (hAw : ACalls Try.prog G 29 [] (.bool true))
    (h3 : ACalls Try.prog G 31 [.agg [intsA rk, lksA ls], itmA sa, itmA sz] (.tup [intsA w, .int .i64 c, .int .i64 e])) (h4 : ACalls Try.prog G 30 [.agg [intsA rk, lksA ls], itmA sa, itmA sz] (.tup [.int .i64 c, .int .i64 e]))
    (h5 : ACalls Try.prog G 32 [.agg [intsA rk, lksA ls], itmA sa, itmA sz] (.tup [.int .i64 k, .int .i64 0])) (h6 : ACalls Try.prog G 33 [.agg [intsA rk, lksA ls], itmA sa, itmA sz] (.sb true))
    (h7 : ACalls Try.prog G 34 [.agg [intsA rk, lksA ls], itmA sa, itmA sz] (.tup [.int .i64 q, .int .i64 i])) (h8 : ACalls Try.prog G 35 [.agg [intsA rk, lksA ls], itmA sa, itmA sz] (.int .i64 m))
    (h9 : e = 0 → ACalls Try.prog G 36 [.agg [intsA rk, lksA ls], itmA sa, itmA sz, intsA w] (.int .i64 c))
    (hk : 0 ≤ k ∧ k ≤ 2 * rk.length) (hi : (i = 0 ∧ m ≤ q ∧ q < 4611686018427387904) ∨ (i = 12 ∧ q = 0)) (hc : (m = 4611686018427387904 ∧ w.length = 0 ∧ c = 0 ∧ e = 12) ∨ (m < 4611686018427387904 ∧ m = c ∧ e = 0)) :
    ACalls Try.prog G 5 [.agg [intsA rk, lksA ls], .agg [itmA sa, itmA sz]] (.bool true) := by
  have h1 := small_c (G := G) rk ls
  have h2 := light_c (G := G) sa sz
  unfold NearP at hn
  rw [decide_eq_true (by omega)] at h1 h2
  refine ACalls.of_WA ttok Try.func5 rfl rfl _ rfl ?_
  conv => whnf
  repeat' (first | ((exfalso; exact h rfl)) | ((exfalso; exact h trivial)) | (exact Bool.noConfusion h) | ((exfalso; omega)) | refine sq ?_ | refine bk ?_ | ((first | refine rg ttok ?_ | refine dw ttok mixed ?_ | refine cd ?_ | refine sk ?_ | refine xt ?_ | refine rt ?_); conv => whnf) | (refine And.intro (fun h => ?_) (fun h => ?_) <;> (try simp only [brsA] at h) <;> conv => whnf) | (refine Or.inl ?_; (conv => whnf); (first | refine ⟨_, h1, ?_⟩ | refine ⟨_, h2, ?_⟩ | refine ⟨_, hAw, ?_⟩ | refine ⟨_, h3, ?_⟩ | refine ⟨_, h4, ?_⟩ | refine ⟨_, h5, ?_⟩ | refine ⟨_, h6, ?_⟩ | refine ⟨_, h7, ?_⟩ | refine ⟨_, h8, ?_⟩ | refine ⟨_, h9 (by omega), ?_⟩); conv => whnf) | ((first | refine wf ?_ | refine wp' ?_ | refine ai ?_ | refine And.intro rfl ?_ | refine an ?_ | fail); conv => whnf))
  all_goals first
    | (exfalso; exact h trivial)
    | (exfalso; exact h rfl)
    | (exfalso; omega)
    | exact Bool.noConfusion h
theorem law_good (rk : List Int) (ls : List Lk) (sa sz : List It) (hAw : ACalls Try.prog G 29 [] (.bool true)) (h : MayP rk ls ∧ ItP rk.length sa ∧ ItP rk.length sz) :
    ACalls Try.prog G 5 [.agg [intsA rk, lksA ls], .agg [itmA sa, itmA sz]] (.bool true) := by
  by_cases hn : NearP rk ls sa sz
  rotate_left
  · exact law_far rk ls sa sz hAw hn
  have hr := h.1.1
  have hl := h.1.2.1
  have hla := h.2.1.1
  have hlz := h.2.2.1
  have hs : Sml rk ls sa sz := ⟨by omega, by omega, by omega, by omega⟩
  obtain ⟨w, c, e, s, hW, h67, ⟨Da, Dz, hJ⟩, hcase⟩ := way_law rk ls sa sz hs h
  have t1 := hJ.ia.tk
  have t2 := hJ.ia.len
  have t3 := hJ.iz.tk
  have t4 := hJ.iz.len
  have h3 := hW G
  have h4 := cost_c (G := G) rk ls sa sz _ _ _ h3
  have h5 := count_ok (G := G) rk ls sa sz hs h s (h67 G) (by omega) (by omega)
  have h6 := refMay33_c (G := G) rk ls sa sz (by omega) (by omega) (by omega) (by omega)
  rw [decide_eq_true h] at h6
  obtain ⟨q, i, hQ, hq⟩ := quick_law rk ls sa sz hs h
  have h7 := hQ G
  have h8 := least_all (G := G) rk ls sa sz h
  have h9 : e = 0 → ACalls Try.prog G 36 [.agg [intsA rk, lksA ls], itmA sa, itmA sz, intsA w] (.int .i64 c) := fun he => by
    rcases hcase with ⟨_, _, _, h0⟩ | ⟨hlt, hm, _, ka, kz, hg, hw⟩
    · omega
    · unfold NC at hlt
      have := walk_c (G := G) rk ls sa sz w ka kz (by omega) (by omega) h.1.2.2.2.1 h.2.1 h.2.2 hg.l1 hg.l2 hg.ch hg.m1 hg.m2 hg.n1 hg.n2 (by omega)
      rw [hw] at this
      exact this
  have hk : 0 ≤ s.a.t + s.z.t ∧ s.a.t + s.z.t ≤ 2 * rk.length := by omega
  have hC : (minV (two sa sz (upE rk ls) (dnE rk ls)) = 4611686018427387904 ∧ w.length = 0 ∧ c = 0 ∧ e = 12) ∨ (minV (two sa sz (upE rk ls) (dnE rk ls)) < 4611686018427387904 ∧ minV (two sa sz (upE rk ls) (dnE rk ls)) = c ∧ e = 0) := by
    rcases hcase with ⟨a1, a2, a3, a4⟩ | ⟨a1, a2, a3, _⟩
    · exact .inl ⟨a1, by rw [a2]; rfl, a3, a4⟩
    · exact .inr ⟨a1, a2, a3⟩
  unfold NC at hq
  clear hcase hJ h67 t1 t2 t3 t4 hW hQ
  generalize minV (two sa sz (upE rk ls) (dnE rk ls)) = m at *
  generalize s.a.t + s.z.t = k at *
  by_cases hb : sa.length ≤ 4 ∧ sz.length ≤ 4
  · exact near_few rk ls sa sz hn hb w c e k q i m hAw h3 h4 h5 h6 h7 h8 h9 hk hq hC
  · exact near_big rk ls sa sz hn (by omega) w c e k q i hAw h3 h4 h5 h6 h7 hk (by omega)
theorem law_c (rk : List Int) (ls : List Lk) (sa sz : List It) : ACalls Try.prog G 5 [.agg [intsA rk, lksA ls], .agg [itmA sa, itmA sz]] (.bool true) := by
  by_cases h : MayP rk ls ∧ ItP rk.length sa ∧ ItP rk.length sz
  · exact law_good rk ls sa sz awake_c h
  · exact law_bad rk ls sa sz awake_c h
end Go.Proofs.Ytfhdmhoeopbhnaa

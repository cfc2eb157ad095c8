/-
  slices.Insert and slices.Grow at rows of texts, as contracts.
-/
import Derived.Test.YtagokdeflnkplaaDoorText
import Derived.Test.YtagokdeflnkplaaDoorRep1
import Derived.Laws.CopyOwn
import Derived.Laws.MakeOwn
import Derived.LoopTactic
import Derived.OwnWalk
import Derived.Deep.RegionLaw
import Derived.Shelf.Spec.SlicesInsert
import Derived.Shelf.Spec.SlicesInsertGrow
import Derived.Lib.AppendZeros
set_option linter.unusedSimpArgs false
namespace Go.Proofs.YtagokdeflnkplaaDoor
open Go.RowKit Go.Lib Go.Proofs.YtagokdeflnkplaaDoor.Am
end Go.Proofs.YtagokdeflnkplaaDoor
namespace Go.Proofs.YtagokdeflnkplaaDoor
open Go.Proofs.YtagokdeflnkplaaDoor.Am Go.Lib
/-! ### slices.Insert at []string: the library's contract, laid -/
def insRen : Go.Shelf.Ren := ⟨fun | 22 => 67 | 17 => 118 | 29 => 94 | 30 => 95 | 36 => 109 | n => n, fun | 24 => 63 | 9 => 9 | 3 => 3 | 4 => 4 | 0 => 0 | n => n, fun | n => n⟩
theorem insLays : Go.Proofs.Lays2.n22 Tryd.prog insRen := {
  mixed := by kernel_rfl
  f17 := Tryd.func118.trans (congrArg some (by kernel_rfl))
  f22 := Tryd.func67.trans (congrArg some (by kernel_rfl))
  f29 := Tryd.func94.trans (congrArg some (by kernel_rfl))
  f30 := Tryd.func95.trans (congrArg some (by kernel_rfl))
  f36 := Tryd.func109.trans (congrArg some (by kernel_rfl))
  t0 := Tryd.underlying0
  a0 := Tryd.isAgg0
  z0 := Tryd.sizeOf0
  v0 := Tryd.zeroValue0
  t3 := Tryd.underlying3
  a3 := Tryd.isAgg3
  z3 := Tryd.sizeOf3
  v3 := Tryd.zeroValue3
  t4 := Tryd.underlying4
  a4 := Tryd.isAgg4
  z4 := Tryd.sizeOf4
  v4 := Tryd.zeroValue4
  t9 := Tryd.underlying9
  a9 := Tryd.isAgg9
  z9 := Tryd.sizeOf9
  v9 := Tryd.zeroValue9
  t24 := Tryd.underlying63
  a24 := Tryd.isAgg63
  z24 := Tryd.sizeOf63
  v24 := Tryd.zeroValue63
  i9 := by kernel_rfl }
end Go.Proofs.YtagokdeflnkplaaDoor
set_option linter.unusedSimpArgs false
namespace Go.Proofs.YtagokdeflnkplaaDoor
open Go.Proofs.YtagokdeflnkplaaDoor.Am Go.Lib
open Go.RowKit (Below)
variable {G : GInv}
/-! ### slices.Insert of one word into a row of ours -/
theorem setCell_heap (w : World) (g o : Nat) (v : Value) (cur : Array Value) (e : TypeId) (z : Nat × Nat) (h : w.heap[g]? = some (.cells cur e z)) :
    (w.setCell ⟨g, o, none⟩ v).heap[g]? = some (.cells (cur.setIfInBounds o v) e z) ∧ (∀ k, k ≠ g → (w.setCell ⟨g, o, none⟩ v).heap[k]? = w.heap[k]?) ∧ (w.setCell ⟨g, o, none⟩ v).heap.size = w.heap.size := by
  unfold World.setCell
  refine ⟨?_, ?_, by simp⟩
  · show (w.heap.modify g _)[g]? = _
    rw [Array.getElem?_modify, if_pos rfl, h]; rfl
  · intro k hk
    show (w.heap.modify g _)[k]? = _
    rw [Array.getElem?_modify, if_neg (fun e => hk e.symm)]
theorem setCells_row (g : Nat) (e : TypeId) (z : Nat × Nat) : ∀ (vs : List Value) (o : Nat) (w : World) (cur : Array Value), w.heap[g]? = some (.cells cur e z) → o + vs.length ≤ cur.size →
    ∃ cur', (w.setCells g o vs).heap[g]? = some (.cells cur' e z) ∧ cur'.size = cur.size ∧ (∀ j, cur'[j]? = if o ≤ j ∧ j < o + vs.length then vs[j - o]? else cur[j]?) ∧
      (∀ k, k ≠ g → (w.setCells g o vs).heap[k]? = w.heap[k]?) ∧ (w.setCells g o vs).heap.size = w.heap.size ∧ (w.setCells g o vs).os = w.os ∧ (w.setCells g o vs).tape = w.tape ∧ (w.setCells g o vs).output = w.output ∧ (w.setCells g o vs).drawn = w.drawn
  | [], o, w, cur, h, _ => ⟨cur, h, rfl, fun j => by rw [if_neg (by rw [List.length_nil]; omega)], fun _ _ => rfl, rfl, rfl, rfl, rfl, rfl⟩
  | v :: r, o, w, cur, h, hl => by
    obtain ⟨h1, h2, h3⟩ := setCell_heap w g o v cur e z h
    obtain ⟨cur', q1, q2, q3, q4, q5, q6, q7, q8, q9⟩ := setCells_row g e z r (o + 1) (w.setCell ⟨g, o, none⟩ v) _ h1 (by simp at hl ⊢; omega)
    refine ⟨cur', q1, by rw [q2]; simp, fun j => ?_, fun k hk => (q4 k hk).trans (h2 k hk), q5.trans h3, q6, q7, q8, q9⟩
    rw [q3]
    simp only [List.length_cons] at hl ⊢
    by_cases hj : j = o
    · subst hj
      rw [if_neg (by omega), if_pos (by omega), Array.getElem?_setIfInBounds, if_pos rfl, if_pos (by omega)]
      simp
    · by_cases hj2 : o ≤ j ∧ j < o + (r.length + 1)
      · rw [if_pos (by omega), if_pos hj2, show j - o = (j - (o + 1)) + 1 by omega, List.getElem?_cons_succ]
      · rw [if_neg (by omega), if_neg hj2, Array.getElem?_setIfInBounds, if_neg (fun e => hj e.symm)]
def wordsR (L : List (List UInt8)) : Nat → List A := fun j => [.str (L.getD j [])]
def encW (s : List UInt8) : Value := .string ⟨s.toArray⟩
theorem wordsV (im : Nat → Prop) (w : World) (L : List (List UInt8)) : RowsV im w L.length 1 (wordsR L) (L.map encW) := by
  refine ⟨by simp, fun u hu => ?_, fun _ _ => rfl, fun i j hi h h' => ?_⟩
  · obtain ⟨s, _, rfl⟩ := List.mem_map.1 hu; rfl
  · have hj : j = 0 := by have : (wordsR L i).length = 1 := rfl
                          omega
    subst hj
    have : (L.map encW)[i * 1 + 0] = encW (L.getD i []) := by
      simp only [List.getElem_map]
      rw [List.getD_eq_getElem?_getD, List.getElem?_eq_getElem hi]
      simp
    rw [this]
    exact .str _
theorem wordsV_inv {im : Nat → Prop} {w : World} {L : List (List UInt8)} {vs : List Value} (h : RowsV im w L.length 1 (wordsR L) vs) : vs = L.map encW := by
  obtain ⟨h1, h2, h3, h4⟩ := h
  apply List.ext_getElem
  · simp; omega
  · intro i h5 h6
    have hi : i < L.length := by simpa using h6
    have := h4 i 0 hi (by show 0 < 1; omega) (by omega)
    have e : (wordsR L i)[0]'(by show 0 < 1; omega) = .str (L.getD i []) := rfl
    rw [e] at this
    simp only [Nat.mul_one, Nat.add_zero] at this
    rw [List.getElem_map]
    rw [List.getD_eq_getElem?_getD, List.getElem?_eq_getElem hi, Option.getD_some] at this
    generalize vs[i] = v at this
    cases this; rfl
set_option maxRecDepth 100000 in
theorem ins_raw (L : List (List UInt8)) (x : List UInt8) (i : Nat) (hi : i < L.length) (hL : L.length ≤ 1000000) (g vb cap vc : Nat) (cur curv : Array Value) (w : World)
    (hg : w.heap[g]? = some (.cells cur 9 (0, 0))) (hcs : cur.size = cap) (hnc : L.length ≤ cap) (hcm : cap ≤ maxLen) (ht : cur.toList.take L.length = L.map encW)
    (hv : w.heap[vb]? = some (.cells curv 9 (0, 0))) (hv0 : curv[0]? = some (encW x)) (hvg : vb ≠ g) :
    Calls Tryd.prog 67 #[.slice (some ⟨g, 0, none⟩) L.length cap, .int .i64 i, .slice (some ⟨vb, 0, none⟩) 1 vc] w fun e w' =>
      ∃ v', e = .returned v' ∧ AppOut w (.slice (some ⟨g, 0, none⟩) L.length cap) 9 1 L.length 1 ((L.take i).map encW) ([encW x] ++ (L.drop i).map encW) v' w' := by
  have hgs : g < w.heap.size := (Array.getElem?_eq_some_iff.1 hg).1
  have hcell : ∀ (j : Nat) (v : Value), (L.map encW)[j]? = some v → cur[j]? = some v := by
    intro j v hj
    rw [← ht, List.getElem?_take] at hj
    split at hj
    · simpa using hj
    · cases hj
  have hcs1 : ∀ (j : Nat) (v : Value), (L.map encW)[j]? = some v → w.cell? ⟨g, 0 + j, none⟩ = some v := fun j v hj => by
    rw [Nat.zero_add, cell_of_row w g j cur _ (0, 0) hg]; exact hcell j v hj
  have hvs1 : ∀ (j : Nat) (v : Value), [encW x][j]? = some v → w.cell? ⟨vb, 0 + j, none⟩ = some v := fun j v hj => by
    rw [Nat.zero_add, cell_of_row w vb j curv _ (0, 0) hv]
    match j, hj with
    | 0, hj => rw [hv0]; simpa using hj
  have h1c : ∀ v ∈ L.map encW, v.oneCell' = true := fun v hv => by obtain ⟨s, _, rfl⟩ := List.mem_map.1 hv; rfl
  have h1v : ∀ v ∈ [encW x], v.oneCell' = true := fun v hv => by rw [List.mem_singleton.1 hv]; rfl
  have hfz : ∀ (b : Nat) (cs : Array Value), w.heap[b]? = some (.cells cs 9 (0, 0)) → ∀ j, w.frozen? ⟨b, j, none⟩ = false := fun b cs hb j => by
    unfold World.frozen?; simp only [hb]; simp
  have hdl : ((L.map encW).drop i).length = L.length - i := by simp
  by_cases hroom : L.length + 1 ≤ cap
  · have := Any2.slices_Insert_string_shift insLays g 0 L.length cap i vb 0 1 vc (L.map encW) [encW x] w hi (by omega) hroom (by unfold maxLen at hcm; omega) hvg (by simp) rfl hcs1
      (fun j hj => by rw [Nat.zero_add, cell_of_row w g j cur _ (0, 0) hg, Array.getElem?_eq_getElem (by omega)]; rfl) (fun j _ => hfz g cur hg _) hvs1 h1c h1v
      9 9 curv.size cur.size (by unfold World.shape?; rw [hv]) (by unfold World.shape?; rw [hg]) (by omega) (hfz vb curv hv _) (hfz vb curv hv _)
    refine Calls_mono this ?_
    rintro e w' ⟨rfl, rfl⟩
    refine ⟨_, rfl, ?_⟩
    obtain ⟨c1, a1, a2, a3, a4, a5, a6, a7, a8, a9⟩ := setCells_row g 9 (0, 0) ((L.map encW).drop i) (0 + (i + 1)) w.drew cur hg (by rw [hdl]; omega)
    obtain ⟨c2, b1, b2, b3, b4, b5, b6, b7, b8, b9⟩ := setCells_row g 9 (0, 0) [encW x] (0 + i) _ c1 a1 (by rw [a2]; simp; omega)
    refine ⟨b6.trans a6, b7.trans a7, b8.trans a8, by rw [b5, a5]; exact Nat.le_refl _, fun k _ hk => ?_, by rw [b9, a9]; exact drLe.succ _, .inr ⟨g, cap, c2, rfl, b1, hroom, hcm, by rw [b2, a2, hcs, Nat.mul_one], ?_, by rw [b5, a5]; exact hgs, .inr rfl⟩⟩
    · have : k ≠ g := fun e => hk (by subst e; rfl)
      exact (b4 k this).trans (a4 k this)
    · apply List.ext_getElem?
      intro j
      rw [Nat.mul_one, List.getElem?_take]
      by_cases hj : j < L.length + 1
      · rw [if_pos hj, Array.getElem?_toList, b3, a3]
        simp only [Nat.zero_add, List.length_singleton, hdl]
        by_cases h1 : j < i
        · rw [if_neg (by omega), if_neg (by omega), List.getElem?_append_left (by simp; omega), List.getElem?_map, List.getElem?_take, if_pos h1, ← List.getElem?_map]
          rw [List.getElem?_eq_getElem (show j < (L.map encW).length by simp; omega)]
          exact hcell j _ (List.getElem?_eq_getElem _)
        · have hlen : ((L.take i).map encW).length = i := by simp; omega
          rw [List.getElem?_append_right (by rw [hlen]; omega), hlen]
          by_cases h2 : j = i
          · subst h2
            rw [if_pos (by omega)]
            simp
          · rw [if_neg (by omega), if_pos (by omega), List.getElem?_append_right (by simp; omega), List.getElem?_map, List.getElem?_drop, List.getElem?_drop, List.getElem?_map]
            simp only [List.length_singleton]
            congr 2
      · rw [if_neg hj, List.getElem?_eq_none (by simp; omega)]
  · have := Any2.slices_Insert_string_grow insLays g 0 L.length cap i vb 0 1 vc (L.map encW) [encW x] w hi (by omega) hnc (by omega) (by omega) (by simp) rfl hcs1 hvs1 h1c h1v
    refine Calls_mono this ?_
    rintro e w' ⟨rfl, rfl⟩
    refine ⟨_, rfl, ?_⟩
    have hge := grownCap_ge w (L.length + 1) cap 9
    have hle := grownCap_le_maxLen w (L.length + 1) cap 9 (by unfold maxLen; omega)
    generalize hGG : grownCap w (L.length + 1) cap (insRen.t 9) = GG at *
    have hGG' : grownCap w (L.length + 1) cap 9 = GG := hGG
    rw [hGG'] at hge hle
    generalize hR0 : (((L.map encW).take i).toArray ++ Builtin.zeroCells (Value.string ⟨#[]⟩).cells (L.length + 1 - i) ++ Builtin.zeroCells (Value.string ⟨#[]⟩).cells (GG - (L.length + 1))) = R0
    have hR0s : R0.size = GG := by
      rw [← hR0]; simp [Builtin.zeroCells, Value.cells]; omega
    have hR0g : ∀ j : Nat, j < i → R0[j]? = (L.map encW)[j]? := by
      intro j hj
      rw [← hR0, Array.append_assoc, Array.getElem?_append, if_pos (by simp; omega)]
      simp [hj]
    have hnew : ((w.alloc (.cells R0 (insRen.t 9))).drew).heap[w.heap.size]? = some (.cells R0 9 (0, 0)) := heap_alloc_new w _
    obtain ⟨c1, a1, a2, a3, a4, a5, a6, a7, a8, a9⟩ := setCells_row w.heap.size 9 (0, 0) [encW x] i _ R0 hnew (by rw [hR0s]; simp; omega)
    obtain ⟨c2, b1, b2, b3, b4, b5, b6, b7, b8, b9⟩ := setCells_row w.heap.size 9 (0, 0) ((L.map encW).drop i) (i + 1) (((w.alloc (.cells R0 (insRen.t 9))).drew.setCells w.heap.size i [encW x]).drew) c1 a1 (by rw [a2, hdl, hR0s]; omega)
    refine ⟨b6.trans a6, b7.trans a7, b8.trans a8, ?_, fun k hk _ => ?_, ?_, .inr ⟨w.heap.size, GG, c2, rfl, b1, hge, hle, by rw [b2, a2, hR0s, Nat.mul_one], ?_, ?_, .inl (Nat.le_refl _)⟩⟩
    · rw [b5]; show _ ≤ (World.setCells _ _ _ _).heap.size
      rw [a5]; simp [World.drew]
    · refine (b4 k (by omega)).trans ?_
      refine (a4 k (by omega)).trans ?_
      exact Below.heap_alloc w _ k hk
    · exact drLe.any _ _
    · apply List.ext_getElem?
      intro j
      rw [Nat.mul_one, List.getElem?_take]
      by_cases hj : j < L.length + 1
      · rw [if_pos hj, Array.getElem?_toList, b3, a3]
        simp only [List.length_singleton, hdl]
        by_cases h1 : j < i
        · rw [if_neg (by omega), if_neg (by omega), hR0g j h1, List.getElem?_append_left (by simp; omega), List.getElem?_map, List.getElem?_map, List.getElem?_take, if_pos h1]
        · have hlen : ((L.take i).map encW).length = i := by simp; omega
          rw [List.getElem?_append_right (by rw [hlen]; omega), hlen]
          by_cases h2 : j = i
          · subst h2
            rw [if_neg (by omega), if_pos (by omega)]
            simp
          · rw [if_pos (by omega), List.getElem?_append_right (by simp; omega), List.getElem?_map, List.getElem?_drop, List.getElem?_drop, List.getElem?_map]
            simp only [List.length_singleton]
            congr 2
      · rw [if_neg hj, List.getElem?_eq_none (by simp; omega)]
    · rw [b5]; show _ < (World.setCells _ _ _ _).heap.size
      rw [a5]; simp [World.drew]
theorem insert_c (L : List (List UInt8)) (x : List UInt8) (i : Nat) (hi : i < L.length) (hL : L.length ≤ 1000000) :
    MCalls Tryd.prog G 67 [.own 1, .int .i64 i, .own 2] [.ghost [.own 1, .junk, .own 2, .junk, .junk], .row 9 1 L.length (wordsR L), .row 9 1 1 (wordsR [x])] (.own 1)
      [.ghost [.junk, .junk, .own 2, .junk, .junk], .row 9 1 (L.length + 1) (wordsR (L.take i ++ x :: L.drop i)), .row 9 1 1 (wordsR [x])] := by
  refine ⟨⟨_, _, Tryd.func67, rfl, by kernel_rfl⟩, ?_⟩
  intro im w vs gs ids hG hs
  have hvl : vs.length = 3 := by have := hs.len; simpa using this
  obtain ⟨v0, v1, v2, rfl⟩ : ∃ v0 v1 v2, vs = [v0, v1, v2] := by
    match vs, hvl with
    | [a, b, c], _ => exact ⟨a, b, c, rfl⟩
  have r0 : Rel ids _ w (.own 1) v0 := hs.slots 0 (by simp) (by simp)
  have r1 : Rel ids _ w (.int .i64 i) v1 := hs.slots 1 (by simp) (by simp)
  have r2 : Rel ids _ w (.own 2) v2 := hs.slots 2 (by simp) (by simp)
  have hml : ids.length = 3 := by have := hs.mlen; simpa using this
  obtain rfl := r1.int_inv
  have hB1 := hs.blks 1 (by simp) (by omega)
  have hB2 := hs.blks 2 (by simp) (by omega)
  simp only [List.getElem_cons_succ, List.getElem_cons_zero] at hB1 hB2
  obtain ⟨p, cap, hid, hcap1, hcap2, rfl⟩ : ∃ p cap, ids[1]? = some (.lv p) ∧ (p.n ≤ cap ∧ cap ≤ maxLen) ∧ cap * p.sz = p.k ∧ v0 = .slice (some ⟨p.blk, 0, none⟩) p.n cap := by
    rcases hs.own_at r0 (by simp) with ⟨h1, _⟩ | h
    · rw [List.getElem?_eq_getElem (by omega)] at h1
      rw [Option.some.inj h1] at hB1
      have : L.length = 0 := hB1
      omega
    · exact h
  obtain ⟨p2, cap2, hid2, hcap21, hcap22, rfl⟩ : ∃ p cap, ids[2]? = some (.lv p) ∧ (p.n ≤ cap ∧ cap ≤ maxLen) ∧ cap * p.sz = p.k ∧ v2 = .slice (some ⟨p.blk, 0, none⟩) p.n cap := by
    rcases hs.own_at r2 (by simp) with ⟨h1, _⟩ | h
    · rw [List.getElem?_eq_getElem (by omega)] at h1
      rw [Option.some.inj h1] at hB2
      exact absurd (show (1 : Nat) = 0 from hB2) (by omega)
    · exact h
  have hid' : ids[1]'(by omega) = .lv p := by rw [List.getElem?_eq_getElem (by omega)] at hid; exact Option.some.inj hid
  have hid2' : ids[2]'(by omega) = .lv p2 := by rw [List.getElem?_eq_getElem (by omega)] at hid2; exact Option.some.inj hid2
  rw [hid'] at hB1
  rw [hid2'] at hB2
  obtain ⟨cur, e1, e2, g1, g2, g3, hR⟩ := hB1.rowsV
  obtain ⟨cur2, e21, e22, g21, g22, g23, hR2⟩ := hB2.rowsV
  have ht := wordsV_inv hR
  have ht2 := wordsV_inv (L := [x]) hR2
  rw [Nat.mul_one] at ht ht2
  have hne : p2.blk ≠ p.blk := fun e => by have := hs.distinct 2 1 p2 p hid2 hid e; omega
  rw [e1, Nat.mul_one] at hcap2
  rw [e21, Nat.mul_one] at hcap22
  have h20 : cur2[0]? = some (encW x) := by
    have := congrArg (fun l : List Value => l[0]?) ht2
    simpa [List.getElem?_take] using this
  have hraw := ins_raw L x i hi hL p.blk p2.blk cap cap2 cur cur2 w g1 (by rw [g2, hcap2]) (by rw [← e2]; exact hcap1.1) hcap1.2 ht g21 h20 hne
  rw [e2, e22]
  refine Calls_mono (by simpa using hraw) ?_
  rintro e' w' ⟨v', rfl, o1, o2, o3, o4, o5, odr, o6⟩
  rcases o6 with ⟨_, h0⟩ | ⟨g, cap', cur', rfl, q1, q2, q3, q4, q5, q6, q7⟩
  · omega
  have hlen : (L.take i ++ x :: L.drop i).length = L.length + 1 := by simp; omega
  have q5 : cur'.toList.take ((L.length + 1) * 1) = (L.take i ++ x :: L.drop i).map encW := by rw [q5]; simp [List.map_take, List.map_drop]
  have hbr : ∀ (ids' : Ids) (im' : Nat → Prop), BRel ids' im' w' (.row 9 1 (L.length + 1) (wordsR (L.take i ++ x :: L.drop i))) (.lv (mkId g cur'.size (L.length + 1) 1)) := fun ids' im' => by
    have := wordsV im' w' (L.take i ++ x :: L.drop i)
    rw [hlen] at this
    exact BRel.ofRowsV q1 q4 q2 q5 this
  have hs' := hs.rebind (w' := w') 1 (.lv (mkId g cur'.size (L.length + 1) 1)) (.row 9 1 (L.length + 1) (wordsR (L.take i ++ x :: L.drop i))) 4 (by simp) o1 o2 o3 o4
    (fun k hk hp => o5 k hk (fun e => hp p hid (.inl (Option.some.inj e).symm))) (fun _ h => by cases h)
    (fun p' h x' hx => by
      cases h
      have := mkId_has hx
      subst this
      refine ⟨q6, ?_⟩
      rcases q7 with h | h
      · exact .inl h
      · exact .inr ⟨p, hid, .inl (Option.some.inj h).symm⟩)
    (fun _ => hbr _ _) odr
  refine ⟨_, _, rfl, ⟨rfl, rfl, ?_, hs'.mlen, hs'.blks, hs'.distinctX, hs'.freshX, hs'.frame, hs'.im0lt, hs'.gho⟩⟩
  intro j h h'
  match j, h with
  | 0, _ =>
    refine .own 1 cap' (mkId g cur'.size (L.length + 1) 1) ?_ ⟨q2, q3⟩ q4.symm
    rw [List.getElem?_set_self (by omega)]
end Go.Proofs.YtagokdeflnkplaaDoor
set_option linter.unusedSimpArgs false
namespace Go.Proofs.YtagokdeflnkplaaDoor
open Go.RowKit Go.Lib Go.Proofs.YtagokdeflnkplaaDoor.Am
variable {G : GInv}
/-! ### slices.Grow of nothing, slices.Concat -/
theorem infoS : (Tryd.prog.info? 9).map (fun i => (i.zero, i.size, i.bytes)) = some (some (.string ⟨#[]⟩), 1, 16) := by kernel_rfl
set_option maxRecDepth 100000 in
set_option maxHeartbeats 4000000 in
theorem grow_raw (k : Nat) (h1 : 1 ≤ k) (h2 : k ≤ 1000000) (w : World) :
    Calls Tryd.prog 108 #[.slice none 0 0, .int .i64 k] w fun e w' => ∃ (cap : Nat) (cur : Array Value), e = .returned (.slice (some ⟨w.heap.size, 0, none⟩) 0 cap) ∧ cap ≤ maxLen ∧ cur.size = cap ∧ w' = w.drew.alloc (.cells cur 9) := by
  obtain ⟨i0, hi, hz0, hz1, hz2⟩ := info_parts infoS
  have hrz : ∀ ty, (Builtin.append_ #[63, 3] ty #[.slice none 0 0, .int .i64 k]).run Tryd.prog w =
      .ok (.slice (some ⟨w.heap.size, 0, none⟩) k (grownCap w k 0 9)) (w.drew.alloc (.cells (Builtin.zeroCells (Value.string ⟨#[]⟩).cells k ++ Builtin.zeroCells (Value.string ⟨#[]⟩).cells (grownCap w k 0 9 - k)) 9)) := fun ty =>
    run_append_nil_zeros w 63 3 ty 9 i0 _ .i64 .i64 Tryd.underlying63 Tryd.underlying3 hi hz0 k (by omega) (by omega) (by omega) (by rw [hz2]; omega)
  have hge := grownCap_ge w k 0 9
  have hle := grownCap_le_maxLen w k 0 9 (by unfold maxLen; omega)
  generalize grownCap w k 0 9 = GG at *
  have hcs : (Builtin.zeroCells (Value.string ⟨#[]⟩).cells k ++ Builtin.zeroCells (Value.string ⟨#[]⟩).cells (GG - k)).size = GG := by simp [Builtin.zeroCells, Value.cells]; omega
  generalize Builtin.zeroCells (Value.string ⟨#[]⟩).cells k ++ Builtin.zeroCells (Value.string ⟨#[]⟩).cells (GG - k) = CUR at *
  go_enter Tryd.func108, Tryd.ntmps108
  go_wp2_with (at_builtin; refine Lib.wpList_append_run _ rfl _ _ _ _ rfl _ _ rfl rfl _ _ (hrz _) ?_)
  go_ret
  exact ⟨GG, CUR, rfl, hle, hcs, rfl⟩
theorem grow_c (k : Nat) (h1 : 1 ≤ k) (h2 : k ≤ 1000000) : MCalls Tryd.prog G 108 [.nils, .int .i64 k] [] (.own 0) [.row 9 1 0 fun _ => []] := by
  refine ⟨⟨_, _, Tryd.func108, rfl, by kernel_rfl⟩, ?_⟩
  intro im w vs gs ids hG hs
  have hvl : vs.length = 2 := by have := hs.len; simpa using this
  obtain ⟨v0, v1, rfl⟩ : ∃ v0 v1, vs = [v0, v1] := by
    match vs, hvl with
    | [a, b], _ => exact ⟨a, b, rfl⟩
  have r0 : Rel ids _ w .nils v0 := hs.slots 0 (by simp) (by simp)
  have r1 : Rel ids _ w (.int .i64 k) v1 := hs.slots 1 (by simp) (by simp)
  obtain rfl := r0.nils_inv
  obtain rfl := r1.int_inv
  refine Calls_mono (grow_raw k h1 h2 w) ?_
  rintro e' w' ⟨cap, cur, rfl, hc1, hc2, rfl⟩
  have hid : ids = [] := List.length_eq_zero_iff.1 (by have := hs.mlen; simpa using this)
  subst hid
  have hnew : (w.drew.alloc (.cells cur 9)).heap[w.heap.size]? = some (.cells cur 9 (0, 0)) := heap_alloc_new w.drew _
  have hs' := hs.grow (w' := w.drew.alloc (.cells cur 9)) (Bw.of_below ((below_drew w).below.trans ((Below.refl w.heap.size w.drew).alloc (Nat.le_refl _) _))) [.row 9 1 0 fun _ => []] [.lv (mkId w.heap.size cur.size 0 1)] rfl
    (fun i h1 h2 => by
      obtain rfl : i = 0 := by simp at h1; omega
      exact ⟨rfl, rfl, cur, hnew, rfl, by omega, fun i hi => absurd hi (Nat.not_lt_zero _), fun i j hi => absurd hi (Nat.not_lt_zero _)⟩)
    (fun p hp x hx => by
      have hp := List.mem_singleton.1 hp
      cases hp
      have := mkId_has hx
      subst this
      exact ⟨Nat.le_refl _, by simp⟩)
    (fun vs h => by simp at h)
    (fun i j p q x h1 h2 _ _ => by
      have h1 := (List.getElem?_eq_some_iff.1 h1).1
      have h2 := (List.getElem?_eq_some_iff.1 h2).1
      simp at h1 h2; omega)
  refine ⟨_, _, rfl, ⟨rfl, rfl, ?_, hs'.mlen, hs'.blks, hs'.distinctX, hs'.freshX, hs'.frame, hs'.im0lt, hs'.gho⟩⟩
  intro j h h'
  match j, h with
  | 0, _ => exact .own 0 cap (mkId w.heap.size cur.size 0 1) rfl ⟨Nat.zero_le _, hc1⟩ (by rw [Nat.mul_one]; exact hc2.symm)
end Go.Proofs.YtagokdeflnkplaaDoor
set_option linter.unusedSimpArgs false
namespace Go.Proofs.YtagokdeflnkplaaDoor
open Go.Proofs.YtagokdeflnkplaaDoor.Am Go.Lib
open Go.RowKit (Below)
variable {G : GInv}
theorem insertL_c (L : List (List UInt8)) (x : List UInt8) (i n : Nat) (hn : L.length = n) (hi : i < n) (hL : n ≤ 1000000) (r1 r2 : Nat → List A) (h1 : ∀ j, j < n → r1 j = wordsR L j) (h2 : r2 0 = [.str x]) :
    MCalls Tryd.prog G 67 [.own 1, .int .i64 i, .own 2] [.ghost [.own 1, .junk, .own 2, .junk, .junk], .row 9 1 n r1, .row 9 1 1 r2] (.own 1)
      [.ghost [.junk, .junk, .own 2, .junk, .junk], .row 9 1 (n + 1) (wordsR (L.take i ++ x :: L.drop i)), .row 9 1 1 (wordsR [x])] := by
  subst hn
  refine (insert_c L x i hi hL).fit rfl ?_
  show andL _
  conv => whnf
  refine ⟨rfl, rfl, Or.inl h1, rfl, Or.inl fun j hj => ?_⟩
  obtain rfl : j = 0 := by omega
  exact h2
theorem insert_nil (x : List UInt8) (r2 : Nat → List A) (h2 : r2 0 = [.str x]) :
    MCalls Tryd.prog G 67 [.nils, .int .i64 0, .own 1] [.ghost [.junk, .junk, .own 1, .junk], .row 9 1 1 r2] (.own 2)
      [.ghost [.junk, .junk, .own 1, .junk], .row 9 1 1 r2, .row 9 1 1 (wordsR [x])] := by
  refine ⟨⟨_, _, Tryd.func67, rfl, by kernel_rfl⟩, ?_⟩
  intro im w vs gs ids hG hs
  have hvl : vs.length = 3 := by have := hs.len; simpa using this
  obtain ⟨v0, v1, v2, rfl⟩ : ∃ v0 v1 v2, vs = [v0, v1, v2] := by
    match vs, hvl with
    | [a, b, c], _ => exact ⟨a, b, c, rfl⟩
  have r0 : Rel ids _ w .nils v0 := hs.slots 0 (by simp) (by simp)
  have r1 : Rel ids _ w (.int .i64 0) v1 := hs.slots 1 (by simp) (by simp)
  have r3 : Rel ids _ w (.own 1) v2 := hs.slots 2 (by simp) (by simp)
  have hml : ids.length = 2 := by have := hs.mlen; simpa using this
  obtain rfl := r0.nils_inv
  obtain rfl := r1.int_inv
  have hB1 := hs.blks 1 (by simp) (by omega)
  simp only [List.getElem_cons_succ, List.getElem_cons_zero] at hB1
  obtain ⟨p, cap, hid, hcap1, hcap2, rfl⟩ : ∃ p cap, ids[1]? = some (.lv p) ∧ (p.n ≤ cap ∧ cap ≤ maxLen) ∧ cap * p.sz = p.k ∧ v2 = .slice (some ⟨p.blk, 0, none⟩) p.n cap := by
    rcases hs.own_at r3 (by simp) with ⟨h1, _⟩ | h
    · rw [List.getElem?_eq_getElem (by omega)] at h1
      rw [Option.some.inj h1] at hB1
      exact absurd (show (1 : Nat) = 0 from hB1) (by omega)
    · exact h
  have hid' : ids[1]'(by omega) = .lv p := by rw [List.getElem?_eq_getElem (by omega)] at hid; exact Option.some.inj hid
  rw [hid'] at hB1
  obtain ⟨cur, e1, e2, g1, g2, g3, hR⟩ := hB1.rowsV
  have hR' : RowsV (imOf ⟨w, im, muOf ids, gs⟩ ids w) w [x].length 1 (wordsR [x]) (cur.toList.take (1 * 1)) := by
    refine ⟨hR.1, hR.2.1, fun _ _ => rfl, fun i j hi hj hj' => ?_⟩
    obtain rfl : i = 0 := by simp at hi; omega
    have hj0 : j = 0 := by have : (wordsR [x] 0).length = 1 := rfl
                           omega
    subst hj0
    have := hR.2.2.2 0 0 (by omega) (by rw [h2]; simp) hj'
    have e : (r2 0)[0]'(by rw [h2]; simp) = .str x := by simp only [h2]; rfl
    rw [e] at this
    exact this
  have ht := wordsV_inv hR'
  rw [Nat.mul_one] at ht
  have h20 : cur[0]? = some (encW x) := by
    have := congrArg (fun l : List Value => l[0]?) ht
    simpa [List.getElem?_take] using this
  have hraw := Any2.slices_Insert_string_end_grow insLays none 0 0 p.blk 0 1 cap [] [encW x] w (by omega) (Nat.le_refl _) (by omega) (by omega) rfl rfl (fun _ => rfl) (fun a h => by cases h)
    (fun j v hj => by
      rw [Nat.zero_add, cell_of_row w p.blk j cur _ (0, 0) g1]
      match j, hj with
      | 0, hj => rw [h20]; simpa using hj) (fun v hv => by rw [List.mem_singleton.1 hv]; rfl)
  rw [e2]
  refine Calls_mono hraw ?_
  rintro e' w' ⟨rfl, rfl⟩
  have hge := grownCap_ge w (0 + 1) 0 9
  have hle := grownCap_le_maxLen w (0 + 1) 0 9 (by unfold maxLen; omega)
  generalize hGG : grownCap w (0 + 1) 0 (insRen.t 9) = GG at *
  have hGG' : grownCap w (0 + 1) 0 9 = GG := hGG
  rw [hGG'] at hge hle
  generalize hCU : (([] ++ [encW x]).toArray ++ Builtin.zeroCells (Value.string ⟨#[]⟩).cells (GG - (0 + 1))) = CU
  have hcs : CU.size = GG := by rw [← hCU]; simp [Builtin.zeroCells, Value.cells]; omega
  have htk : CU.toList.take (1 * 1) = [x].map encW := by rw [← hCU]; simp
  have hnew : (w.drew.alloc (.cells CU (insRen.t 9))).heap[w.heap.size]? = some (.cells CU 9 (0, 0)) := heap_alloc_new w.drew _
  have hs' := hs.grow (w' := w.drew.alloc (.cells CU (insRen.t 9))) (Bw.of_below ((below_drew w).below.trans ((Below.refl w.heap.size w.drew).alloc (Nat.le_refl _) _))) [.row 9 1 1 (wordsR [x])] [.lv (mkId w.heap.size CU.size 1 1)] rfl
    (fun i h1 h2 => by
      obtain rfl : i = 0 := by simp at h1; omega
      exact BRel.ofRowsV hnew (by rw [hcs, Nat.mul_one]) hge htk (wordsV _ _ [x]))
    (fun p hp x hx => by
      have hp := List.mem_singleton.1 hp
      cases hp
      have := mkId_has hx
      subst this
      exact ⟨Nat.le_refl _, by simp⟩)
    (fun vs h => by simp at h)
    (fun i j p q x h1 h2 _ _ => by
      have h1 := (List.getElem?_eq_some_iff.1 h1).1
      have h2 := (List.getElem?_eq_some_iff.1 h2).1
      simp at h1 h2; omega)
  refine ⟨_, _, rfl, ⟨rfl, rfl, ?_, hs'.mlen, hs'.blks, hs'.distinctX, hs'.freshX, hs'.frame, hs'.im0lt, hs'.gho⟩⟩
  intro j h h'
  match j, h with
  | 0, _ =>
    refine .own 2 GG (mkId w.heap.size CU.size 1 1) ?_ ⟨hge, hle⟩ (by rw [Nat.mul_one]; exact hcs.symm)
    rw [List.getElem?_append_right (by omega), hml]; rfl
end Go.Proofs.YtagokdeflnkplaaDoor

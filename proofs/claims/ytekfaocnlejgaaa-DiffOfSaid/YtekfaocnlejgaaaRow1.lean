/-
  slices.Delete, slices.Insert and slices.Clone at rows of four cells, by the library's own text.
-/
import Derived.Test.YtekfaocnlejgaaaRoad2
import Derived.Test.YtekfaocnlejgaaaAm5
import Derived.Shelf.RegionOpenPlain
import Derived.WalkKit
import Derived.Deep.LoopGhost
import Derived.Deep.RegionLaw
import Derived.Lib.Walk
import Derived.Lib.SliceRun
import Derived.Lib.JoinLaws
import Derived.Lib.AppendZeros
import Derived.Lib.AppendZerosOnto
import Derived.Lib.Overlaps
import Derived.Laws.Externs
import Derived.Laws.IdiomCopy
import Derived.Laws.NewBlocks
import Derived.Shelf.Spec.SlicesInsert
set_option linter.unusedSimpArgs false
set_option linter.unusedSectionVars false
set_option linter.unusedVariables false
namespace Go.Proofs.Ytekfaocnlejgaaa
open Go.Shelf Go.RowKit Go.Lib Go.Proofs.Ytekfaocnlejgaaa.Am
variable [Inhabited DRT]
/-! ### slices.Delete and slices.Insert on rows of four cells: raw walks -/
section
variable {P : Program}
theorem run_clear_k (w : World) (t e ty : TypeId) (z : Value) (ht : P.underlying t = some (.slice e)) (hv : ∀ w, (zeroValue e).run P w = .ok z w) (b o n c : Nat) (hn : 0 < n) (zs : List Value) (hz : (Builtin.zeroCells z.cells n).toList = zs) (h1 : ∀ v ∈ zs, v.oneCell' = true)
    (hc : ∀ j, j < zs.length → (w.cell? ⟨b, o + j, none⟩).isSome = true) (hf : ∀ j, j < zs.length → w.frozen? ⟨b, o + j, none⟩ = false) :
    (Builtin.clear_ #[t] ty #[.slice (some ⟨b, o, none⟩) n c]).run P w = .ok (.tuple #[]) (w.setCells b o zs) := by
  have hst := run_storeCells_cells (P := P) b o zs 0 w (by simpa using hc) (by simpa using hf) h1
  simp only [Nat.add_zero] at hst
  obtain ⟨m, rfl⟩ : ∃ m, n = m + 1 := ⟨n - 1, by omega⟩
  simp [Builtin.clear_, run_underlying ht, hv, hz, hst]
theorem run_copy_k (w : World) (dT sT ty elem : TypeId) (k b o dLen dCap : Nat) (a : Addr) (sLen sCap : Nat) (cs : List Value)
    (hu : P.underlying dT = some (.slice elem)) (hs : (P.info? elem).map (·.size) = some k) (hn : cs.length = Nat.min sLen dLen * k)
    (hsrc : ∀ j v, cs[j]? = some v → w.cell? (a.add j) = some v) (hc : ∀ j, j < cs.length → (w.cell? ⟨b, o + j, none⟩).isSome = true) (hf : ∀ j, j < cs.length → w.frozen? ⟨b, o + j, none⟩ = false) (h1 : ∀ v ∈ cs, v.oneCell' = true) :
    (Builtin.copy_ #[dT, sT] ty #[.slice (some ⟨b, o, none⟩) dLen dCap, .slice (some a) sLen sCap]).run P w = .ok (goInt (Nat.min sLen dLen)) (w.setCells b o cs) := by
  have hl := run_loadCells_list (P := P) w a cs hsrc
  have hst := run_storeCells_cells (P := P) b o cs 0 w (by simpa using hc) (by simpa using hf) h1
  cases hq : P.info? elem with
  | none => simp [hq] at hs
  | some i =>
    have hi : i.size = k := by simpa [hq] using hs
    simp [Builtin.copy_, run_underlying hu, Builtin.lenOf, Builtin.firstCells, sizeOf, typeInfo, hq, hi, ← hn, hl, hst]
end
theorem rdInfo : (Try.prog.info? 34).map (fun i => (i.zero, i.size, i.bytes)) = some (some (.agg #[.int .i64 0, .slice none 0 0, .slice none 0 0, .bool false]), 4, 64) := by kernel_rfl
def rd0 : List Value := [.int .i64 0, .slice none 0 0, .slice none 0 0, .bool false]
theorem rd0_zero : (Builtin.zeroCells (Value.agg #[.int .i64 0, .slice none 0 0, .slice none 0 0, .bool false]).cells 1).toList = rd0 := by
  simp [Builtin.zeroCells, Value.cells, rd0]
  rfl
set_option maxHeartbeats 4000000 in
set_option maxRecDepth 1000000 in
theorem del_raw (g n cap i j : Nat) (hij : i < j) (hij2 : j ≤ i + 1) (hi : i < n) (hcap : n ≤ cap) (hm : cap ≤ 9223372036854775807) (cs : List Value) (hcl : cs.length = n * 4) (h1c : ∀ v ∈ cs, v.oneCell' = true) (w : World)
    (hcs : ∀ (k : Nat) v, cs[k]? = some v → w.cell? ⟨g, k, none⟩ = some v) (hfz : ∀ k, w.frozen? ⟨g, k, none⟩ = false) :
    Calls Try.prog 33 #[.slice (some ⟨g, 0, none⟩) n cap, .int .i64 i, .int .i64 j] w fun e w' =>
      e = .returned (.slice (some ⟨g, 0, none⟩) (n - 1) cap) ∧ w' = (w.drew.setCells g (i * 4) (cs.drop (j * 4))).setCells g ((n - 1) * 4) rd0 := by
  obtain ⟨i0, hi0, hz0, hz1, hz2⟩ := info_parts rdInfo
  have mixed := mixed
  have u22 := run_underlying (P := Try.prog) Try.underlying22
  obtain ⟨news, hnews⟩ : ∃ news, news = cs.drop (j * 4) := ⟨_, rfl⟩
  have hlen : news.length = (n - j) * 4 := by rw [hnews, List.length_drop, hcl]; omega
  obtain ⟨A, hA, hsrc⟩ : ∃ A : Addr, (if cap = j then some (⟨g, 0, none⟩ : Addr) else some ⟨g, j * 4, none⟩) = some A ∧ Hid (∀ t u, news[t]? = some u → w.drew.cell? (A.add t) = some u) := by
    by_cases h : cap = j
    · refine ⟨⟨g, 0, none⟩, by simp [h], fun t u hu => ?_⟩
      have h0 : news.length = 0 := by rw [hlen]; omega
      rw [List.length_eq_zero_iff.1 h0] at hu
      simp at hu
    · refine ⟨⟨g, j * 4, none⟩, by simp [h], fun t u hu => ?_⟩
      rw [hnews, List.getElem?_drop] at hu
      rw [Addr.add_lit]
      exact hcs _ u hu
  have s1 : Hid (news.length = (n - j) * 4) := hlen
  have s2 : Hid (∀ u ∈ news, u.oneCell' = true) := fun u hu => h1c u (by rw [hnews] at hu; exact List.mem_of_mem_drop hu)
  have hsome : ∀ k, k < n * 4 → (w.cell? ⟨g, k, none⟩).isSome = true := fun k hk => by
    rw [hcs k _ (List.getElem?_eq_getElem (by omega))]; rfl
  have s3 : Hid (∀ t, t < news.length → (w.drew.cell? ⟨g, 0 + i * 4 + t, none⟩).isSome = true ∧ w.drew.frozen? ⟨g, 0 + i * 4 + t, none⟩ = false) := by
    intro t ht
    rw [hlen] at ht
    exact ⟨hsome _ (by omega), hfz _⟩
  obtain ⟨W1, hW1⟩ : ∃ W1, W1 = w.drew.setCells g (0 + i * 4) news := ⟨_, rfl⟩
  have hcl2 : ∀ ty, (Builtin.clear_ #[22] ty #[.slice (some ⟨g, (i + (n - j)) * 4, none⟩) (n - (i + (n - j))) (cap - (i + (n - j)))]).run Try.prog W1 = .ok (.tuple #[]) (W1.setCells g ((n - 1) * 4) rd0) := fun ty => by
    rw [show i + (n - j) = n - 1 by omega, show n - (n - 1) = 1 by omega]
    exact run_clear_k W1 22 34 ty _ Try.underlying22 Try.zeroValue34 g ((n - 1) * 4) 1 (cap - (n - 1)) (by omega) rd0 rd0_zero (by decide)
      (fun k hk => by
        have hk : k < 4 := hk
        rw [hW1]
        exact isSome_setCells g _ _ _ (fun t ht => (s3.out t ht).1) _ (hsome _ (by omega)))
      (fun k hk => by rw [hW1, World.frozen?_setCells]; exact hfz _)
  have hN : Hid (news = cs.drop (j * 4)) := hnews
  have hW : Hid (W1 = w.drew.setCells g (0 + i * 4) news) := hW1
  have hic : i ≤ cap := by omega
  have hjc : j ≤ cap := by omega
  have hjn : j ≤ n := by omega
  have hij' : i ≤ j := by omega
  have hii : ¬ ((i : Int) = (j : Int)) := by omega
  clear hW1 hnews hlen hsome
  go_enter Try.func33, Try.ntmps33
  go_wp2_with fail
  go_region_law_o (refine step_append_room rfl (.tmp 22) (.tmp 25) 22 rfl 34 i0 4 Try.underlying22 hi0 hz1 g 0 i cap (by simp [Act.eval, Act.put]) A (n - j) (cap - j) news (by simp [Act.eval, Act.put]) s1.out hsrc.out s2.out (by omega) s3.out ?_; rw [← hW.out])
  go_wp2
  go_ret
  refine ⟨by rw [show i + (n - j) = n - 1 by omega]; rfl, ?_⟩
  rw [hW.out, Nat.zero_add, hN.out]
end Go.Proofs.Ytekfaocnlejgaaa
set_option linter.unusedSimpArgs false
set_option linter.unusedSectionVars false
set_option linter.unusedVariables false
namespace Go.Proofs.Ytekfaocnlejgaaa
open Go.Shelf Go.RowKit Go.Lib Go.Proofs.Ytekfaocnlejgaaa.Am
variable [Inhabited DRT]
set_option maxHeartbeats 4000000 in
set_option maxRecDepth 1000000 in
theorem ins_shift (g n c i vb m vc : Nat) (cs vs : List Value) (w : World) (hi : i < n) (hm : 0 < m) (hm2 : m ≤ 1) (hroom : n + m ≤ c) (hc63 : c ≤ 9223372036854775807) (hvb : vb ≠ g)
    (hcl : cs.length = n * 4) (hvl : vs.length = m * 4)
    (hcs : ∀ (j : Nat) v, cs[j]? = some v → w.cell? ⟨g, j, none⟩ = some v) (hsp : ∀ j, j < (n + m) * 4 → (w.cell? ⟨g, j, none⟩).isSome = true) (hfz : ∀ j, w.frozen? ⟨g, j, none⟩ = false)
    (hvs : ∀ (j : Nat) v, vs[j]? = some v → w.cell? ⟨vb, j, none⟩ = some v) (h1c : ∀ v ∈ cs, v.oneCell' = true) (h1v : ∀ v ∈ vs, v.oneCell' = true)
    (tA tB : TypeId) (kA kB : Nat) (hsa : w.shape? vb = some (tA, kA)) (hsb : w.shape? g = some (tB, kB)) (hkB : kB ≠ 0) (hfv : ∀ j, w.frozen? ⟨vb, j, none⟩ = false) :
    Calls Try.prog 34 #[.slice (some ⟨g, 0, none⟩) n c, .int .i64 i, .slice (some ⟨vb, 0, none⟩) m vc] w fun e w' =>
      e = .returned (.slice (some ⟨g, 0, none⟩) (n + m) c) ∧ w' = (w.drew.setCells g ((i + m) * 4) (cs.drop (i * 4))).setCells g (i * 4) vs := by
  have hz1 : ¬ ((m : Int) = 0) := by omega
  have hz2 : ¬ ((i : Int) = (n : Int)) := by omega
  have hsz : (Try.prog.info? 34).map (·.size) = some 4 := by
    obtain ⟨i0, hi0, h0, h1, h2⟩ := info_parts rdInfo
    rw [hi0]; simp [h1]
  have hov : ∀ lb cb, (callFunc 53 #[.slice (some ⟨vb, 0, none⟩) m vc, .slice (some ⟨g, (i + m) * 4, none⟩) lb cb]).run Try.prog w = .ok (.value (.bool false)) w := fun lb cb => by
    rw [run_callFunc_extern Try.func53 (by kernel_rfl) (by kernel_rfl) (by kernel_rfl) (e := Extern.SlicesOverlaps.overlaps #[22, 22] #[4]) (by kernel_rfl),
      Lib.run_overlaps_apart w 22 4 34 Try.underlying22 4 Try.sizeOf34 ⟨vb, 0, none⟩ ⟨g, (i + m) * 4, none⟩ m vc lb cb hvb tA tB kA kB hsa hsb hkB (hfv _) (hfv _)]
    rfl
  have hdl : (cs.drop (i * 4)).length = (n - i) * 4 := by rw [List.length_drop, hcl]; omega
  have mixed := mixed
  have hw1 : IntKind.i64.wrap ((i : Int) + (m : Int)) = (i : Int) + (m : Int) := by rw [IntKind.wrap_i64]; omega
  have hb1 : (0 : Int) ≤ (i : Int) + (m : Int) := by omega
  have hin : i ≤ n := by omega
  have htn : ((i : Int) + (m : Int)).toNat = i + m := by omega
  have hb2 : ¬ (c = i + m) := by omega
  have hb3 : (i : Int) ≤ (n : Int) + (m : Int) := by omega
  have hb4 : ¬ (c = i) := by omega
  have hcp1 : ∀ ty dc sc, (Builtin.copy_ #[22, 22] ty #[.slice (some ⟨g, (i + m) * 4, none⟩) (n + m - (i + m)) dc, .slice (some ⟨g, i * 4, none⟩) (n + m - i) sc]).run Try.prog w.drew = .ok (goInt (Nat.min (n + m - i) (n + m - (i + m)))) (w.drew.setCells g ((i + m) * 4) (cs.drop (i * 4))) := fun ty dc sc =>
    run_copy_k w.drew _ _ ty 34 4 g ((i + m) * 4) (n + m - (i + m)) dc ⟨g, i * 4, none⟩ (n + m - i) sc (cs.drop (i * 4)) Try.underlying22 hsz (by rw [hdl]; simp only [Nat.min_def]; split <;> omega)
      (fun j v hj => by rw [Addr.add_lit]; exact hcs (i * 4 + j) v (by rwa [List.getElem?_drop] at hj))
      (fun j hj => hsp _ (by omega)) (fun j hj => hfz _) (fun v hv => h1c v (List.mem_of_mem_drop hv))
  obtain ⟨W1, hW1⟩ : ∃ W1, W1 = w.drew.setCells g ((i + m) * 4) (cs.drop (i * 4)) := ⟨_, rfl⟩
  have hsp1 : ∀ k, k < (n + m) * 4 → (W1.cell? ⟨g, k, none⟩).isSome = true := fun k hk => by
    rw [hW1]
    exact isSome_setCells g (cs.drop (i * 4)) ((i + m) * 4) w.drew (fun j hj => hsp _ (by rw [hdl] at hj; omega)) k (hsp k hk)
  have hcp2 : ∀ (W : World), (∀ x, W.cell? x = W1.cell? x) → (∀ x, W.frozen? x = W1.frozen? x) → ∀ ty dc, (Builtin.copy_ #[22, 22] ty #[.slice (some ⟨g, i * 4, none⟩) (n + m - i) dc, .slice (some ⟨vb, 0, none⟩) m vc]).run Try.prog W = .ok (goInt (Nat.min m (n + m - i))) (W.setCells g (i * 4) vs) := fun W hWc hWf ty dc =>
    run_copy_k W _ _ ty 34 4 g (i * 4) (n + m - i) dc ⟨vb, 0, none⟩ m vc vs Try.underlying22 hsz (by rw [hvl]; simp only [Nat.min_def]; split <;> omega)
      (fun j v hj => by
        rw [Addr.add_lit, hWc, hW1, World.cell?_setCells_out g _ _ _ _ (fun h _ => absurd h hvb), Nat.zero_add]
        exact hvs j v hj)
      (fun j hj => by rw [hWc]; exact hsp1 _ (by omega)) (fun j hj => by rw [hWf, hW1, World.frozen?_setCells]; exact hfz _) h1v
  rw [← hW1] at hcp1
  go_enter Try.func34, Try.ntmps34
  go_wp2_with (simp only [hov])
  go_region_law_o (refine step_copy_runI rfl _ _ 22 22 rfl _ _ (by simp [Act.eval, Act.put]) (by simp [Act.eval, Act.put]) (hcp1 _ _ _) ?_)
  go_wp2_with (at_builtin; refine wpList_copy_runI _ rfl _ _ 22 22 rfl _ _ rfl rfl (hcp2 _ (fun _ => rfl) (fun _ => rfl) _ _) ?_)
  go_ret
  first | exact ⟨rfl, rfl⟩ | exact ⟨rfl, by rw [hW1]⟩

set_option maxHeartbeats 4000000 in
set_option maxRecDepth 100000 in
theorem ins_end_room (g n c vb m vc : Nat) (vs : List Value) (w : World) (hm : 0 < m) (hm2 : m ≤ 1) (hroom : n + m ≤ c) (hc63 : c ≤ 9223372036854775807)
    (hvl : vs.length = m * 4) (hsp : ∀ j, j < m * 4 → (w.cell? ⟨g, n * 4 + j, none⟩).isSome = true) (hfz : ∀ j, w.frozen? ⟨g, j, none⟩ = false)
    (hvs : ∀ (j : Nat) v, vs[j]? = some v → w.cell? ⟨vb, j, none⟩ = some v) (h1v : ∀ v ∈ vs, v.oneCell' = true) :
    Calls Try.prog 34 #[.slice (some ⟨g, 0, none⟩) n c, .int .i64 n, .slice (some ⟨vb, 0, none⟩) m vc] w fun e w' =>
      e = .returned (.slice (some ⟨g, 0, none⟩) (n + m) c) ∧ w' = w.setCells g (n * 4) vs := by
  obtain ⟨i0, hi0, hz0, hzs, hzb⟩ := info_parts rdInfo
  have mixed := mixed
  have hz1 : ¬ ((m : Int) = 0) := by omega
  have hrun : ∀ ty, (Builtin.append_ #[22, 22] ty #[.slice (some ⟨g, 0, none⟩) n c, .slice (some ⟨vb, 0, none⟩) m vc]).run Try.prog w = .ok (.slice (some ⟨g, 0, none⟩) (n + m) c) (w.setCells g (n * 4) vs) := fun ty => by
    have h := run_append_room_cells (P := Try.prog) (w := w) 22 ty 34 i0 Try.underlying22 hi0 g 0 n c ⟨vb, 0, none⟩ m vc vs (by rw [hzs]; exact hvl) (fun j u hj => by rw [Addr.add_lit, Nat.zero_add]; exact hvs j u hj) h1v hroom
      (fun j hj => by rw [hzs, Nat.zero_add]; exact hsp j (by omega)) (fun j hj => hfz _)
    rw [hzs, Nat.zero_add] at h
    exact h
  go_enter Try.func34, Try.ntmps34
  go_wp2_with (at_builtin; refine Lib.wpList_append_run _ rfl _ _ _ _ rfl _ _ rfl rfl _ _ (hrun _) ?_)
  go_ret
  exact ⟨rfl, rfl⟩
set_option maxHeartbeats 4000000 in
set_option maxRecDepth 100000 in
theorem ins_end_grow (base : Option Addr) (n c vb m vc : Nat) (cs vs : List Value) (w : World) (hm : 0 < m) (hm2 : m ≤ 1) (hnc : n ≤ c) (hroom : c < n + m) (hbig : n ≤ 1000000)
    (hcl : cs.length = n * 4) (hvl : vs.length = m * 4) (hnil : base = none → n = 0)
    (hcs : ∀ a, base = some a → ∀ (j : Nat) v, cs[j]? = some v → w.cell? (a.add j) = some v)
    (hvs : ∀ (j : Nat) v, vs[j]? = some v → w.cell? ⟨vb, j, none⟩ = some v) (h1v : ∀ v ∈ vs, v.oneCell' = true) :
    Calls Try.prog 34 #[.slice base n c, .int .i64 n, .slice (some ⟨vb, 0, none⟩) m vc] w fun e w' =>
      e = .returned (.slice (some ⟨w.heap.size, 0, none⟩) (n + m) (grownCap w (n + m) c 34)) ∧
      w' = w.drew.alloc (.cells ((cs ++ vs).toArray ++ Builtin.zeroCells (Value.agg #[.int .i64 0, .slice none 0 0, .slice none 0 0, .bool false]).cells (grownCap w (n + m) c 34 - (n + m))) 34) := by
  have mixed := mixed
  obtain ⟨i0, hi0, hz0, hzs, hzb⟩ := info_parts rdInfo
  have hz1 : ¬ ((m : Int) = 0) := by omega
  have hsrc : Src Try.prog i0.size 22 (.slice (some ⟨vb, 0, none⟩) m vc) m vs w := by
    rw [hzs]
    exact Src.ofSlice w Try.underlying22 ⟨vb, 0, none⟩ m vc vs hvl (fun j u hj => by rw [Addr.add_lit, Nat.zero_add]; exact hvs j u hj) h1v
  have hold : (Builtin.firstCells i0.size n (.slice base n c)).run Try.prog w.drew = .ok cs.toArray w.drew := by
    rw [hzs]
    cases base with
    | none =>
      have h0 := hnil rfl
      subst h0
      rw [List.length_eq_zero_iff.1 (by omega : cs.length = 0)]
      exact run_firstCells_none w.drew 4 0 0 c
    | some a => exact run_firstCells_some w.drew 4 n a n c cs hcl (fun j v hj => hcs a rfl j v hj)
  have hrun : ∀ ty, (Builtin.append_ #[22, 22] ty #[.slice base n c, .slice (some ⟨vb, 0, none⟩) m vc]).run Try.prog w = _ := fun ty =>
    run_append_grow_src w 22 22 ty 34 i0 _ Try.underlying22 hi0 hz0 base n c cs hold _ m vs hsrc hroom (by omega) (by rw [hzb]; exact growslice_fits hroom (by omega))
  go_enter Try.func34, Try.ntmps34
  cases base with
  | none =>
    have h0 := hnil rfl
    subst h0
    go_wp2_with (at_builtin; refine Lib.wpList_append_run _ rfl _ _ _ _ rfl _ _ rfl rfl _ _ (hrun _) ?_)
    go_ret
    exact ⟨rfl, rfl⟩
  | some a =>
    obtain ⟨ab, ao, asp⟩ := a
    go_wp2_with (at_builtin; refine Lib.wpList_append_run _ rfl _ _ _ _ rfl _ _ rfl rfl _ _ (hrun _) ?_)
    all_goals (go_ret; exact ⟨rfl, rfl⟩)
end Go.Proofs.Ytekfaocnlejgaaa
set_option linter.unusedSimpArgs false
set_option linter.unusedSectionVars false
set_option linter.unusedVariables false
namespace Go.Proofs.Ytekfaocnlejgaaa
open Go.Shelf Go.RowKit Go.Lib Go.Proofs.Ytekfaocnlejgaaa.Am
variable [Inhabited DRT]
set_option maxHeartbeats 4000000 in
set_option maxRecDepth 100000 in
theorem ins_grow (g n c i vb m vc : Nat) (cs vs : List Value) (w : World) (hi : i < n) (hm : 0 < m) (hm2 : m ≤ 1) (hnc : n ≤ c) (hroom : c < n + m) (hbig : n ≤ 1000000)
    (hcl : cs.length = n * 4) (hvl : vs.length = m * 4)
    (hcs : ∀ (j : Nat) v, cs[j]? = some v → w.cell? ⟨g, j, none⟩ = some v)
    (hvs : ∀ (j : Nat) v, vs[j]? = some v → w.cell? ⟨vb, j, none⟩ = some v) (h1c : ∀ v ∈ cs, v.oneCell' = true) (h1v : ∀ v ∈ vs, v.oneCell' = true) :
    Calls Try.prog 34 #[.slice (some ⟨g, 0, none⟩) n c, .int .i64 i, .slice (some ⟨vb, 0, none⟩) m vc] w fun e w' =>
      e = .returned (.slice (some ⟨w.heap.size, 0, none⟩) (n + m) (grownCap w (n + m) c 34)) ∧
      w' = (((w.alloc (.cells ((cs.take (i * 4)).toArray ++ Builtin.zeroCells (Value.agg #[.int .i64 0, .slice none 0 0, .slice none 0 0, .bool false]).cells (n + m - i) ++ Builtin.zeroCells (Value.agg #[.int .i64 0, .slice none 0 0, .slice none 0 0, .bool false]).cells (grownCap w (n + m) c 34 - (n + m))) 34)).drew.setCells w.heap.size (i * 4) vs).drew).setCells w.heap.size ((i + m) * 4) (cs.drop (i * 4)) := by
  have mixed := mixed
  obtain ⟨i0, hi0, hz0, hzs, hzb⟩ := info_parts rdInfo
  have hz1 : ¬ ((m : Int) = 0) := by omega
  have hz2 : ¬ ((i : Int) = (n : Int)) := by omega
  have hz3 : (c : Int) < (n : Int) + (m : Int) := by omega
  have hsz : (Try.prog.info? 34).map (·.size) = some 4 := by rw [hi0]; simp [hzs]
  have hbw : g < w.heap.size := block_lt_of_cell (hcs 0 _ (List.getElem?_eq_getElem (by omega)))
  have hvw : vb < w.heap.size := block_lt_of_cell (hvs 0 _ (List.getElem?_eq_getElem (by omega)))
  have hkk : (n : Int) + (m : Int) - (i : Int) = ((n + m - i : Nat) : Int) := by omega
  have hik : i + (n + m - i) = n + m := by omega
  have hold : (Builtin.firstCells i0.size i (.slice (some ⟨g, 0, none⟩) i c)).run Try.prog w.drew = .ok (cs.take (i * 4)).toArray w.drew := by
    rw [hzs]
    exact run_firstCells_some w.drew 4 i ⟨g, 0, none⟩ i c (cs.take (i * 4)) (by rw [List.length_take]; omega) (fun j v hj => by
      rw [Addr.add_lit, Nat.zero_add]
      rw [List.getElem?_take] at hj
      split at hj
      · exact hcs j v hj
      · cases hj)
  generalize hZ : (Value.agg #[.int .i64 0, .slice none 0 0, .slice none 0 0, .bool false]) = Z at *
  have hZc : Z.cells.size = 4 := by rw [← hZ]; rfl
  have hrz : ∀ ty, (Builtin.append_ #[22, 3] ty #[.slice (some ⟨g, 0, none⟩) i c, .int .i64 ((n : Int) + (m : Int) - (i : Int))]).run Try.prog w =
      .ok (.slice (some ⟨w.heap.size, 0, none⟩) (n + m) (grownCap w (n + m) c 34)) (w.drew.alloc (.cells ((cs.take (i * 4)).toArray ++ Builtin.zeroCells Z.cells (n + m - i) ++ Builtin.zeroCells Z.cells (grownCap w (n + m) c 34 - (n + m))) 34)) := fun ty => by
    have h := Lib.run_append_grow_zeros w 22 3 ty 34 i0 _ .i64 .i64 Try.underlying22 Try.underlying3 hi0 hz0 (some ⟨g, 0, none⟩) i c (cs.take (i * 4)) hold (n + m - i) (by omega) (by omega) (by omega) (by omega) (by rw [hzb]; omega) (by rw [hzb, hik]; exact growslice_fits hroom (by omega))
    rw [hik] at h
    rw [hkk]
    exact h
  obtain ⟨GG, hG⟩ : ∃ GG, GG = grownCap w (n + m) c 34 := ⟨_, rfl⟩
  obtain ⟨ROW, hROW⟩ : ∃ ROW : Array Value, ROW = (cs.take (i * 4)).toArray ++ Builtin.zeroCells Z.cells (n + m - i) ++ Builtin.zeroCells Z.cells (GG - (n + m)) := ⟨_, rfl⟩
  rw [← hG] at hrz ⊢
  rw [← hROW] at hrz ⊢
  have hGn : n + m ≤ GG := by rw [hG]; exact grownCap_ge w _ _ _
  have hRl : (n + m) * 4 ≤ ROW.size := by
    rw [hROW]
    simp [Builtin.zeroCells, hZc]
    omega
  obtain ⟨W1, hW1⟩ : ∃ W1, W1 = w.drew.alloc (.cells ROW 34) := ⟨_, rfl⟩
  rw [← hW1] at hrz
  have hN : ∀ j, j < (n + m) * 4 → (W1.cell? ⟨w.heap.size, j, none⟩).isSome = true := fun j hj => by
    rw [hW1, World.cell?_alloc_at (w := w.drew) ROW _ w.heap.size j rfl, Array.getElem?_eq_getElem (by omega)]; rfl
  have hNf : ∀ j, W1.frozen? ⟨w.heap.size, j, none⟩ = false := fun j => by rw [hW1]; exact World.frozen?_alloc_at (w := w.drew) ROW _ w.heap.size j rfl
  have hOb : ∀ j v, w.cell? ⟨g, j, none⟩ = some v → W1.cell? ⟨g, j, none⟩ = some v := fun j v h => by rw [hW1, World.cell?_alloc_past (w := w.drew) _ g j hbw]; exact h
  have hOv : ∀ j v, w.cell? ⟨vb, j, none⟩ = some v → W1.cell? ⟨vb, j, none⟩ = some v := fun j v h => by rw [hW1, World.cell?_alloc_past (w := w.drew) _ vb j hvw]; exact h
  have hdl : (cs.drop (i * 4)).length = (n - i) * 4 := by rw [List.length_drop, hcl]; omega
  have hcpA : ∀ (W : World), (∀ x, W.cell? x = W1.cell? x) → (∀ x, W.frozen? x = W1.frozen? x) → ∀ ty dc, (Builtin.copy_ #[22, 22] ty #[.slice (some ⟨w.heap.size, i * 4, none⟩) (n + m - i) dc, .slice (some ⟨vb, 0, none⟩) m vc]).run Try.prog W = .ok (goInt (Nat.min m (n + m - i))) (W.setCells w.heap.size (i * 4) vs) := fun W hWc hWf ty dc =>
    run_copy_k W _ _ ty 34 4 w.heap.size (i * 4) (n + m - i) dc ⟨vb, 0, none⟩ m vc vs Try.underlying22 hsz (by rw [hvl]; simp only [Nat.min_def]; split <;> omega)
      (fun j v hj => by rw [Addr.add_lit, hWc, Nat.zero_add]; exact hOv _ v (hvs j v hj))
      (fun j hj => by rw [hWc]; exact hN _ (by omega)) (fun j hj => by rw [hWf]; exact hNf _) h1v
  have hG63 : GG ≤ 9223372036854775807 := by
    have := grownCap_le_maxLen w (n + m) c 34 (by unfold maxLen; omega)
    rw [← hG] at this
    unfold maxLen at this
    omega
  have hGi : ¬ (GG = i) := by omega
  have hGim : ¬ (GG = i + m) := by omega
  have hci : ¬ (c = i) := by omega
  have hbN : g ≠ w.heap.size := by omega
  have hcpB : ∀ (W : World), (∀ x, W.cell? x = (W1.setCells w.heap.size (i * 4) vs).cell? x) → (∀ x, W.frozen? x = (W1.setCells w.heap.size (i * 4) vs).frozen? x) → ∀ ty dc sc, (Builtin.copy_ #[22, 22] ty #[.slice (some ⟨w.heap.size, (i + m) * 4, none⟩) (n + m - (i + m)) dc, .slice (some ⟨g, i * 4, none⟩) (n - i) sc]).run Try.prog W = .ok (goInt (Nat.min (n - i) (n + m - (i + m)))) (W.setCells w.heap.size ((i + m) * 4) (cs.drop (i * 4))) := fun W hWc hWf ty dc sc =>
    run_copy_k W _ _ ty 34 4 w.heap.size ((i + m) * 4) (n + m - (i + m)) dc ⟨g, i * 4, none⟩ (n - i) sc (cs.drop (i * 4)) Try.underlying22 hsz (by rw [hdl]; simp only [Nat.min_def]; split <;> omega)
      (fun j v hj => by
        rw [Addr.add_lit, hWc, World.cell?_setCells_out _ _ _ _ _ (fun h _ => absurd h hbN)]
        exact hOb _ v (hcs (i * 4 + j) v (by rwa [List.getElem?_drop] at hj)))
      (fun j hj => by rw [hWc]; exact isSome_setCells _ vs (i * 4) W1 (fun t ht => hN _ (by omega)) _ (hN _ (by omega)))
      (fun j hj => by rw [hWf, World.frozen?_setCells]; exact hNf _) (fun v hv => h1c v (List.mem_of_mem_drop hv))
  subst hW1
  have hE1 : ∀ x, ((w.alloc (.cells ROW 34)).drew).cell? x = (w.drew.alloc (.cells ROW 34)).cell? x := fun x => rfl
  have hE2 : ∀ x, ((w.alloc (.cells ROW 34)).drew).frozen? x = (w.drew.alloc (.cells ROW 34)).frozen? x := fun x => rfl
  have hF1 : ∀ x, (((w.alloc (.cells ROW 34)).drew.setCells w.heap.size (i * 4) vs).drew).cell? x = ((w.drew.alloc (.cells ROW 34)).setCells w.heap.size (i * 4) vs).cell? x := fun x => rfl
  have hF2 : ∀ x, (((w.alloc (.cells ROW 34)).drew.setCells w.heap.size (i * 4) vs).drew).frozen? x = ((w.drew.alloc (.cells ROW 34)).setCells w.heap.size (i * 4) vs).frozen? x := fun x => rfl
  have hw1 : IntKind.i64.wrap ((i : Int) + (m : Int)) = (i : Int) + (m : Int) := by rw [IntKind.wrap_i64]; omega
  have hb1 : (0 : Int) ≤ (i : Int) + (m : Int) := by omega
  have hin : i ≤ n := by omega
  have htn : ((i : Int) + (m : Int)).toNat = i + m := by omega
  have hb3 : (i : Int) ≤ (n : Int) := by omega
  clear hkk hik hold hROW hG hRl hZ
  go_enter Try.func34, Try.ntmps34
  go_wp2_with (first
    | (at_builtin; refine Lib.wpList_append_run _ rfl _ _ _ _ rfl _ _ rfl rfl _ _ (hrz _) ?_)
    | (at_builtin; refine wpList_copy_runI _ rfl _ _ 22 22 rfl _ _ rfl rfl (hcpA _ hE1 hE2 _ _) ?_)
    | (at_builtin; refine wpList_copy_runI _ rfl _ _ 22 22 rfl _ _ rfl rfl (hcpB _ (fun _ => rfl) (fun _ => rfl) _ _ _) ?_))
  go_region_law_o (refine step_copy_runI rfl _ _ 22 22 rfl (.slice (some ⟨w.heap.size, (i + m) * 4, none⟩) (n + m - (i + m)) (GG - (i + m))) (.slice (some ⟨g, i * 4, none⟩) (n - i) (c - i)) (by simp [Act.eval, Act.put]) (by simp [Act.eval, Act.put]) (hcpB _ hF1 hF2 3 (GG - (i + m)) (c - i)) ?_)
  go_wp2
  go_ret
  exact ⟨rfl, rfl⟩
end Go.Proofs.Ytekfaocnlejgaaa
set_option linter.unusedSimpArgs false
set_option linter.unusedSectionVars false
set_option linter.unusedVariables false
namespace Go.Proofs.Ytekfaocnlejgaaa
open Go.Proofs.Ytekfaocnlejgaaa.Am Go.Lib
open Go.RowKit (Below)
variable [Inhabited DRT]
variable {G : GInv}
/-! ### Rows cut, and put together -/
theorem rowsV_takeN {im : Nat → Prop} {w : World} {n sz : Nat} {row : Nat → List A} {vs : List Value} (h : RowsV im w n sz row vs) (k : Nat) (hk : k ≤ n) : RowsV im w k sz row (vs.take (k * sz)) := by
  obtain ⟨a1, a2, a3, a4⟩ := h
  have hks := Nat.mul_le_mul_right sz hk
  refine ⟨by rw [List.length_take]; omega, fun u hu => a2 u (List.mem_of_mem_take hu), fun i hi => a3 i (by omega), fun i j hi h h' => ?_⟩
  rw [List.length_take] at h'
  rw [List.getElem_take]
  exact a4 i j (by omega) h (by omega)
theorem rowsV_dropN {im : Nat → Prop} {w : World} {n sz : Nat} {row : Nat → List A} {vs : List Value} (h : RowsV im w n sz row vs) (k : Nat) (hk : k ≤ n) : RowsV im w (n - k) sz (fun i => row (i + k)) (vs.drop (k * sz)) := by
  obtain ⟨a1, a2, a3, a4⟩ := h
  refine ⟨by rw [List.length_drop, Nat.sub_mul]; omega, fun u hu => a2 u (List.mem_of_mem_drop hu), fun i hi => a3 _ (by omega), fun i j hi h h' => ?_⟩
  rw [List.length_drop] at h'
  have e : (i + k) * sz + j = k * sz + (i * sz + j) := by rw [Nat.add_mul]; omega
  have := a4 (i + k) j (by omega) h (by rw [e]; omega)
  simp only [List.getElem_drop]
  simpa only [e] using this
theorem rowsV_congr {im : Nat → Prop} {w : World} {n sz : Nat} {row row' : Nat → List A} {vs : List Value} (h : RowsV im w n sz row vs) (he : ∀ i, i < n → row' i = row i) : RowsV im w n sz row' vs := by
  obtain ⟨a1, a2, a3, a4⟩ := h
  refine ⟨a1, a2, fun i hi => by rw [he i hi]; exact a3 i hi, fun i j hi h h' => ?_⟩
  have h2 : j < (row i).length := by rw [← he i hi]; exact h
  have e : (row' i)[j] = (row i)[j] := by simp only [he i hi]
  rw [e]
  exact a4 i j hi h2 h'
theorem rowsV_map {im im' : Nat → Prop} {w w' : World} {n sz : Nat} {row : Nat → List A} {vs : List Value} (h : RowsV im w n sz row vs) (hm : ∀ u v, RelI im w u v → RelI im' w' u v) : RowsV im' w' n sz row vs :=
  ⟨h.1, h.2.1, h.2.2.1, fun i j hi a b => hm _ _ (h.2.2.2 i j hi a b)⟩
theorem setCell_heap (w : World) (g o : Nat) (v : Value) (cur : Array Value) (e : TypeId) (z : Nat × Nat) (h : w.heap[g]? = some (.cells cur e z)) :
    (w.setCell ⟨g, o, none⟩ v).heap[g]? = some (.cells (cur.setIfInBounds o v) e z) ∧ (∀ k, k ≠ g → (w.setCell ⟨g, o, none⟩ v).heap[k]? = w.heap[k]?) ∧ (w.setCell ⟨g, o, none⟩ v).heap.size = w.heap.size := by
  unfold World.setCell
  refine ⟨?_, ?_, by simp⟩
  · show (w.heap.modify g _)[g]? = _
    rw [Array.getElem?_modify, if_pos rfl, h]; rfl
  · intro k hk
    show (w.heap.modify g _)[k]? = _
    rw [Array.getElem?_modify, if_neg (fun e => hk e.symm)]
theorem setCells_row (g : Nat) (e : TypeId) (z : Nat × Nat) : ∀ (vs : List Value) (o : Nat) (w : World) (cur : Array Value), w.heap[g]? = some (.cells cur e z) → o + vs.length ≤ cur.size →
    ∃ cur', (w.setCells g o vs).heap[g]? = some (.cells cur' e z) ∧ cur'.size = cur.size ∧ (∀ j, cur'[j]? = if o ≤ j ∧ j < o + vs.length then vs[j - o]? else cur[j]?) ∧
      (∀ k, k ≠ g → (w.setCells g o vs).heap[k]? = w.heap[k]?) ∧ (w.setCells g o vs).heap.size = w.heap.size ∧ (w.setCells g o vs).os = w.os ∧ (w.setCells g o vs).tape = w.tape ∧ (w.setCells g o vs).output = w.output ∧ (w.setCells g o vs).drawn = w.drawn
  | [], o, w, cur, h, _ => ⟨cur, h, rfl, fun j => by rw [if_neg (by rw [List.length_nil]; omega)], fun _ _ => rfl, rfl, rfl, rfl, rfl, rfl⟩
  | v :: r, o, w, cur, h, hl => by
    obtain ⟨h1, h2, h3⟩ := setCell_heap w g o v cur e z h
    obtain ⟨cur', q1, q2, q3, q4, q5, q6, q7, q8, q9⟩ := setCells_row g e z r (o + 1) (w.setCell ⟨g, o, none⟩ v) _ h1 (by simp at hl ⊢; omega)
    refine ⟨cur', q1, by rw [q2]; simp, fun j => ?_, fun k hk => (q4 k hk).trans (h2 k hk), q5.trans h3, q6, q7, q8, q9⟩
    rw [q3]
    simp only [List.length_cons] at hl ⊢
    by_cases hj : j = o
    · subst hj
      rw [if_neg (by omega), if_pos (by omega), Array.getElem?_setIfInBounds, if_pos rfl, if_pos (by omega)]
      simp
    · by_cases hj2 : o ≤ j ∧ j < o + (r.length + 1)
      · rw [if_pos (by omega), if_pos hj2, show j - o = (j - (o + 1)) + 1 by omega, List.getElem?_cons_succ]
      · rw [if_neg (by omega), if_neg hj2, Array.getElem?_setIfInBounds, if_neg (fun e => hj e.symm)]
theorem frozen_row (w : World) (g : Nat) (cur : Array Value) (e : TypeId) (h : w.heap[g]? = some (.cells cur e (0, 0))) (j : Nat) : w.frozen? ⟨g, j, none⟩ = false := by
  unfold World.frozen?; simp only [h]; simp
theorem del_out (g n cap i : Nat) (hi : i < n) (hcap : n ≤ cap) (hm : cap ≤ maxLen) (cur : Array Value) (w : World) (hg : w.heap[g]? = some (.cells cur 34 (0, 0))) (hcs : cur.size = cap * 4) (h1c : ∀ v ∈ cur.toList.take (n * 4), oneV v) :
    Calls Try.prog 33 #[.slice (some ⟨g, 0, none⟩) n cap, .int .i64 i, .int .i64 (i + 1)] w fun e w' =>
      ∃ v', e = .returned v' ∧ AppOut w (.slice (some ⟨g, 0, none⟩) n cap) 34 4 (n - 1) 0 ((cur.toList.take (n * 4)).take (i * 4) ++ (cur.toList.take (n * 4)).drop ((i + 1) * 4)) [] v' w' := by
  have hgs : g < w.heap.size := (Array.getElem?_eq_some_iff.1 hg).1
  generalize hC : cur.toList.take (n * 4) = cs at *
  have hcl : cs.length = n * 4 := by rw [← hC]; simp; omega
  have hcell : ∀ (j : Nat) (v : Value), cs[j]? = some v → cur[j]? = some v := by
    intro j v hj
    rw [← hC, List.getElem?_take] at hj
    split at hj
    · simpa using hj
    · cases hj
  have hcell' : ∀ (j : Nat), j < n * 4 → cur[j]? = cs[j]? := by
    intro j hj
    rw [← hC, List.getElem?_take, if_pos hj]; simp
  have := del_raw g n cap i (i + 1) (by omega) (by omega) hi hcap (by unfold maxLen at hm; omega) cs hcl h1c w
    (fun k v hk => by rw [cell_of_row w g k cur _ (0, 0) hg]; exact hcell k v hk) (frozen_row w g cur _ hg)
  refine Calls_mono this ?_
  rintro e w' ⟨rfl, rfl⟩
  refine ⟨_, rfl, ?_⟩
  have hdl : (cs.drop ((i + 1) * 4)).length = (n - (i + 1)) * 4 := by rw [List.length_drop, hcl]; omega
  obtain ⟨c1, a1, a2, a3, a4, a5, a6, a7, a8, a9⟩ := setCells_row g 34 (0, 0) (cs.drop ((i + 1) * 4)) (i * 4) w.drew cur hg (by rw [hdl]; omega)
  obtain ⟨c2, b1, b2, b3, b4, b5, b6, b7, b8, b9⟩ := setCells_row g 34 (0, 0) rd0 ((n - 1) * 4) _ c1 a1 (by rw [a2]; show (n - 1) * 4 + 4 ≤ _; omega)
  refine ⟨b6.trans a6, b7.trans a7, b8.trans a8, by rw [b5, a5]; exact Nat.le_refl _, fun k _ hk => ?_, by rw [b9, a9]; exact drLe.succ _, .inr ⟨g, cap, c2, rfl, b1, by omega, hm, by rw [b2, a2, hcs], ?_, by rw [b5, a5]; exact hgs, .inr rfl⟩⟩
  · have : k ≠ g := fun e => hk (by subst e; rfl)
    exact (b4 k this).trans (a4 k this)
  · apply List.ext_getElem?
    intro j
    rw [Nat.add_zero, List.append_nil, List.getElem?_take]
    by_cases hj : j < (n - 1) * 4
    · rw [if_pos hj, Array.getElem?_toList, b3, if_neg (by omega), a3, hdl]
      by_cases h1 : j < i * 4
      · rw [if_neg (by omega), List.getElem?_append_left (by rw [List.length_take]; omega), List.getElem?_take, if_pos h1]
        exact hcell' j (by omega)
      · rw [if_pos (by omega), List.getElem?_append_right (by rw [List.length_take]; omega), List.length_take, show min (i * 4) cs.length = i * 4 by omega]
    · rw [if_neg hj, List.getElem?_eq_none (by rw [List.length_append, List.length_take, hdl]; omega)]

theorem cellsOf_cur (cur : Array Value) (n k : Nat) (h : n * 4 ≤ cur.size) : ∀ (j : Nat), j < n * 4 → cur[j]? = (cur.toList.take (n * 4))[j]? := fun j hj => by
  rw [List.getElem?_take, if_pos hj]; simp
theorem ins_out (g vb n cap vc i : Nat) (hi : i ≤ n) (hcap : n ≤ cap) (hn : n ≤ 1000000) (hm : cap ≤ maxLen) (cur curv : Array Value) (w : World) (hg : w.heap[g]? = some (.cells cur 34 (0, 0))) (hcs : cur.size = cap * 4) (h1c : ∀ v ∈ cur.toList.take (n * 4), oneV v)
    (hv : w.heap[vb]? = some (.cells curv 34 (0, 0))) (hvs : 4 ≤ curv.size) (h1v : ∀ v ∈ curv.toList.take 4, oneV v) (hvg : vb ≠ g) :
    Calls Try.prog 34 #[.slice (some ⟨g, 0, none⟩) n cap, .int .i64 i, .slice (some ⟨vb, 0, none⟩) 1 vc] w fun e w' =>
      ∃ v', e = .returned v' ∧ AppOut w (.slice (some ⟨g, 0, none⟩) n cap) 34 4 n 1 ((cur.toList.take (n * 4)).take (i * 4)) (curv.toList.take 4 ++ (cur.toList.take (n * 4)).drop (i * 4)) v' w' := by
  have hgs : g < w.heap.size := (Array.getElem?_eq_some_iff.1 hg).1
  have hle : n * 4 ≤ cur.size := by omega
  generalize hC : cur.toList.take (n * 4) = cs at *
  generalize hV : curv.toList.take 4 = vs at *
  have hcl : cs.length = n * 4 := by rw [← hC]; simp; omega
  have hvl : vs.length = 1 * 4 := by rw [← hV]; simp; omega
  have hcell : ∀ (j : Nat) (v : Value), cs[j]? = some v → cur[j]? = some v := by
    intro j v hj
    rw [← hC, List.getElem?_take] at hj
    split at hj
    · simpa using hj
    · cases hj
  have hcell' : ∀ (j : Nat), j < n * 4 → cur[j]? = cs[j]? := by
    intro j hj
    rw [← hC, List.getElem?_take, if_pos hj]; simp
  have hvcell : ∀ (j : Nat) (v : Value), vs[j]? = some v → w.cell? ⟨vb, j, none⟩ = some v := by
    intro j v hj
    rw [← hV, List.getElem?_take] at hj
    rw [cell_of_row w vb j curv _ (0, 0) hv]
    split at hj
    · simpa using hj
    · cases hj
  have hcs1 : ∀ (j : Nat) (v : Value), cs[j]? = some v → w.cell? ⟨g, j, none⟩ = some v := fun j v hj => by
    rw [cell_of_row w g j cur _ (0, 0) hg]; exact hcell j v hj
  have hsp : ∀ j, j < cap * 4 → (w.cell? ⟨g, j, none⟩).isSome = true := fun j hj => by
    rw [cell_of_row w g j cur _ (0, 0) hg, Array.getElem?_eq_getElem (by omega)]; rfl
  have hdl : (cs.drop (i * 4)).length = (n - i) * 4 := by rw [List.length_drop, hcl]; omega
  have htl : (cs.take (i * 4)).length = i * 4 := by rw [List.length_take, hcl]; omega
  have hcap63 : cap ≤ 9223372036854775807 := by unfold maxLen at hm; omega
  by_cases hroom : n + 1 ≤ cap
  · by_cases hin : i < n
    · have := ins_shift g n cap i vb 1 vc cs vs w hin (by omega) (by omega) hroom hcap63 hvg hcl hvl hcs1 (fun j hj => hsp j (by omega)) (frozen_row w g cur _ hg) hvcell h1c h1v
        34 34 curv.size cur.size (by unfold World.shape?; rw [hv]) (by unfold World.shape?; rw [hg]) (by omega) (frozen_row w vb curv _ hv)
      refine Calls_mono this ?_
      rintro e w' ⟨rfl, rfl⟩
      refine ⟨_, rfl, ?_⟩
      obtain ⟨c1, a1, a2, a3, a4, a5, a6, a7, a8, a9⟩ := setCells_row g 34 (0, 0) (cs.drop (i * 4)) ((i + 1) * 4) w.drew cur hg (by rw [hdl]; omega)
      obtain ⟨c2, b1, b2, b3, b4, b5, b6, b7, b8, b9⟩ := setCells_row g 34 (0, 0) vs (i * 4) _ c1 a1 (by rw [a2]; omega)
      refine ⟨b6.trans a6, b7.trans a7, b8.trans a8, by rw [b5, a5]; exact Nat.le_refl _, fun k _ hk => ?_, by rw [b9, a9]; exact drLe.succ _, .inr ⟨g, cap, c2, rfl, b1, hroom, hm, by rw [b2, a2, hcs], ?_, by rw [b5, a5]; exact hgs, .inr rfl⟩⟩
      · have : k ≠ g := fun e => hk (by subst e; rfl)
        exact (b4 k this).trans (a4 k this)
      · apply List.ext_getElem?
        intro j
        rw [List.getElem?_take]
        by_cases hj : j < (n + 1) * 4
        · rw [if_pos hj, Array.getElem?_toList, b3, hvl, a3, hdl]
          by_cases h1 : j < i * 4
          · rw [if_neg (by omega), if_neg (by omega), List.getElem?_append_left (by omega), List.getElem?_take, if_pos h1]
            exact hcell' j (by omega)
          · rw [List.getElem?_append_right (by omega), htl]
            by_cases h2 : j < i * 4 + 4
            · rw [if_pos (by omega), List.getElem?_append_left (by omega)]
            · rw [if_neg (by omega), if_pos (by omega), List.getElem?_append_right (by omega), hvl, show j - i * 4 - 1 * 4 = j - (i + 1) * 4 by omega]
        · rw [if_neg hj, List.getElem?_eq_none (by rw [List.length_append, List.length_append, htl, hdl]; omega)]
    · have hin : i = n := by omega
      subst hin
      have := ins_end_room g i cap vb 1 vc vs w (by omega) (by omega) hroom hcap63 hvl (fun j hj => hsp _ (by omega)) (frozen_row w g cur _ hg) hvcell h1v
      refine Calls_mono this ?_
      rintro e w' ⟨rfl, rfl⟩
      refine ⟨_, rfl, ?_⟩
      obtain ⟨c1, a1, a2, a3, a4, a5, a6, a7, a8, a9⟩ := setCells_row g 34 (0, 0) vs (i * 4) w cur hg (by omega)
      refine ⟨a6, a7, a8, by rw [a5]; exact Nat.le_refl _, fun k _ hk => ?_, by rw [a9]; exact drLe.refl _, .inr ⟨g, cap, c1, rfl, a1, hroom, hm, by rw [a2, hcs], ?_, by rw [a5]; exact hgs, .inr rfl⟩⟩
      · have : k ≠ g := fun e => hk (by subst e; rfl)
        exact a4 k this
      · apply List.ext_getElem?
        intro j
        rw [List.getElem?_take]
        by_cases hj : j < (i + 1) * 4
        · rw [if_pos hj, Array.getElem?_toList, a3, hvl]
          by_cases h1 : j < i * 4
          · rw [if_neg (by omega), List.getElem?_append_left (by omega), List.getElem?_take, if_pos h1]
            exact hcell' j (by omega)
          · rw [if_pos (by omega), List.getElem?_append_right (by omega), htl, List.getElem?_append_left (by omega)]
        · rw [if_neg hj, List.getElem?_eq_none (by rw [List.length_append, List.length_append, htl, hdl]; omega)]
  · have hge := grownCap_ge w (n + 1) cap 34
    have hgl := grownCap_le_maxLen w (n + 1) cap 34 (by unfold maxLen; omega)
    by_cases hin : i < n
    · have := ins_grow g n cap i vb 1 vc cs vs w hin (by omega) (by omega) hcap (by omega) hn hcl hvl hcs1 hvcell h1c h1v
      refine Calls_mono this ?_
      rintro e w' ⟨rfl, rfl⟩
      refine ⟨_, rfl, ?_⟩
      generalize grownCap w (n + 1) cap 34 = GG at *
      generalize hR0 : ((cs.take (i * 4)).toArray ++ Builtin.zeroCells (Value.agg #[.int .i64 0, .slice none 0 0, .slice none 0 0, .bool false]).cells (n + 1 - i) ++ Builtin.zeroCells (Value.agg #[.int .i64 0, .slice none 0 0, .slice none 0 0, .bool false]).cells (GG - (n + 1))) = R0
      have hR0s : R0.size = GG * 4 := by
        rw [← hR0]; simp [Builtin.zeroCells, Value.cells, hcl]; omega
      have hR0g : ∀ j : Nat, j < i * 4 → R0[j]? = cs[j]? := by
        intro j hj
        rw [← hR0, Array.append_assoc, Array.getElem?_append, if_pos (by simp; omega)]
        simp [hj]
      have hnew : ((w.alloc (.cells R0 34)).drew).heap[w.heap.size]? = some (.cells R0 34 (0, 0)) := heap_alloc_new w _
      obtain ⟨c1, a1, a2, a3, a4, a5, a6, a7, a8, a9⟩ := setCells_row w.heap.size 34 (0, 0) vs (i * 4) _ R0 hnew (by rw [hR0s]; omega)
      obtain ⟨c2, b1, b2, b3, b4, b5, b6, b7, b8, b9⟩ := setCells_row w.heap.size 34 (0, 0) (cs.drop (i * 4)) ((i + 1) * 4) (((w.alloc (.cells R0 34)).drew.setCells w.heap.size (i * 4) vs).drew) c1 a1 (by rw [a2, hdl, hR0s]; omega)
      refine ⟨b6.trans a6, b7.trans a7, b8.trans a8, ?_, fun k hk _ => ?_, ?_, .inr ⟨w.heap.size, GG, c2, rfl, b1, hge, hgl, by rw [b2, a2, hR0s], ?_, ?_, .inl (Nat.le_refl _)⟩⟩
      · rw [b5]; show _ ≤ (World.setCells _ _ _ _).heap.size
        rw [a5]; simp [World.drew]
      · refine (b4 k (by omega)).trans ?_
        refine (a4 k (by omega)).trans ?_
        exact Below.heap_alloc w _ k hk
      · rw [b9]; show drLe w.drawn ((World.setCells _ _ _ _).drew).drawn
        refine drLe.trans ?_ (drLe.succ _)
        rw [a9]; exact drLe.succ _
      · apply List.ext_getElem?
        intro j
        rw [List.getElem?_take]
        by_cases hj : j < (n + 1) * 4
        · rw [if_pos hj, Array.getElem?_toList, b3, hdl, a3, hvl]
          by_cases h1 : j < i * 4
          · rw [if_neg (by omega), if_neg (by omega), hR0g j h1, List.getElem?_append_left (by omega), List.getElem?_take, if_pos h1]
          · rw [List.getElem?_append_right (by omega), htl]
            by_cases h2 : j < i * 4 + 4
            · rw [if_neg (by omega), if_pos (by omega), List.getElem?_append_left (by omega)]
            · rw [if_pos (by omega), List.getElem?_append_right (by omega), hvl, show j - i * 4 - 1 * 4 = j - (i + 1) * 4 by omega]
        · rw [if_neg hj, List.getElem?_eq_none (by rw [List.length_append, List.length_append, htl, hdl]; omega)]
      · rw [b5]; show _ < (World.setCells _ _ _ _).heap.size
        rw [a5]; simp [World.drew]
    · have hin : i = n := by omega
      subst hin
      have := ins_end_grow (some ⟨g, 0, none⟩) i cap vb 1 vc cs vs w (by omega) (by omega) hcap (by omega) hn hcl hvl (fun h => by cases h) (fun a ha j v hj => by cases ha; rw [Addr.add_lit, Nat.zero_add]; exact hcs1 j v hj) hvcell h1v
      refine Calls_mono this ?_
      rintro e w' ⟨rfl, rfl⟩
      refine ⟨_, rfl, ?_⟩
      generalize grownCap w (i + 1) cap 34 = GG at *
      generalize hR0 : ((cs ++ vs).toArray ++ Builtin.zeroCells (Value.agg #[.int .i64 0, .slice none 0 0, .slice none 0 0, .bool false]).cells (GG - (i + 1))) = R0
      have hR0s : R0.size = GG * 4 := by
        rw [← hR0]; simp [Builtin.zeroCells, Value.cells, hcl, hvl]; omega
      have hR0t : R0.toList.take ((i + 1) * 4) = cs ++ vs := by
        rw [← hR0, Array.toList_append, show ((cs ++ vs).toArray).toList = cs ++ vs from rfl, List.take_append_of_le_length (by rw [List.length_append]; omega), List.take_of_length_le (by rw [List.length_append]; omega)]
      refine ⟨rfl, rfl, rfl, by simp, fun k hk _ => Below.heap_alloc w.drew _ k hk, drLe.succ _, .inr ⟨w.heap.size, GG, R0, rfl, heap_alloc_new w.drew _, hge, hgl, hR0s, ?_, by simp, .inl (Nat.le_refl _)⟩⟩
      rw [hR0t, List.take_of_length_le (by omega), List.drop_of_length_le (by omega), List.append_nil]
end Go.Proofs.Ytekfaocnlejgaaa
set_option linter.unusedSimpArgs false
set_option linter.unusedSectionVars false
set_option linter.unusedVariables false
namespace Go.Proofs.Ytekfaocnlejgaaa
open Go.Proofs.Ytekfaocnlejgaaa.Am Go.Lib
open Go.RowKit (Below)
variable [Inhabited DRT]
variable {G : GInv}
/-! ### slices.Delete and slices.Insert on a row of roads: contracts -/
theorem row_done {c : Ctx} {s : List A} {m : List Blk} {a : Act} {w w' : World} {ids : Ids} (hs : Sim c s m a w ids) (b : Nat) (hb : b < m.length) (v v' : Value) (n k N : Nat) (xs news : List Value) (row : Nat → List A)
    (hv : ∀ k, v.ownBlock = some k → ∃ p, ids[b]? = some (.lv p) ∧ p.blk = k) (ho : AppOut w v 34 4 n k xs news v' w') (hN : n + k = N) (hR : RowsV (imOf c ids w) w N 4 row (xs ++ news)) :
    ∃ q : IdE, (∀ im', Rel (ids.set b q) im' w' (.own b) v') ∧ Sim c (s.map (scr b 4)) ((m.map (scrB b 4)).set b (.row 34 4 N row)) a w' (ids.set b q) := by
  obtain ⟨o1, o2, o3, o4, o5, odr, o6⟩ := ho
  have hbi : b < ids.length := by rw [hs.mlen]; exact hb
  have hbl : ∀ k, k < w.heap.size → (∀ p, ids[b]? = some (.lv p) → ¬ p.has k) → w'.heap[k]? = w.heap[k]? := fun k hk hp => o5 k hk (fun e => by
    obtain ⟨p, h1, h2⟩ := hv k e
    exact hp p h1 (.inl h2.symm))
  rcases o6 with ⟨e1, e2⟩ | ⟨g, cap, cur, rfl, q1, q2, q3, q4, q5, q6, q7⟩
  · refine ⟨.virt, fun im' => ?_, hs.rebind (w' := w') b .virt (.row 34 4 N row) 4 hb o1 o2 o3 o4 hbl (fun _ h => by cases h) (fun p' h => by cases h) (fun _ => by show N = 0; omega) odr⟩
    rw [e1]
    exact .own0 b (by rw [List.getElem?_set_self hbi])
  · rw [hN] at q2 q5 ⊢
    refine ⟨.lv (mkId g cur.size N 4), fun im' => .own b cap (mkId g cur.size N 4) (by rw [List.getElem?_set_self hbi]) ⟨q2, q3⟩ q4.symm, hs.rebind (w' := w') b (.lv (mkId g cur.size N 4)) (.row 34 4 N row) 4 hb o1 o2 o3 o4 hbl (fun _ h => by cases h)
      (fun p' h x' hx => by
        cases h
        have := mkId_has hx
        subst this
        refine ⟨q6, ?_⟩
        rcases q7 with h | h
        · exact .inl h
        · obtain ⟨p, h1, h2⟩ := hv _ h
          exact .inr ⟨p, h1, .inl h2.symm⟩)
      (fun hm => BRel.ofRowsV q1 q4 q2 q5 (rowsV_map hR hm)) odr⟩
def delL (L : List Rd) (i : Nat) : List Rd := L.take i ++ L.drop (i + 1)
def insL (L : List Rd) (i : Nat) (x : Rd) : List Rd := L.take i ++ x :: L.drop i
theorem delL_len {L : List Rd} {i : Nat} (hi : i < L.length) : (delL L i).length = L.length - 1 := by simp [delL]; omega
theorem insL_len {L : List Rd} {i : Nat} (hi : i ≤ L.length) (x : Rd) : (insL L i x).length = L.length + 1 := by simp [insL]; omega
theorem rowCat_lt {n : Nat} {r1 r2 : Nat → List A} {i : Nat} (hi : i < n) : rowCat n r1 r2 i = r1 i := by simp only [rowCat]; rw [show Nat.blt i n = true from Nat.ble_eq_true_of_le hi]
theorem rowCat_ge {n : Nat} {r1 r2 : Nat → List A} {i : Nat} (hi : ¬ i < n) : rowCat n r1 r2 i = r2 (i - n) := by
  simp only [rowCat]
  cases hb : Nat.blt i n
  · rfl
  · exact absurd (Nat.le_of_ble_eq_true hb) hi
theorem rowR_del (L : List Rd) (i : Nat) (hi : i < L.length) (j : Nat) : rowR (delL L i) j = rowCat i (rowR L) (fun k => rowR L (k + (i + 1))) j := by
  by_cases hj : j < i
  · rw [rowCat_lt hj]
    simp only [rowR, delL, List.getD_eq_getElem?_getD]
    rw [List.getElem?_append_left (by simp; omega), List.getElem?_take, if_pos hj]
  · rw [rowCat_ge hj]
    simp only [rowR, delL, List.getD_eq_getElem?_getD]
    rw [List.getElem?_append_right (by simp; omega), List.getElem?_drop, List.length_take, show min i L.length = i by omega, show i + 1 + (j - i) = j - i + (i + 1) by omega]
theorem rowR_ins (L : List Rd) (i : Nat) (x : Rd) (hi : i ≤ L.length) (j : Nat) : rowR (insL L i x) j = rowCat i (rowR L) (rowCat 1 (rowR [x]) (fun k => rowR L (k + i))) j := by
  by_cases hj : j < i
  · rw [rowCat_lt hj]
    simp only [rowR, insL, List.getD_eq_getElem?_getD]
    rw [List.getElem?_append_left (by simp; omega), List.getElem?_take, if_pos hj]
  · rw [rowCat_ge hj]
    simp only [rowR, insL, List.getD_eq_getElem?_getD]
    rw [List.getElem?_append_right (by simp; omega), List.length_take, show min i L.length = i by omega]
    by_cases h0 : j - i < 1
    · rw [rowCat_lt h0, show j - i = 0 by omega]; rfl
    · rw [rowCat_ge h0, show j - i = (j - i - 1) + 1 by omega, List.getElem?_cons_succ, List.getElem?_drop, show j - i - 1 + 1 - 1 = j - i - 1 by omega, show i + (j - i - 1) = j - i - 1 + i by omega]
theorem delete_c (L : List Rd) (i : Nat) (hi : i < L.length) (hL : L.length ≤ 1000000) :
    MCalls Try.prog G 33 [.own 1, .int .i64 i, .int .i64 (i + 1)] [.ghost [.own 1, .junk, .junk, .junk], .row 34 4 L.length (rowR L)] (.own 1)
      [.ghost [.junk, .junk, .junk, .junk], .row 34 4 (delL L i).length (rowR (delL L i))] := by
  refine ⟨⟨_, _, Try.func33, rfl, by kernel_rfl⟩, ?_⟩
  intro im w vs gs ids hG hs
  have hvl : vs.length = 3 := by have := hs.len; simpa using this
  obtain ⟨v0, v1, v2, rfl⟩ : ∃ v0 v1 v2, vs = [v0, v1, v2] := by
    match vs, hvl with
    | [a, b, c], _ => exact ⟨a, b, c, rfl⟩
  have r0 : Rel ids _ w (.own 1) v0 := hs.slots 0 (by simp) (by simp)
  have r1 : Rel ids _ w (.int .i64 i) v1 := hs.slots 1 (by simp) (by simp)
  have r2 : Rel ids _ w (.int .i64 (i + 1)) v2 := hs.slots 2 (by simp) (by simp)
  have hml : ids.length = 2 := by have := hs.mlen; simpa using this
  obtain rfl := r1.int_inv
  obtain rfl := r2.int_inv
  have hB1 := hs.blks 1 (by simp) (by omega)
  simp only [List.getElem_cons_succ, List.getElem_cons_zero] at hB1
  obtain ⟨p, cap, hid, hcap1, hcap2, rfl⟩ : ∃ p cap, ids[1]? = some (.lv p) ∧ (p.n ≤ cap ∧ cap ≤ maxLen) ∧ cap * p.sz = p.k ∧ v0 = .slice (some ⟨p.blk, 0, none⟩) p.n cap := by
    rcases hs.own_at r0 (by simp) with ⟨h1, _⟩ | h
    · rw [List.getElem?_eq_getElem (by omega)] at h1
      rw [Option.some.inj h1] at hB1
      have : L.length = 0 := hB1
      omega
    · exact h
  have hid' : ids[1]'(by omega) = .lv p := by rw [List.getElem?_eq_getElem (by omega)] at hid; exact Option.some.inj hid
  rw [hid'] at hB1
  obtain ⟨cur, e1, e2, g1, g2, g3, hR⟩ := hB1.rowsV
  rw [e1] at hcap2
  have hraw := del_out p.blk L.length cap i hi (by rw [← e2]; exact hcap1.1) hcap1.2 cur w g1 (by rw [g2, hcap2]) hR.2.1
  rw [e2]
  refine Calls_mono (by simpa using hraw) ?_
  rintro e' w' ⟨v', rfl, ho⟩
  have hR1 := (rowsV_takeN hR i (by omega)).cat (rowsV_dropN hR (i + 1) (by omega))
  have hlen := delL_len hi
  rw [show i + (L.length - (i + 1)) = (delL L i).length by omega] at hR1
  obtain ⟨q, h1, hs'⟩ := row_done hs 1 (by simp) (.slice (some ⟨p.blk, 0, none⟩) L.length cap) v' (L.length - 1) 0 (delL L i).length _ _ (rowR (delL L i)) (fun k hk => ⟨p, hid, Option.some.inj hk⟩) ho (by omega) (by
    rw [List.append_nil]
    exact rowsV_congr hR1 fun j _ => rowR_del L i hi j)
  refine ⟨_, _, rfl, ⟨rfl, rfl, ?_, hs'.mlen, hs'.blks, hs'.distinctX, hs'.freshX, hs'.frame, hs'.im0lt, hs'.gho⟩⟩
  intro j h h'
  match j, h with
  | 0, _ => exact h1 _
theorem ins_nil_out (vb vc : Nat) (curv : Array Value) (w : World) (hv : w.heap[vb]? = some (.cells curv 34 (0, 0))) (hvs : 4 ≤ curv.size) (h1v : ∀ v ∈ curv.toList.take 4, oneV v) :
    Calls Try.prog 34 #[.slice none 0 0, .int .i64 0, .slice (some ⟨vb, 0, none⟩) 1 vc] w fun e w' =>
      ∃ v', e = .returned v' ∧ AppOut w (.slice none 0 0) 34 4 0 1 [] (curv.toList.take 4) v' w' := by
  generalize hV : curv.toList.take 4 = vs at *
  have hvl : vs.length = 1 * 4 := by rw [← hV]; simp; omega
  have hvcell : ∀ (j : Nat) (v : Value), vs[j]? = some v → w.cell? ⟨vb, j, none⟩ = some v := by
    intro j v hj
    rw [← hV, List.getElem?_take] at hj
    rw [cell_of_row w vb j curv _ (0, 0) hv]
    split at hj
    · simpa using hj
    · cases hj
  have hge := grownCap_ge w (0 + 1) 0 34
  have hgl := grownCap_le_maxLen w (0 + 1) 0 34 (by unfold maxLen; omega)
  have := ins_end_grow none 0 0 vb 1 vc [] vs w (by omega) (by omega) (by omega) (by omega) (by omega) rfl hvl (fun _ => rfl) (fun a ha j v hj => by cases ha) hvcell h1v
  refine Calls_mono this ?_
  rintro e w' ⟨rfl, rfl⟩
  refine ⟨_, rfl, ?_⟩
  generalize grownCap w (0 + 1) 0 34 = GG at *
  generalize hR0 : (([] ++ vs).toArray ++ Builtin.zeroCells (Value.agg #[.int .i64 0, .slice none 0 0, .slice none 0 0, .bool false]).cells (GG - (0 + 1))) = R0
  have hR0s : R0.size = GG * 4 := by
    rw [← hR0]; simp [Builtin.zeroCells, Value.cells, hvl]; omega
  have hR0t : R0.toList.take ((0 + 1) * 4) = [] ++ vs := by
    rw [← hR0, Array.toList_append, show (([] ++ vs : List Value).toArray).toList = ([] ++ vs : List Value) from rfl, List.take_append_of_le_length (by rw [List.length_append, List.length_nil]; omega), List.take_of_length_le (by rw [List.length_append, List.length_nil]; omega)]
  exact ⟨rfl, rfl, rfl, by simp, fun k hk _ => Below.heap_alloc w.drew _ k hk, drLe.succ _, .inr ⟨w.heap.size, GG, R0, rfl, heap_alloc_new w.drew _, hge, hgl, hR0s, hR0t, by simp, .inl (Nat.le_refl _)⟩⟩
theorem insert_c (L : List Rd) (x : Rd) (i : Nat) (hi : i ≤ L.length) (hL : L.length ≤ 1000000) :
    MCalls Try.prog G 34 [.own 1, .int .i64 i, .own 2] [.ghost [.own 1, .junk, .own 2, .junk, .junk], .row 34 4 L.length (rowR L), .row 34 4 1 (rowR [x])] (.own 1)
      [.ghost [.junk, .junk, .own 2, .junk, .junk], .row 34 4 (insL L i x).length (rowR (insL L i x)), .row 34 4 1 (rowR [x])] := by
  refine ⟨⟨_, _, Try.func34, rfl, by kernel_rfl⟩, ?_⟩
  intro im w vs gs ids hG hs
  have hvl : vs.length = 3 := by have := hs.len; simpa using this
  obtain ⟨v0, v1, v2, rfl⟩ : ∃ v0 v1 v2, vs = [v0, v1, v2] := by
    match vs, hvl with
    | [a, b, c], _ => exact ⟨a, b, c, rfl⟩
  have r0 : Rel ids _ w (.own 1) v0 := hs.slots 0 (by simp) (by simp)
  have r1 : Rel ids _ w (.int .i64 i) v1 := hs.slots 1 (by simp) (by simp)
  have r2 : Rel ids _ w (.own 2) v2 := hs.slots 2 (by simp) (by simp)
  have hml : ids.length = 3 := by have := hs.mlen; simpa using this
  obtain rfl := r1.int_inv
  have hB1 := hs.blks 1 (by simp) (by omega)
  have hB2 := hs.blks 2 (by simp) (by omega)
  simp only [List.getElem_cons_succ, List.getElem_cons_zero] at hB1 hB2
  have hlen := insL_len hi x
  obtain ⟨p2, cap2, hid2, hcap21, hcap22, rfl⟩ : ∃ p cap, ids[2]? = some (.lv p) ∧ (p.n ≤ cap ∧ cap ≤ maxLen) ∧ cap * p.sz = p.k ∧ v2 = .slice (some ⟨p.blk, 0, none⟩) p.n cap := by
    rcases hs.own_at r2 (by simp) with ⟨h1, _⟩ | h
    · rw [List.getElem?_eq_getElem (by omega)] at h1
      rw [Option.some.inj h1] at hB2
      exact absurd (show (1 : Nat) = 0 from hB2) (by omega)
    · exact h
  have hid2' : ids[2]'(by omega) = .lv p2 := by rw [List.getElem?_eq_getElem (by omega)] at hid2; exact Option.some.inj hid2
  rw [hid2'] at hB2
  obtain ⟨cur2, e21, e22, g21, g22, g23, hR2⟩ := hB2.rowsV
  rw [show 1 * 4 = 4 from rfl] at g23 hR2
  rcases hs.own_at r0 (by simp) with ⟨h1, hv0⟩ | ⟨p, cap, hid, hcap1, hcap2, rfl⟩
  · rw [List.getElem?_eq_getElem (by omega)] at h1
    have h1' := Option.some.inj h1
    rw [h1'] at hB1
    have hL0 : L.length = 0 := hB1
    have hi0 : i = 0 := by omega
    subst hi0
    have hLn := List.length_eq_zero_iff.1 hL0
    subst hLn
    subst hv0
    have hraw := ins_nil_out p2.blk cap2 cur2 w g21 (by omega) hR2.2.1
    rw [e22]
    refine Calls_mono (by simpa using hraw) ?_
    rintro e' w' ⟨v', rfl, ho⟩
    obtain ⟨q, h1, hs'⟩ := row_done hs 1 (by simp) (.slice none 0 0) v' 0 1 (insL [] 0 x).length _ _ (rowR (insL [] 0 x)) (fun k hk => by cases hk) ho (by omega) (by
      rw [List.nil_append]
      exact hR2)
    refine ⟨_, _, rfl, ⟨rfl, rfl, ?_, hs'.mlen, hs'.blks, hs'.distinctX, hs'.freshX, hs'.frame, hs'.im0lt, hs'.gho⟩⟩
    intro j h h'
    match j, h with
    | 0, _ => exact h1 _
  · have hid' : ids[1]'(by omega) = .lv p := by rw [List.getElem?_eq_getElem (by omega)] at hid; exact Option.some.inj hid
    rw [hid'] at hB1
    obtain ⟨cur, e1, e2, g1, g2, g3, hR⟩ := hB1.rowsV
    rw [e1] at hcap2
    have hne : p2.blk ≠ p.blk := fun e => by have := hs.distinct 2 1 p2 p hid2 hid e; omega
    have hraw := ins_out p.blk p2.blk L.length cap cap2 i hi (by rw [← e2]; exact hcap1.1) hL hcap1.2 cur cur2 w g1 (by rw [g2, hcap2]) hR.2.1 g21 (by omega) hR2.2.1 hne
    rw [e2, e22]
    refine Calls_mono (by simpa using hraw) ?_
    rintro e' w' ⟨v', rfl, ho⟩
    have hR1 := (rowsV_takeN hR i hi).cat (hR2.cat (rowsV_dropN hR i hi))
    rw [show i + (1 + (L.length - i)) = (insL L i x).length by omega] at hR1
    obtain ⟨q, h1, hs'⟩ := row_done hs 1 (by simp) (.slice (some ⟨p.blk, 0, none⟩) L.length cap) v' L.length 1 (insL L i x).length _ _ (rowR (insL L i x)) (fun k hk => ⟨p, hid, Option.some.inj hk⟩) ho (by omega)
      (rowsV_congr hR1 fun j _ => rowR_ins L i x hi j)
    refine ⟨_, _, rfl, ⟨rfl, rfl, ?_, hs'.mlen, hs'.blks, hs'.distinctX, hs'.freshX, hs'.frame, hs'.im0lt, hs'.gho⟩⟩
    intro j h h'
    match j, h with
    | 0, _ => exact h1 _
end Go.Proofs.Ytekfaocnlejgaaa
set_option linter.unusedSimpArgs false
set_option linter.unusedSectionVars false
set_option linter.unusedVariables false
namespace Go.Proofs.Ytekfaocnlejgaaa
open Go.RowKit Go.Lib Go.Proofs.Ytekfaocnlejgaaa.Am
variable [Inhabited DRT]
variable {G : GInv}
/-! ### slices.Clone -/
set_option maxHeartbeats 4000000 in
set_option maxRecDepth 100000 in
theorem clone_nil (w : World) : Calls Try.prog 23 #[.slice none 0 0] w fun e w' => e = .returned (.slice none 0 0) ∧ w' = w := by
  have mixed := mixed
  have q22 : ∀ (w : World) (a : Option Addr) (n c n' c' : Nat), (binOp .eql 22 (.slice a n c) (.slice none n' c')).run Try.prog w = .ok (.bool a.isNone) w := fun w a n c n' c' => Lib.run_eql_slice_nil w _ _ a n c n' c' Try.underlying22
  go_enter Try.func23, Try.ntmps23
  go_wp2
  go_ret
  exact ⟨rfl, rfl⟩
set_option maxHeartbeats 4000000 in
set_option maxRecDepth 100000 in
theorem clone_raw (ad : Addr) (n c : Nat) (news : List Value) (w : World) (hl : news.length = n * 4) (hn : n ≤ 1000000) (hc : ∀ (j : Nat) u, news[j]? = some u → w.cell? (ad.add j) = some u) (h1 : ∀ u ∈ news, u.oneCell' = true) :
    Calls Try.prog 23 #[.slice (some ad) n c] w fun e w' => ∃ v', e = .returned v' ∧ AppOut (w.alloc (.cells #[] 34)) (.slice (some ⟨w.heap.size, 0, none⟩) 0 0) 34 4 0 n [] news v' w' := by
  have mixed := mixed
  obtain ⟨i0, hi0, hz0, hzs, hzb⟩ := info_parts rdInfo
  have q22 : ∀ (w : World) (a : Option Addr) (n c n' c' : Nat), (binOp .eql 22 (.slice a n c) (.slice none n' c')).run Try.prog w = .ok (.bool a.isNone) w := fun w a n c n' c' => Lib.run_eql_slice_nil w _ _ a n c n' c' Try.underlying22
  obtain ⟨v', w', hrun, ho⟩ := append_out (P := Try.prog) (w := w.alloc (.cells #[] 34)) 22 22 34 i0 _ Try.underlying22 hi0 hz0 (by rw [hzs]; rfl) (.slice (some ⟨w.heap.size, 0, none⟩) 0 0) 0 []
    (.inr ⟨w.heap.size, 0, #[], rfl, heap_alloc_new w _, Nat.le_refl _, by unfold maxLen; omega, by simp, by simp⟩) (.slice (some ad) n c) n news
    (.inr ⟨ad, c, rfl, by rw [hzs]; exact hl, fun j u hj => Lib.cell?_alloc_some _ (hc j u hj)⟩) h1 (by omega) (by rw [hzb]; omega)
  rw [hzs] at ho
  have A : Aside (AppOut (w.alloc (.cells #[] 34)) (.slice (some ⟨w.heap.size, 0, none⟩) 0 0) 34 4 0 n [] news v' w') := ho
  clear ho hc h1 hl
  go_enter Try.func23, Try.ntmps23
  go_wp2_with (at_builtin; refine Lib.wpList_append_run _ rfl _ _ _ _ rfl _ _ rfl rfl _ _ hrun ?_)
  go_ret
  exact ⟨_, rfl, A.out⟩
theorem clone_c (l : List Rd) (hl : l.length ≤ 1000000) : MCalls Try.prog G 23 [rdsA l] [] (.own 0) [.row 34 4 l.length (rowR l)] := by
  refine ⟨⟨_, _, Try.func23, rfl, by kernel_rfl⟩, ?_⟩
  intro im w vs gs ids hG hs
  have hvl : vs.length = 1 := by have := hs.len; simpa using this
  obtain ⟨v0, rfl⟩ : ∃ v0, vs = [v0] := by
    match vs, hvl with
    | [a], _ => exact ⟨a, rfl⟩
  have r0 : Rel ids _ w (rdsA l) v0 := hs.slots 0 (by simp) (by simp)
  have hid : ids = [] := List.length_eq_zero_iff.1 (by have := hs.mlen; simpa using this)
  subst hid
  obtain ⟨news, hR, hv⟩ := vrow_sound hs (esz := 4) (n := l.length) (row := rowR l) rfl r0
  rcases hv with ⟨rfl, hn, _⟩ | ⟨ad, cp, rfl, hc⟩
  · refine Calls_mono (clone_nil w) ?_
    rintro e' w' ⟨rfl, rfl⟩
    have hs' := hs.grow (w' := w') (Bw.refl _ _) [.row 34 4 l.length (rowR l)] [.virt] rfl
      (fun i h1 h2 => by
        obtain rfl : i = 0 := by simp at h1; omega
        exact hn)
      (fun p hp x hx => by simp at hp)
      (fun vs h => by simp at h)
      (fun i j p q x h1 h2 _ _ => by
        have q1 := (List.getElem?_eq_some_iff.1 h1).1
        have q2 := (List.getElem?_eq_some_iff.1 h2).1
        simp at q1 q2; omega)
    refine ⟨_, _, rfl, ⟨rfl, rfl, ?_, hs'.mlen, hs'.blks, hs'.distinctX, hs'.freshX, hs'.frame, hs'.im0lt, hs'.gho⟩⟩
    intro j h h'
    match j, h with
    | 0, _ => exact .own0 0 rfl
  · have hraw := clone_raw ad l.length cp news w hR.1 hl hc hR.2.1
    refine Calls_mono hraw ?_
    rintro e' w' ⟨v', rfl, o1, o2, o3, o4, o5, odr, o6⟩
    have hsz : (w.alloc (.cells #[] 34)).heap.size = w.heap.size + 1 := by simp
    have o4' : w.heap.size + 1 ≤ w'.heap.size := by rw [← hsz]; exact o4
    have hB : Bw w.heap.size w w' := ⟨o1, o2, o3, by omega, fun k hk => (o5 k (by omega) (fun e => by
      have e' : w.heap.size = k := Option.some.inj e
      omega)).trans (Below.heap_alloc w _ k hk), odr⟩
    have hmap : ∀ u v, RelI (imOf ⟨w, im, muOf [], gs⟩ [] w) w u v → RelI (imOf ⟨w, im, muOf [], gs⟩ [] w) w u v := fun _ _ h => h
    rcases o6 with ⟨e1, e2⟩ | ⟨g, cap, cur, rfl, q1, q2, q3, q4, q5, q6, q7⟩
    · have hs' := hs.grow (w' := w') hB [.row 34 4 l.length (rowR l)] [.virt] rfl
        (fun i h1 h2 => by
          obtain rfl : i = 0 := by simp at h1; omega
          show l.length = 0
          omega)
        (fun p hp x hx => by simp at hp)
        (fun vs h => by simp at h)
        (fun i j p q x h1 h2 _ _ => by
          have q1 := (List.getElem?_eq_some_iff.1 h1).1
          have q2 := (List.getElem?_eq_some_iff.1 h2).1
          simp at q1 q2; omega)
      refine ⟨_, _, rfl, ⟨rfl, rfl, ?_, hs'.mlen, hs'.blks, hs'.distinctX, hs'.freshX, hs'.frame, hs'.im0lt, hs'.gho⟩⟩
      intro j h h'
      match j, h with
      | 0, _ => rw [e1]; exact .own0 0 rfl
    · rw [Nat.zero_add] at q2 q5
      rw [Nat.zero_add]
      have hgw : w.heap.size ≤ g := by
        rcases q7 with h | h
        · omega
        · exact Nat.le_of_eq (Option.some.inj h)
      have hs' := hs.grow (w' := w') hB [.row 34 4 l.length (rowR l)] [.lv (mkId g cur.size l.length 4)] rfl
        (fun i h1 h2 => by
          obtain rfl : i = 0 := by simp at h1; omega
          refine BRel.ofRowsV q1 q4 q2 q5 (rowsV_map (w := w) (im := imOf ⟨w, im, muOf [], gs⟩ [] w) (by rw [List.nil_append]; exact hR) fun u v h => ?_)
          refine RelI.mono (fun b hb => ?_) (fun b hb => hB.block b (imOf_lt hs hb)) h
          have hlt := imOf_lt hs hb
          rcases hb with hb | ⟨b1, b2, b3⟩
          · exact .inl hb
          · refine .inr ⟨b1, by omega, fun p hp hx => ?_⟩
            have hp : IdE.lv p = .lv (mkId g cur.size l.length 4) := by simpa using hp
            cases hp
            have := mkId_has hx
            omega)
        (fun p hp x hx => by
          have hp := List.mem_singleton.1 hp
          cases hp
          have := mkId_has hx
          subst this
          exact ⟨hgw, q6⟩)
        (fun vs h => by simp at h)
        (fun i j p q x h1 h2 _ _ => by
          have q1 := (List.getElem?_eq_some_iff.1 h1).1
          have q2 := (List.getElem?_eq_some_iff.1 h2).1
          simp at q1 q2; omega)
      refine ⟨_, _, rfl, ⟨rfl, rfl, ?_, hs'.mlen, hs'.blks, hs'.distinctX, hs'.freshX, hs'.frame, hs'.im0lt, hs'.gho⟩⟩
      intro j h h'
      match j, h with
      | 0, _ => exact .own 0 cap (mkId g cur.size l.length 4) rfl ⟨q2, q3⟩ q4.symm
end Go.Proofs.Ytekfaocnlejgaaa

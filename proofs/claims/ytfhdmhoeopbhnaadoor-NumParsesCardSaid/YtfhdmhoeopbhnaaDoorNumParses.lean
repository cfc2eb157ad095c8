/-
  PROVED: for every string, two bounds and byte the law NumParses returns true, and the arguments read as they did. Conditions: those of the given card alone (the listed tables start as the program's text lays them).
-/
import Derived.Test.YtfhdmhoeopbhnaaDoorNum3
set_option linter.unusedSimpArgs false
namespace Go.Proofs.YtfhdmhoeopbhnaaDoor
open Go.ChangeShapes Go.WideShapes Go.ChangeAt Go.RowKit
open Go.Proofs.YtfhdmhoeopbhnaaDoor.Am
theorem u3 : Tryd.prog.underlying 3 = some (.int .i64) := by kernel_rfl
theorem o_int : Opens Tryd.prog 3 (fun n : Int => [.int .i64 n]) (fun n => -9223372036854775808 ≤ n ∧ n ≤ 9223372036854775807) := opens_i64 u3
theorem o_str : Opens Tryd.prog 9 (fun s : List UInt8 => [.str s]) (fun s => s.length ≤ maxLen) := opens_string (by kernel_rfl)
theorem o_byte : Opens Tryd.prog 5 (fun n : Int => [.int .u8 n]) (fun n => 0 ≤ n ∧ n ≤ 255) := opens_int (k := .u8) (by kernel_rfl)
theorem o_two : Opens Tryd.prog 41 (fun x : Int × Int => [.int .i64 x.1, .int .i64 x.2]) (fun _ => True) :=
  (opens_array (n := 2) (e := 3) (L := [(3, 0, 1), (3, 1, 1)]) (by kernel_rfl) (by kernel_rfl) (by kernel_rfl) (opensF_cons o_int (opensF_cons o_int opensF_nil))).to (fun x => (x.1, x.2.1)) (fun _ => rfl) (fun _ _ => trivial)
def laidP : List (String × DataW Unit) := [("math/bits.deBruijn32tab", Rows.laid_math_bits_deBruijn32tab), ("math/bits.deBruijn64tab", Rows.laid_math_bits_deBruijn64tab), ("internal/strconv.uint64pow10", Rows.laid_internal_strconv_uint64pow10), ("unicode/utf8.acceptRanges", Rows.laid_unicode_utf8_acceptRanges), ("unicode/utf8.first", Rows.laid_unicode_utf8_first)]
theorem tab_of_laid {W : World} (h : laidMetH Tryd.prog laidP W) : Lib.TabIs Tryd.prog W "internal/strconv.uint64pow10" .u64 Lib.pow10Tab := by
  rw [MakeChecks.laidMetH_plain _ _ _ (by kernel_rfl)] at h
  obtain ⟨ps, ⟨g0, t0, cs0, f0, p0, q0, hg0, ht0, hv0, hd0, ⟨g1, t1, cs1, f1, p1, q1, hg1, ht1, hv1, hd1, ⟨g2, t2, cs2, f2, p2, q2, hg2, ht2, hv2, hd2, _, _⟩, _⟩, _⟩, _, _⟩ := h
  obtain rfl := Option.some.inj (gPow.symm.trans hg2)
  obtain rfl := Option.some.inj (tPow.symm.trans ht2)
  have hd : DataW.trod _ Tryd.prog W _ _ _ f2 86 cs2.toList = some (Lib.tabData .u64 Lib.pow10Tab, p2) := hd2
  have := Lib.cells_of_tab Tryd.underlying86 Tryd.underlying75 (by kernel_rfl) (by kernel_rfl) hd
  unfold Lib.TabIs
  rw [hv2, ← this]
theorem args3 {im : Nat → Prop} {W : World} {x0 x1 x2 : A} {v0 v1 v2 : Value} (h0 : RelI im W x0 v0) (h1 : RelI im W x1 v1) (h2 : RelI im W x2 v2) :
    ∀ j (_ : j < [x0, x1, x2].length) (_ : j < [v0, v1, v2].length), RelI im W [x0, x1, x2][j] [v0, v1, v2][j] := by
  intro j h _
  match j with
  | 0 => exact h0
  | 1 => exact h1
  | 2 => exact h2
  | j + 3 => exact absurd h (by simp)
set_option maxRecDepth 100000 in
theorem numParses_lifted (os : Os) (started : os.Started) (H : Type) (enc : TypeId × Value → H) :
    ReturnsInHanded {} Tryd.checked os 7 .any (fun w args => (Rows.numParsesSpec.pre enc Tryd.prog Tryd.f7 Rows.numParsesRow.domain false w args ∧ laidMetH Tryd.prog laidP w) ∧ sizedMet enc Tryd.prog Tryd.f7 (OpenSpec.ofChange Rows.numParsesSpec) false w args)
      (Rows.numParsesSpec.post enc Tryd.prog Tryd.f7 false true false false) := by
  refine handed_shaped (C := Tryd.checked) (X := fun w _ => laidMetH Tryd.prog laidP w) (fun _ _ _ hh h => h.of_heap hh) Tryd.own started (by kernel_rfl) Tryd.func7
    (ChangeSpec.witness_shaped (enc := enc) (C := Tryd.checked) (os := os) (X := fun w _ => laidMetH Tryd.prog laidP w) false (World.laidAll Tryd.prog os laidP) #[.string ⟨#[]⟩, .agg #[.int .i64 0, .int .i64 0], .int .u8 0] 8 (World.laidAll_os _ _ _)
      (World.shaped_of_ZipB (by kernel_rfl) (by kernel_rfl)) (by kernel_rfl) (by kernel_rfl) (by kernel_rfl)
      (by rw [MakeChecks.laidMetH_plain _ _ _ (by kernel_rfl)]; exact laidMet_laidAll _ (by kernel_rfl) (by kernel_rfl))) ?_
  intro W base args ds gs before hsh hval0 hW hL
  have hval : ∀ (j : Nat) t v, Tryd.f7.params[j]? = some t → args[j]? = some v → Value.okWide Tryd.prog W .any base t v := hval0
  have hW' := hW
  obtain ⟨p, q, hA0, hV, rfl, hfz, hnd⟩ := hW
  have hA : DataW.TrodAll enc Tryd.prog W 0 (fun _ => true) true Tryd.f7.params.toList args.toList ds p := hA0
  rw [Tryd.params7] at hA hval
  obtain ⟨v0, v1, v2, d0, d1, d2, p0, p1, p2, rfl, rfl, rfl, h0, h1, h2⟩ := trodAll_three hA
  obtain ⟨rfl, rfl⟩ := trodVars_none hV
  have hlt : ∀ x ∈ p0 ++ p1 ++ p2, x.block < W.heap.size := fun x hx => hW'.lt x (by simpa using hx)
  obtain ⟨s, ok0, r0⟩ := o_str.cell (im := fun b => b < W.heap.size) h0 (okWide_cell (hval 0 9 v0 rfl rfl) (by kernel_rfl)) (fun x hx => hlt x (by simp [hx]))
  obtain ⟨⟨lo, hi⟩, _, r1⟩ := o_two.agg (im := fun b => b < W.heap.size) h1 (okWide_agg (hval 1 41 v1 rfl rfl) (by kernel_rfl)) (fun x hx => hlt x (by simp [hx]))
  obtain ⟨v, ⟨k0, k1⟩, r2⟩ := o_byte.cell (im := fun b => b < W.heap.size) h2 (okWide_cell (hval 2 5 v2 rfl rfl) (by kernel_rfl)) (fun x hx => hlt x (by simp [hx]))
  refine Calls_mono (calls_true (G := gTab) (law7_c gTab_tab gTab_max s lo hi v k0 k1) (W := W) (vs := [v0, v1, v2]) (im := fun b => b < W.heap.size) (fun _ h => h) ⟨max_of_shape hsh, tab_of_laid hL⟩ rfl (args3 r0 r1 r2)) ?_
  rintro e W' ⟨rfl, hb⟩
  exact ⟨_, rfl, post_true Tryd.laidOut rfl (by kernel_rfl) Tryd.underlying4 (by kernel_rfl) rfl hW' hb⟩
theorem numParses_holds : Rows.NumParsesSaid :=
  OpenClaim.holds_of_wide 7 Tryd.f7 rfl rfl rfl rfl rfl rfl rfl ⟨rfl, rfl, rfl, rfl, rfl⟩ rfl rfl rfl rfl rfl (by kernel_rfl) Tryd.func7 (by kernel_rfl)
    (of_decide_eq_true (by kernel_rfl)) (by unfold Func.isWrapper; first | (rw [if_pos (by decide +kernel)]; kernel_rfl) | (rw [if_neg (by decide +kernel)]; exact ⟨rfl, rfl⟩))
    (fun os started H enc _ => numParses_lifted os started H enc)
theorem numParses_card : Rows.NumParsesCardSaid :=
  Claim7.holds_tied_plain_at .later [] [.data, .data, .data, .data, .pinned] true (true, "e37c6fbb22f199631ffa560b15c08b2954996369a0c45475ee89135e2928b9be") false
    numParses_holds (fun _ h => by cases h) (by kernel_rfl) (fun _ h => by cases h) numParses_row_tie rfl ⟨rfl, rfl⟩ (by kernel_rfl) rfl
    (fun f fn hf hfn => by
      obtain rfl : f = 7 := Option.some.inj ((show Tryd.prog.funcNamed "snicket/snicketlaw01.NumParses" = some 7 by kernel_rfl).symm.trans hf) |>.symm
      obtain rfl : fn = Tryd.f7 := (Option.some.inj (Tryd.func7.symm.trans hfn)).symm
      exact ⟨by kernel_rfl, fun j t ht => by
        rw [Tryd.params7] at ht
        have hm : t ∈ [9, 41, 5] := by simpa using Array.mem_of_getElem? ht
        have hall : ([9, 41, 5].all fun u => !Tryd.prog.wantsStandIn u) = true := by kernel_rfl
        exact (show Tryd.prog.wantsStandIn t = false by simpa using List.all_eq_true.1 hall t hm)⟩)
    (by kernel_rfl)
#print axioms numParses_card
end Go.Proofs.YtfhdmhoeopbhnaaDoor

/-
  PROVED: for any text the law VerbParses returns true, and the argument reads as it did. Conditions: those of the given card (its listed tables read as the program's text lays them).
-/
import Derived.Test.YtagokdeflnkplaaDoorNum3
import Derived.Test.YtagokdeflnkplaaDoorVerb6
set_option linter.unusedSimpArgs false
namespace Go.Proofs.YtagokdeflnkplaaDoor
open Go.ChangeShapes Go.WideShapes Go.ChangeAt Go.RowKit
open Go.Proofs.YtagokdeflnkplaaDoor.Am
theorem o_str : Opens Tryd.prog 9 (fun s : List UInt8 => [.str s]) (fun s => s.length ≤ maxLen) := opens_string (by kernel_rfl)
def laid_verbParses : List (String × DataW Unit) := [("math/bits.deBruijn32tab", Rows.laid_math_bits_deBruijn32tab), ("math/bits.deBruijn64tab", Rows.laid_math_bits_deBruijn64tab), ("internal/strconv.uint64pow10", Rows.laid_internal_strconv_uint64pow10), ("unicode/utf8.acceptRanges", Rows.laid_unicode_utf8_acceptRanges), ("unicode/utf8.first", Rows.laid_unicode_utf8_first)]
theorem tab_of_laid_verbParses {W : World} (h : laidMetH Tryd.prog laid_verbParses W) : Lib.TabIs Tryd.prog W "internal/strconv.uint64pow10" .u64 Lib.pow10Tab := by
  rw [MakeChecks.laidMetH_plain _ _ _ (by kernel_rfl)] at h
  obtain ⟨ps, ⟨_, _, _, _, _, _, _, _, _, _, ⟨_, _, _, _, _, _, _, _, _, _, ⟨g, t, cs, f, p, q, hg, ht, hv, hd, _, _⟩, _⟩, _⟩, _⟩ := h
  exact tab_of_datum hg ht hv hd
theorem args_verbParses {im : Nat → Prop} {W : World} {x0 : A} {v0 : Value} (h0 : RelI im W x0 v0) :
    ∀ j (_ : j < [x0].length) (_ : j < [v0].length), RelI im W [x0][j] [v0][j] := by
  intro j h _
  match j with
  | 0 => exact h0
  | j + 1 => exact absurd h (by simp)
set_option maxRecDepth 100000 in
theorem verbParses_lifted (os : Os) (started : os.Started) (H : Type) (enc : TypeId × Value → H) :
    ReturnsInHanded {} Tryd.checked os 8 .any (fun w args => (Rows.verbParsesSpec.pre enc Tryd.prog Tryd.f8 Rows.verbParsesRow.domain false w args ∧ laidMetH Tryd.prog laid_verbParses w) ∧ sizedMet enc Tryd.prog Tryd.f8 (OpenSpec.ofChange Rows.verbParsesSpec) false w args)
      (Rows.verbParsesSpec.post enc Tryd.prog Tryd.f8 false true false false) := by
  refine handed_shaped (C := Tryd.checked) (X := fun w _ => laidMetH Tryd.prog laid_verbParses w) (fun _ _ _ hh h => h.of_heap hh) Tryd.own started (by kernel_rfl) Tryd.func8
    (ChangeSpec.witness_shaped (enc := enc) (C := Tryd.checked) (os := os) (X := fun w _ => laidMetH Tryd.prog laid_verbParses w) false (World.laidAll Tryd.prog os laid_verbParses) #[.string ⟨#[]⟩] 8 (World.laidAll_os _ _ _)
      (World.shaped_of_ZipB (by kernel_rfl) (by kernel_rfl)) (by kernel_rfl) (by kernel_rfl) (by kernel_rfl)
      (by rw [MakeChecks.laidMetH_plain _ _ _ (by kernel_rfl)]; exact laidMet_laidAll _ (by kernel_rfl) (by kernel_rfl))) ?_
  intro W base args ds gs before hsh hval0 hW hL
  have hval : ∀ (j : Nat) t v, Tryd.f8.params[j]? = some t → args[j]? = some v → Value.okWide Tryd.prog W .any base t v := hval0
  have hW' := hW
  obtain ⟨p, q, hA0, hV, rfl, hfz, hnd⟩ := hW
  have hA : DataW.TrodAll enc Tryd.prog W 0 (fun _ => true) true Tryd.f8.params.toList args.toList ds p := hA0
  rw [Tryd.params8] at hA hval
  obtain ⟨v0, d0, rfl, rfl, h0⟩ := trodAll_one hA
  obtain ⟨rfl, rfl⟩ := trodVars_none hV
  have hlt : ∀ x ∈ p, x.block < W.heap.size := fun x hx => hW'.lt x (by simpa using hx)
  obtain ⟨s, ok0, r0⟩ := o_str.cell (im := fun b => b < W.heap.size) h0 (okWide_cell (hval 0 9 v0 rfl rfl) (by kernel_rfl)) (fun x hx => hlt x (by simp [hx]))
  refine Calls_mono (calls_true (G := gTab) (vlawP_c gTab_tab gTab_max s) (W := W) (vs := [v0]) (im := fun b => b < W.heap.size) (fun _ h => h) (⟨max_of_shape hsh, tab_of_laid_verbParses hL⟩) rfl (args_verbParses r0)) ?_
  rintro e W' ⟨rfl, hb⟩
  exact ⟨_, rfl, post_true Tryd.laidOut rfl (by kernel_rfl) Tryd.underlying4 (by kernel_rfl) rfl hW' hb⟩
theorem verbParses_holds : Rows.VerbParsesSaid :=
  OpenClaim.holds_of_wide 8 Tryd.f8 rfl rfl rfl rfl rfl rfl rfl ⟨rfl, rfl, rfl, rfl, rfl⟩ rfl rfl rfl rfl rfl (by kernel_rfl) Tryd.func8 (by kernel_rfl)
    (of_decide_eq_true (by kernel_rfl)) (by unfold Func.isWrapper; first | (rw [if_pos (by decide +kernel)]; kernel_rfl) | (rw [if_neg (by decide +kernel)]; exact ⟨rfl, rfl⟩))
    (fun os started H enc _ => verbParses_lifted os started H enc)
theorem verbParses_card : Rows.VerbParsesCardSaid :=
  Claim7.holds_tied_plain_at .later [] [.data, .data, .data, .data, .pinned] true (true, "016c63635be118af40c04eb5cad4572d5391b4a5bba001a3b7061f67a5d3a197") false
    verbParses_holds (fun _ h => by cases h) (by kernel_rfl) (fun _ h => by cases h) verbParses_row_tie rfl ⟨rfl, rfl⟩ (by kernel_rfl) rfl
    (fun f fn hf hfn => by
      obtain rfl : f = 8 := Option.some.inj ((show Tryd.prog.funcNamed "snicket/snicketlaw37.VerbParses" = some 8 by kernel_rfl).symm.trans hf) |>.symm
      obtain rfl : fn = Tryd.f8 := (Option.some.inj (Tryd.func8.symm.trans hfn)).symm
      exact ⟨by kernel_rfl, fun j t ht => by
        rw [Tryd.params8] at ht
        have hm : t ∈ [9] := by simpa using Array.mem_of_getElem? ht
        have hall : ([9].all fun u => !Tryd.prog.wantsStandIn u) = true := by kernel_rfl
        exact (show Tryd.prog.wantsStandIn t = false by simpa using List.all_eq_true.1 hall t hm)⟩)
    (by kernel_rfl)
#print axioms verbParses_card
end Go.Proofs.YtagokdeflnkplaaDoor

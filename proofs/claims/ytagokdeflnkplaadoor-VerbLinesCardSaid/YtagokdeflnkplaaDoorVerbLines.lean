/-
  PROVED: for any two commands the law VerbLines returns true, and the arguments read as they did. Conditions: those of the given card (its listed tables read as the program's text lays them).
-/
import Derived.Test.YtagokdeflnkplaaDoorNum3
import Derived.Test.YtagokdeflnkplaaDoorVerb6
set_option linter.unusedSimpArgs false
namespace Go.Proofs.YtagokdeflnkplaaDoor
open Go.ChangeShapes Go.WideShapes Go.ChangeAt Go.RowKit
open Go.Proofs.YtagokdeflnkplaaDoor.Am
theorem u3 : Tryd.prog.underlying 3 = some (.int .i64) := by kernel_rfl
theorem o_int : Opens Tryd.prog 3 (fun n : Int => [.int .i64 n]) (fun n => -9223372036854775808 ≤ n ∧ n ≤ 9223372036854775807) := opens_i64 u3
theorem o_bool : Opens Tryd.prog 4 (fun b : Bool => [.sb b]) (fun _ => True) := opens_bool (by kernel_rfl)
theorem o_ints : Opens Tryd.prog 24 (fun l : List Int => [intsA l]) (fun _ => True) := (opens_slice (e := 3) (sz := 1) (by kernel_rfl) o_int (by kernel_rfl) (by omega)).to id (fun _ => rfl) (fun _ _ => trivial)
theorem o_pr : Opens Tryd.prog 54 (fun p : Pr => [.int .i64 p.1, .int .i64 p.2]) (fun _ => True) :=
  (opens_struct (t := 54) (L := [(3, 0, 1), (3, 1, 1)]) (by kernel_rfl) (by kernel_rfl) (opensF_cons o_int (opensF_cons o_int opensF_nil))).to
    (fun x => ((x.1, x.2.1) : Pr)) (fun _ => rfl) (fun _ _ => trivial)
theorem o_prs : Opens Tryd.prog 48 (fun l : List Pr => [runsA l]) (fun _ => True) := (opens_slice (e := 54) (sz := 2) (by kernel_rfl) o_pr (by kernel_rfl) (by omega)).to id (fun _ => rfl) (fun _ _ => trivial)
theorem o_road : Opens Tryd.prog 50 (fun x : Int × List Pr × List Int × Bool => [.int .i64 x.1, runsA x.2.1, intsA x.2.2.1, .sb x.2.2.2]) (fun _ => True) :=
  (opens_struct (t := 50) (L := [(3, 0, 1), (48, 1, 1), (24, 2, 1), (4, 3, 1)]) (by kernel_rfl) (by kernel_rfl) (opensF_cons o_int (opensF_cons o_prs (opensF_cons o_ints (opensF_cons o_bool opensF_nil))))).to
    (fun x => (x.1, x.2.1, x.2.2.1, x.2.2.2.1)) (fun _ => rfl) (fun _ _ => trivial)
theorem o_ban : Opens Tryd.prog 52 (fun x : Int × Int × Bool => [.int .i64 x.1, .int .i64 x.2.1, .sb x.2.2]) (fun _ => True) :=
  (opens_struct (t := 52) (L := [(3, 0, 1), (3, 1, 1), (4, 2, 1)]) (by kernel_rfl) (by kernel_rfl) (opensF_cons o_int (opensF_cons o_int (opensF_cons o_bool opensF_nil)))).to
    (fun x => (x.1, x.2.1, x.2.2.1)) (fun _ => rfl) (fun _ _ => trivial)
theorem o_cmd : Opens Tryd.prog 56 (fun c : Cm => cmA c) (fun _ => True) :=
  (opens_struct (t := 56) (L := [(3, 0, 1), (50, 1, 4), (3, 5, 1), (52, 6, 3), (54, 9, 2), (54, 11, 2)]) (by kernel_rfl) (by kernel_rfl) (opensF_cons o_int (opensF_cons o_road (opensF_cons o_int (opensF_cons o_ban (opensF_cons o_pr (opensF_cons o_pr opensF_nil))))))).to
    (fun x => (⟨x.1, x.2.1.1, x.2.1.2.1, x.2.1.2.2.1, x.2.1.2.2.2, x.2.2.1, x.2.2.2.1.1, x.2.2.2.1.2.1, x.2.2.2.1.2.2, x.2.2.2.2.1, x.2.2.2.2.2.1⟩ : Cm)) (fun _ => rfl) (fun _ _ => trivial)
def laid_verbLines : List (String × DataW Unit) := [("math/bits.deBruijn32tab", Rows.laid_math_bits_deBruijn32tab), ("math/bits.deBruijn64tab", Rows.laid_math_bits_deBruijn64tab), ("internal/strconv.uint64pow10", Rows.laid_internal_strconv_uint64pow10), ("unicode/utf8.acceptRanges", Rows.laid_unicode_utf8_acceptRanges), ("unicode/utf8.first", Rows.laid_unicode_utf8_first)]
theorem tab_of_laid_verbLines {W : World} (h : laidMetH Tryd.prog laid_verbLines W) : Lib.TabIs Tryd.prog W "internal/strconv.uint64pow10" .u64 Lib.pow10Tab := by
  rw [MakeChecks.laidMetH_plain _ _ _ (by kernel_rfl)] at h
  obtain ⟨ps, ⟨_, _, _, _, _, _, _, _, _, _, ⟨_, _, _, _, _, _, _, _, _, _, ⟨g, t, cs, f, p, q, hg, ht, hv, hd, _, _⟩, _⟩, _⟩, _⟩ := h
  exact tab_of_datum hg ht hv hd
theorem args_verbLines {im : Nat → Prop} {W : World} {x0 x1 : A} {v0 v1 : Value} (h0 : RelI im W x0 v0) (h1 : RelI im W x1 v1) :
    ∀ j (_ : j < [x0, x1].length) (_ : j < [v0, v1].length), RelI im W [x0, x1][j] [v0, v1][j] := by
  intro j h _
  match j with
  | 0 => exact h0
  | 1 => exact h1
  | j + 2 => exact absurd h (by simp)
set_option maxRecDepth 100000 in
theorem verbLines_lifted (os : Os) (started : os.Started) (H : Type) (enc : TypeId × Value → H) :
    ReturnsInHanded {} Tryd.checked os 9 .any (fun w args => (Rows.verbLinesSpec.pre enc Tryd.prog Tryd.f9 Rows.verbLinesRow.domain false w args ∧ laidMetH Tryd.prog laid_verbLines w) ∧ sizedMet enc Tryd.prog Tryd.f9 (OpenSpec.ofChange Rows.verbLinesSpec) false w args)
      (Rows.verbLinesSpec.post enc Tryd.prog Tryd.f9 false true false false) := by
  refine handed_shaped (C := Tryd.checked) (X := fun w _ => laidMetH Tryd.prog laid_verbLines w) (fun _ _ _ hh h => h.of_heap hh) Tryd.own started (by kernel_rfl) Tryd.func9
    (ChangeSpec.witness_shaped (enc := enc) (C := Tryd.checked) (os := os) (X := fun w _ => laidMetH Tryd.prog laid_verbLines w) false (World.laidAll Tryd.prog os laid_verbLines) #[.agg #[.int .i64 0, .int .i64 0, .slice none 0 0, .slice none 0 0, .bool false, .int .i64 0, .int .i64 0, .int .i64 0, .bool false, .int .i64 0, .int .i64 0, .int .i64 0, .int .i64 0], .agg #[.int .i64 0, .int .i64 0, .slice none 0 0, .slice none 0 0, .bool false, .int .i64 0, .int .i64 0, .int .i64 0, .bool false, .int .i64 0, .int .i64 0, .int .i64 0, .int .i64 0]] 8 (World.laidAll_os _ _ _)
      (World.shaped_of_ZipB (by kernel_rfl) (by kernel_rfl)) (by kernel_rfl) (by kernel_rfl) (by kernel_rfl)
      (by rw [MakeChecks.laidMetH_plain _ _ _ (by kernel_rfl)]; exact laidMet_laidAll _ (by kernel_rfl) (by kernel_rfl))) ?_
  intro W base args ds gs before hsh hval0 hW hL
  have hval : ∀ (j : Nat) t v, Tryd.f9.params[j]? = some t → args[j]? = some v → Value.okWide Tryd.prog W .any base t v := hval0
  have hW' := hW
  obtain ⟨p, q, hA0, hV, rfl, hfz, hnd⟩ := hW
  have hA : DataW.TrodAll enc Tryd.prog W 0 (fun _ => true) true Tryd.f9.params.toList args.toList ds p := hA0
  rw [Tryd.params9] at hA hval
  obtain ⟨v0, v1, d0, d1, p0, p1, rfl, rfl, rfl, h0, h1⟩ := trodAll_two hA
  obtain ⟨rfl, rfl⟩ := trodVars_none hV
  have hlt : ∀ x ∈ p0 ++ p1, x.block < W.heap.size := fun x hx => hW'.lt x (by simpa using hx)
  obtain ⟨c, ok0, r0⟩ := o_cmd.agg (im := fun b => b < W.heap.size) h0 (okWide_agg (hval 0 56 v0 rfl rfl) (by kernel_rfl)) (fun x hx => hlt x (by simp [hx]))
  obtain ⟨d, ok1, r1⟩ := o_cmd.agg (im := fun b => b < W.heap.size) h1 (okWide_agg (hval 1 56 v1 rfl rfl) (by kernel_rfl)) (fun x hx => hlt x (by simp [hx]))
  refine Calls_mono (calls_true (G := gTab) (vlawL_c gTab_tab gTab_max c d) (W := W) (vs := [v0, v1]) (im := fun b => b < W.heap.size) (fun _ h => h) (⟨max_of_shape hsh, tab_of_laid_verbLines hL⟩) rfl (args_verbLines r0 r1)) ?_
  rintro e W' ⟨rfl, hb⟩
  exact ⟨_, rfl, post_true Tryd.laidOut rfl (by kernel_rfl) Tryd.underlying4 (by kernel_rfl) rfl hW' hb⟩
theorem verbLines_holds : Rows.VerbLinesSaid :=
  OpenClaim.holds_of_wide 9 Tryd.f9 rfl rfl rfl rfl rfl rfl rfl ⟨rfl, rfl, rfl, rfl, rfl⟩ rfl rfl rfl rfl rfl (by kernel_rfl) Tryd.func9 (by kernel_rfl)
    (of_decide_eq_true (by kernel_rfl)) (by unfold Func.isWrapper; first | (rw [if_pos (by decide +kernel)]; kernel_rfl) | (rw [if_neg (by decide +kernel)]; exact ⟨rfl, rfl⟩))
    (fun os started H enc _ => verbLines_lifted os started H enc)
theorem verbLines_card : Rows.VerbLinesCardSaid :=
  Claim7.holds_tied_plain_at .later [] [.data, .data, .data, .data, .pinned] true (true, "016c63635be118af40c04eb5cad4572d5391b4a5bba001a3b7061f67a5d3a197") false
    verbLines_holds (fun _ h => by cases h) (by kernel_rfl) (fun _ h => by cases h) verbLines_row_tie rfl ⟨rfl, rfl⟩ (by kernel_rfl) rfl
    (fun f fn hf hfn => by
      obtain rfl : f = 9 := Option.some.inj ((show Tryd.prog.funcNamed "snicket/snicketlaw37.VerbLines" = some 9 by kernel_rfl).symm.trans hf) |>.symm
      obtain rfl : fn = Tryd.f9 := (Option.some.inj (Tryd.func9.symm.trans hfn)).symm
      exact ⟨by kernel_rfl, fun j t ht => by
        rw [Tryd.params9] at ht
        have hm : t ∈ [56, 56] := by simpa using Array.mem_of_getElem? ht
        have hall : ([56, 56].all fun u => !Tryd.prog.wantsStandIn u) = true := by kernel_rfl
        exact (show Tryd.prog.wantsStandIn t = false by simpa using List.all_eq_true.1 hall t hm)⟩)
    (by kernel_rfl)
#print axioms verbLines_card
end Go.Proofs.YtagokdeflnkplaaDoor

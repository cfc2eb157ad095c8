/-
  PROVED: for every slice of strings and every string the law TokenJoins returns true, and the arguments read as they did. Conditions: those of the given card alone (the listed tables start as the program's text lays them; no argument is larger than memory).
-/
import Derived.Test.YtfhdmhoeopbhnaaDoorTok4
set_option linter.unusedSimpArgs false
namespace Go.Proofs.YtfhdmhoeopbhnaaDoor
open Go.ChangeShapes Go.WideShapes Go.ChangeAt Go.RowKit
open Go.Proofs.YtfhdmhoeopbhnaaDoor.Am
theorem o_str : Opens Tryd.prog 9 (fun s : List UInt8 => [.str s]) (fun s => s.length ≤ maxLen) := opens_string (by kernel_rfl)
def laid_tokenJoins : List (String × DataW Unit) := [("unicode/utf8.acceptRanges", Rows.laid_unicode_utf8_acceptRanges), ("unicode/utf8.first", Rows.laid_unicode_utf8_first)]
theorem args_tokenJoins {im : Nat → Prop} {W : World} {x0 x1 : A} {v0 v1 : Value} (h0 : RelI im W x0 v0) (h1 : RelI im W x1 v1) :
    ∀ j (_ : j < [x0, x1].length) (_ : j < [v0, v1].length), RelI im W [x0, x1][j] [v0, v1][j] := by
  intro j h _
  match j with
  | 0 => exact h0
  | 1 => exact h1
  | j + 2 => exact absurd h (by simp)
set_option maxRecDepth 100000 in
theorem tokenJoins_lifted (os : Os) (started : os.Started) (H : Type) (enc : TypeId × Value → H) :
    ReturnsInHanded {} Tryd.checked os 6 .any (fun w args => (Rows.tokenJoinsSpec.pre enc Tryd.prog Tryd.f6 Rows.tokenJoinsRow.domain false w args ∧ laidMetH Tryd.prog laid_tokenJoins w) ∧ sizedMet enc Tryd.prog Tryd.f6 (OpenSpec.ofChange Rows.tokenJoinsSpec) false w args)
      (Rows.tokenJoinsSpec.post enc Tryd.prog Tryd.f6 false true false false) := by
  refine handed_weighed (C := Tryd.checked) (X := fun w _ => laidMetH Tryd.prog laid_tokenJoins w) (fun _ _ _ hh h => h.of_heap hh) Tryd.own started (by kernel_rfl) Tryd.func6
    (ChangeSpec.witness_shaped (enc := enc) (C := Tryd.checked) (os := os) (X := fun w _ => laidMetH Tryd.prog laid_tokenJoins w) false (World.laidAll Tryd.prog os laid_tokenJoins) #[.slice none 0 0, .string ⟨#[]⟩] 8 (World.laidAll_os _ _ _)
      (World.shaped_of_ZipB (by kernel_rfl) (by kernel_rfl)) (by kernel_rfl) (by kernel_rfl) (by kernel_rfl)
      (by rw [MakeChecks.laidMetH_plain _ _ _ (by kernel_rfl)]; exact laidMet_laidAll _ (by kernel_rfl) (by kernel_rfl))) ?_
  intro W base args ds gs before hsh hval0 hW hz hL
  have hval : ∀ (j : Nat) t v, Tryd.f6.params[j]? = some t → args[j]? = some v → Value.okWide Tryd.prog W .any base t v := hval0
  have hW' := hW
  obtain ⟨p, q, hA0, hV, rfl, hfz, hnd⟩ := hW
  have hA : DataW.TrodAll enc Tryd.prog W 0 (fun _ => true) true Tryd.f6.params.toList args.toList ds p := hA0
  rw [Tryd.params6] at hA hval hz
  obtain ⟨v0, v1, d0, d1, p0, p1, rfl, rfl, rfl, h0, h1⟩ := trodAll_two hA
  obtain ⟨rfl, rfl⟩ := trodVars_none hV
  have hw : (DataW.weightsEach Tryd.prog [30, 9] [d0, d1]).all (· ≤ reachBytes) = true := hz
  have hlt : ∀ x ∈ p0 ++ p1, x.block < W.heap.size := fun x hx => hW'.lt x (by simpa using hx)
  obtain ⟨l, ok0, r0⟩ := strs_light (im := fun b => b < W.heap.size) (e := 9) (by kernel_rfl) (by kernel_rfl) (by kernel_rfl) h0 (okWide_cell (hval 0 30 v0 rfl rfl) (by kernel_rfl)) (fun x hx => hlt x (by simp [hx])) (light_cons.1 hw).1
  obtain ⟨s, ok1, r1⟩ := o_str.cell (im := fun b => b < W.heap.size) h1 (okWide_cell (hval 1 9 v1 rfl rfl) (by kernel_rfl)) (fun x hx => hlt x (by simp [hx]))
  refine Calls_mono (calls_true (G := gMax) (law6_c gMax_max l (fun i => Nat.le_trans (ok0 i) (by unfold reachBytes; omega)) s) (W := W) (vs := [v0, v1]) (im := fun b => b < W.heap.size) (fun _ h => h) (max_of_shape hsh) rfl (args_tokenJoins r0 r1)) ?_
  rintro e W' ⟨rfl, hb⟩
  exact ⟨_, rfl, post_true Tryd.laidOut rfl (by kernel_rfl) Tryd.underlying4 (by kernel_rfl) rfl hW' hb⟩
theorem tokenJoins_holds : Rows.TokenJoinsSaid :=
  OpenClaim.holds_of_wide 6 Tryd.f6 rfl rfl rfl rfl rfl rfl rfl ⟨rfl, rfl, rfl, rfl, rfl⟩ rfl rfl rfl rfl rfl (by kernel_rfl) Tryd.func6 (by kernel_rfl)
    (of_decide_eq_true (by kernel_rfl)) (by unfold Func.isWrapper; first | (rw [if_pos (by decide +kernel)]; kernel_rfl) | (rw [if_neg (by decide +kernel)]; exact ⟨rfl, rfl⟩))
    (fun os started H enc _ => tokenJoins_lifted os started H enc)
theorem tokenJoins_card : Rows.TokenJoinsCardSaid :=
  Claim7.holds_tied_plain_at .later [] [.data, .pinned] true (true, "e37c6fbb22f199631ffa560b15c08b2954996369a0c45475ee89135e2928b9be") false
    tokenJoins_holds (fun _ h => by cases h) (by kernel_rfl) (fun _ h => by cases h) tokenJoins_row_tie rfl ⟨rfl, rfl⟩ (by kernel_rfl) rfl
    (fun f fn hf hfn => by
      obtain rfl : f = 6 := Option.some.inj ((show Tryd.prog.funcNamed "snicket/snicketlaw36.TokenJoins" = some 6 by kernel_rfl).symm.trans hf) |>.symm
      obtain rfl : fn = Tryd.f6 := (Option.some.inj (Tryd.func6.symm.trans hfn)).symm
      exact ⟨by kernel_rfl, fun j t ht => by
        rw [Tryd.params6] at ht
        have hm : t ∈ [30, 9] := by simpa using Array.mem_of_getElem? ht
        have hall : ([30, 9].all fun u => !Tryd.prog.wantsStandIn u) = true := by kernel_rfl
        exact (show Tryd.prog.wantsStandIn t = false by simpa using List.all_eq_true.1 hall t hm)⟩)
    (by kernel_rfl)
#print axioms tokenJoins_card
end Go.Proofs.YtfhdmhoeopbhnaaDoor

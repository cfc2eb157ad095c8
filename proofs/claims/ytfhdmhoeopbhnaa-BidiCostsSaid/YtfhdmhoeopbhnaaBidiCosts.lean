/-
  PROVED: for every hierarchy and all starts and ends the law BidiCosts returns true, and the arguments read as they did. Conditions: none but those of the given row.
-/
import Derived.Test.YtfhdmhoeopbhnaaBidiCosts3
import Derived.Test.YtfhdmhoeopbhnaaAm6
set_option linter.unusedSimpArgs false
set_option linter.unusedSectionVars false
set_option linter.unusedVariables false
namespace Go.Proofs.Ytfhdmhoeopbhnaa
open Go.ChangeShapes Go.WideShapes Go.ChangeAt Go.RowKit
open Go.Proofs.Ytfhdmhoeopbhnaa.Am
theorem Try.own : ownKnob Try.prog.godebug = none := by kernel_rfl
theorem Try.laidOut : laidOutB Try.prog = true := by kernel_rfl
def gTrue : GInv := ⟨fun _ => True, 0, fun _ _ => Nat.zero_le _, fun _ _ _ _ _ => trivial⟩
theorem u3 : Try.prog.underlying 3 = some (.int .i64) := by kernel_rfl
instance drI : Inhabited DRT := ⟨⟨False⟩⟩
theorem o_int : Opens Try.prog 3 (fun n : Int => [.int .i64 n]) (fun n => -9223372036854775808 ≤ n ∧ n ≤ 9223372036854775807) := opens_i64 u3
theorem o_ints : Opens Try.prog 22 (fun l : List Int => [intsA l]) (fun _ => True) :=
  (opens_slice (e := 3) (sz := 1) (by kernel_rfl) o_int (by kernel_rfl) (by omega)).to id (fun _ => rfl) (fun _ _ => trivial)
theorem o_link : Opens Try.prog 29 lkA (fun _ => True) :=
  (opens_struct (t := 29) (L := [(3, 0, 1), (3, 1, 1), (3, 2, 1), (3, 3, 1)]) (by kernel_rfl) (by kernel_rfl) (opensF_cons o_int (opensF_cons o_int (opensF_cons o_int (opensF_cons o_int opensF_nil))))).to
    (fun x => (⟨x.1, x.2.1, x.2.2.1, x.2.2.2.1⟩ : Lk)) (fun _ => rfl) (fun _ _ => trivial)
theorem o_links : Opens Try.prog 23 (fun l : List Lk => [lksA l]) (fun _ => True) :=
  (opens_slice (e := 29) (sz := 4) (by kernel_rfl) o_link (by kernel_rfl) (by omega)).to id (fun _ => rfl) (fun _ _ => trivial)
theorem o_hier : Opens Try.prog 25 (fun x : List Int × List Lk => [intsA x.1, lksA x.2]) (fun _ => True) :=
  (opens_struct (t := 25) (L := [(22, 0, 1), (23, 1, 1)]) (by kernel_rfl) (by kernel_rfl) (opensF_cons o_ints (opensF_cons o_links opensF_nil))).to
    (fun x => (x.1, x.2.1)) (fun _ => rfl) (fun _ _ => trivial)
theorem o_item : Opens Try.prog 92 (fun x : Go.HeapL.It => [.int .i64 x.1, .int .i64 x.2]) (fun _ => True) :=
  (opens_struct (t := 92) (L := [(3, 0, 1), (3, 1, 1)]) (by kernel_rfl) (by kernel_rfl) (opensF_cons o_int (opensF_cons o_int opensF_nil))).to
    (fun x => (x.1, x.2.1)) (fun _ => rfl) (fun _ _ => trivial)
theorem o_items : Opens Try.prog 32 (fun l : List Go.HeapL.It => [itmA l]) (fun _ => True) :=
  (opens_slice (e := 92) (sz := 2) (by kernel_rfl) o_item (by kernel_rfl) (by omega)).to id (fun _ => rfl) (fun _ _ => trivial)
theorem o_ends : Opens Try.prog 48 (fun x : List Go.HeapL.It × List Go.HeapL.It => [itmA x.1, itmA x.2]) (fun _ => True) :=
  (opens_struct (t := 48) (L := [(32, 0, 1), (32, 1, 1)]) (by kernel_rfl) (by kernel_rfl) (opensF_cons o_items (opensF_cons o_items opensF_nil))).to
    (fun x => (x.1, x.2.1)) (fun _ => rfl) (fun _ _ => trivial)
theorem toSb {P : Program} {G : GInv} {f : FuncId} {args : List A} {b : Bool} (h : ACalls P G f args (.bool b)) : ACalls P G f args (.sb b) := by
  refine ⟨h.1, fun im w vs h1 h2 h3 h4 => ?_⟩
  refine Calls_mono (h.2 im w vs h1 h2 h3 h4) ?_
  rintro e w' ⟨v, e1, e2, e3⟩
  refine ⟨v, e1, ?_, e3⟩
  cases e2; exact .sb b
theorem args2 {im : Nat → Prop} {W : World} {x0 x1 : A} {v0 v1 : Value} (h0 : RelI im W x0 v0) (h1 : RelI im W x1 v1) :
    ∀ j (_ : j < [x0, x1].length) (_ : j < [v0, v1].length), RelI im W [x0, x1][j] [v0, v1][j] := by
  intro j h _
  match j with
  | 0 => exact h0
  | 1 => exact h1
  | j + 2 => exact absurd h (by simp)
set_option maxRecDepth 100000 in
theorem bidiCosts_lifted (os : Os) (started : os.Started) (H : Type) (enc : TypeId × Value → H) :
    ReturnsInHanded {} Try.checked os 5 .any (Rows.bidiCostsSpec.pre6 enc Try.prog Try.f5 Rows.bidiCostsRow.domain false) (Rows.bidiCostsSpec.post enc Try.prog Try.f5 false true false false) := by
  refine returnsInHanded_of_change (C := Try.checked) Try.own started (by kernel_rfl) Try.func5
    (ChangeSpec.witness6 (enc := enc) (C := Try.checked) false ⟨#[], #[.agg #[.slice none 0 0, .slice none 0 0], .agg #[.slice none 0 0, .slice none 0 0]], []⟩ 8 (by kernel_rfl) (by kernel_rfl) (by kernel_rfl) (by kernel_rfl)) ?_
  intro W base args ds gs before hval0 hW hcnd _
  have hval : ∀ (j : Nat) t v, Try.f5.params[j]? = some t → args[j]? = some v → Value.okWide Try.prog W .any base t v := hval0
  have hW' := hW
  obtain ⟨p, q, hA0, hV, rfl, hfz, hnd⟩ := hW
  have hA : DataW.TrodAll enc Try.prog W 0 (fun _ => true) true Try.f5.params.toList args.toList ds p := hA0
  rw [Try.params5] at hA hval
  obtain ⟨v0, v1, d0, d1, p0, p1, rfl, rfl, rfl, h0, h1⟩ := trodAll_two hA
  obtain ⟨rfl, rfl⟩ := trodVars_none hV
  have hlt : ∀ x ∈ p0 ++ p1, x.block < W.heap.size := fun x hx => hW'.lt x (by simpa using hx)
  obtain ⟨⟨rk, ls⟩, ok0, r0⟩ := o_hier.agg (im := fun b => b < W.heap.size) h0 (okWide_agg (hval 0 25 v0 rfl rfl) (by kernel_rfl)) (fun x hx => hlt x (by simp [hx]))
  obtain ⟨⟨sa, sz⟩, ok1, r1⟩ := o_ends.agg (im := fun b => b < W.heap.size) h1 (okWide_agg (hval 1 48 v1 rfl rfl) (by kernel_rfl)) (fun x hx => hlt x (by simp [hx]))
  refine Calls_mono (calls_true (G := gTrue) (toSb (law_c rk ls sa sz)) (W := W) (vs := [v0, v1]) (im := fun b => b < W.heap.size) (fun _ h => h) trivial rfl (args2 r0 r1)) ?_
  rintro e W' ⟨rfl, hb⟩
  exact ⟨_, rfl, post_true Try.laidOut rfl (by kernel_rfl) Try.underlying4 (by kernel_rfl) rfl hW' hb⟩
theorem bidiCosts_holds : Rows.BidiCostsSaid :=
  OpenClaim.holds_of_wide 5 Try.f5 rfl rfl rfl rfl rfl rfl rfl ⟨rfl, rfl, rfl, rfl, rfl⟩ rfl rfl rfl rfl rfl (by kernel_rfl) Try.func5 (by kernel_rfl)
    (of_decide_eq_true (by kernel_rfl)) (by unfold Func.isWrapper; first | (rw [if_pos (by decide +kernel)]; kernel_rfl) | (rw [if_neg (by decide +kernel)]; exact ⟨rfl, rfl⟩))
    (fun os started H enc _ => bidiCosts_lifted os started H enc)
#print axioms bidiCosts_holds
end Go.Proofs.Ytfhdmhoeopbhnaa

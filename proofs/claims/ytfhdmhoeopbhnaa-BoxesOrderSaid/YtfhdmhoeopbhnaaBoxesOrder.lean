/-
  PROVED: for every row of lines the law BoxesOrder returns true, and the arguments read as they did. Conditions: none but those of the given row.
-/
import Derived.Test.YtfhdmhoeopbhnaaBoxesOrder1
import Derived.Test.YtfhdmhoeopbhnaaAm4
set_option linter.unusedSimpArgs false
namespace Go.Proofs.Ytfhdmhoeopbhnaa
open Go.ChangeShapes Go.WideShapes Go.ChangeAt Go.RowKit
open Go.Proofs.Ytfhdmhoeopbhnaa.Am
theorem Try.own : ownKnob Try.prog.godebug = none := by kernel_rfl
theorem Try.laidOut : laidOutB Try.prog = true := by kernel_rfl
def gTrue : GInv := ⟨fun _ => True, 0, fun _ _ => Nat.zero_le _, fun _ _ _ _ _ => trivial⟩
theorem u3 : Try.prog.underlying 3 = some (.int .i64) := by kernel_rfl
theorem o_int : Opens Try.prog 3 (fun n : Int => [.int .i64 n]) (fun n => -9223372036854775808 ≤ n ∧ n ≤ 9223372036854775807) := opens_i64 u3
theorem o_pt : Opens Try.prog 60 ptA (fun _ => True) :=
  (opens_struct (t := 60) (L := [(3, 0, 1), (3, 1, 1)]) (by kernel_rfl) (by kernel_rfl) (opensF_cons o_int (opensF_cons o_int opensF_nil))).to
    (fun x => (⟨x.1, x.2.1⟩ : Pt)) (fun _ => rfl) (fun _ _ => trivial)
theorem o_seg : Opens Try.prog 62 sgA (fun _ => True) :=
  (opens_struct (t := 62) (L := [(60, 0, 2), (60, 2, 2)]) (by kernel_rfl) (by kernel_rfl) (opensF_cons o_pt (opensF_cons o_pt opensF_nil))).to
    (fun x => (⟨x.1, x.2.1⟩ : Sg)) (fun _ => rfl) (fun _ _ => trivial)
theorem o_segs : Opens Try.prog 57 (fun l : List Sg => [sgsA l]) (fun _ => True) :=
  (opens_slice (e := 62) (sz := 4) (by kernel_rfl) o_seg (by kernel_rfl) (by omega)).to id (fun _ => rfl) (fun _ _ => trivial)
theorem toSb {P : Program} {G : GInv} {f : FuncId} {args : List A} {b : Bool} (h : ACalls P G f args (.bool b)) : ACalls P G f args (.sb b) := by
  refine ⟨h.1, fun im w vs h1 h2 h3 h4 => ?_⟩
  refine Calls_mono (h.2 im w vs h1 h2 h3 h4) ?_
  rintro e w' ⟨v, e1, e2, e3⟩
  refine ⟨v, e1, ?_, e3⟩
  cases e2; exact .sb b
theorem args1 {im : Nat → Prop} {W : World} {x0 : A} {v0 : Value} (h0 : RelI im W x0 v0) :
    ∀ j (_ : j < [x0].length) (_ : j < [v0].length), RelI im W [x0][j] [v0][j] := by
  intro j h _
  match j with
  | 0 => exact h0
  | j + 1 => exact absurd h (by simp)
set_option maxRecDepth 100000 in
theorem boxesOrder_lifted (os : Os) (started : os.Started) (H : Type) (enc : TypeId × Value → H) :
    ReturnsInHanded {} Try.checked os 6 .any (Rows.boxesOrderSpec.pre6 enc Try.prog Try.f6 Rows.boxesOrderRow.domain false) (Rows.boxesOrderSpec.post enc Try.prog Try.f6 false true false false) := by
  refine returnsInHanded_of_change (C := Try.checked) Try.own started (by kernel_rfl) Try.func6
    (ChangeSpec.witness6 (enc := enc) (C := Try.checked) false ⟨#[], #[.slice none 0 0], []⟩ 8 (by kernel_rfl) (by kernel_rfl) (by kernel_rfl) (by kernel_rfl)) ?_
  intro W base args ds gs before hval0 hW hcnd _
  have hval : ∀ (j : Nat) t v, Try.f6.params[j]? = some t → args[j]? = some v → Value.okWide Try.prog W .any base t v := hval0
  have hW' := hW
  obtain ⟨p, q, hA0, hV, rfl, hfz, hnd⟩ := hW
  have hA : DataW.TrodAll enc Try.prog W 0 (fun _ => true) true Try.f6.params.toList args.toList ds p := hA0
  rw [Try.params6] at hA hval
  obtain ⟨v0, d0, rfl, rfl, h0⟩ := trodAll_one hA
  obtain ⟨rfl, rfl⟩ := trodVars_none hV
  have hlt : ∀ x ∈ p, x.block < W.heap.size := fun x hx => hW'.lt x (by simpa using hx)
  obtain ⟨l, ok0, r0⟩ := o_segs.cell (im := fun b => b < W.heap.size) h0 (okWide_cell (hval 0 57 v0 rfl rfl) (by kernel_rfl)) (fun x hx => hlt x (by simp [hx]))
  refine Calls_mono (calls_true (G := gTrue) (toSb (law6_c l)) (W := W) (vs := [v0]) (im := fun b => b < W.heap.size) (fun _ h => h) trivial rfl (args1 r0)) ?_
  rintro e W' ⟨rfl, hb⟩
  exact ⟨_, rfl, post_true Try.laidOut rfl (by kernel_rfl) Try.underlying4 (by kernel_rfl) rfl hW' hb⟩
theorem boxesOrder_holds : Rows.BoxesOrderSaid :=
  OpenClaim.holds_of_wide 6 Try.f6 rfl rfl rfl rfl rfl rfl rfl ⟨rfl, rfl, rfl, rfl, rfl⟩ rfl rfl rfl rfl rfl (by kernel_rfl) Try.func6 (by kernel_rfl)
    (of_decide_eq_true (by kernel_rfl)) (by unfold Func.isWrapper; first | (rw [if_pos (by decide +kernel)]; kernel_rfl) | (rw [if_neg (by decide +kernel)]; exact ⟨rfl, rfl⟩))
    (fun os started H enc _ => boxesOrder_lifted os started H enc)
#print axioms boxesOrder_holds
end Go.Proofs.Ytfhdmhoeopbhnaa

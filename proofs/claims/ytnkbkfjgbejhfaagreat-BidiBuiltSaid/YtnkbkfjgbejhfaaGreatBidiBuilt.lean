/-
  The law: in the hierarchy that is built of any graph the least way costs what the least walk does.
-/
import Derived.Test.YtnkbkfjgbejhfaaGreatBase9
import Derived.Test.YtnkbkfjgbejhfaaGreatBm4
set_option linter.unusedSimpArgs false
set_option linter.unusedSectionVars false
set_option linter.unusedVariables false
set_option maxRecDepth 100000
namespace Go.Proofs.YtnkbkfjgbejhfaaGreat
open Go.ChangeShapes Go.WideShapes Go.ChangeAt Go.RowKit
open Go.Proofs.YtnkbkfjgbejhfaaGreat.Am
theorem Tryz.own : ownKnob Tryz.prog.godebug = none := by kernel_rfl
theorem Tryz.laidOut : laidOutB Tryz.prog = true := by kernel_rfl
def gTrue : GInv := ⟨fun _ => True, 0, fun _ _ => Nat.zero_le _, fun _ _ _ _ _ => trivial⟩
theorem u3 : Tryz.prog.underlying 3 = some (.int .i64) := by kernel_rfl
instance drI : Inhabited DRT := ⟨⟨True⟩⟩
theorem o_int : Opens Tryz.prog 3 (fun n : Int => [.int .i64 n]) (fun n => -9223372036854775808 ≤ n ∧ n ≤ 9223372036854775807) := opens_i64 u3
theorem o_ints : Opens Tryz.prog 22 (fun l : List Int => [intsA l]) (fun _ => True) :=
 (opens_slice (e := 3) (sz := 1) (by kernel_rfl) o_int (by kernel_rfl) (by omega)).to id (fun _ => rfl) (fun _ _ => trivial)
theorem o_graph : Opens Tryz.prog 24 (fun x : Go.HeapL.Gr => [intsA x.st, intsA x.hd, intsA x.wt]) (fun _ => True) :=
 (opens_struct (t := 24) (L := [(22, 0, 1), (22, 1, 1), (22, 2, 1)]) (by kernel_rfl) (by kernel_rfl) (opensF_cons o_ints (opensF_cons o_ints (opensF_cons o_ints opensF_nil)))).to
  (fun x => (⟨x.1, x.2.1, x.2.2.1⟩ : Go.HeapL.Gr)) (fun _ => rfl) (fun _ _ => trivial)
theorem o_item : Opens Tryz.prog 41 (fun x : Go.HeapL.It => [.int .i64 x.1, .int .i64 x.2]) (fun _ => True) :=
 (opens_struct (t := 41) (L := [(3, 0, 1), (3, 1, 1)]) (by kernel_rfl) (by kernel_rfl) (opensF_cons o_int (opensF_cons o_int opensF_nil))).to
  (fun x => (x.1, x.2.1)) (fun _ => rfl) (fun _ _ => trivial)
theorem o_items : Opens Tryz.prog 25 (fun l : List Go.HeapL.It => [itmA l]) (fun _ => True) :=
 (opens_slice (e := 41) (sz := 2) (by kernel_rfl) o_item (by kernel_rfl) (by omega)).to id (fun _ => rfl) (fun _ _ => trivial)
theorem o_ends : Opens Tryz.prog 27 (fun x : List Go.HeapL.It × List Go.HeapL.It => [itmA x.1, itmA x.2]) (fun _ => True) :=
 (opens_struct (t := 27) (L := [(25, 0, 1), (25, 1, 1)]) (by kernel_rfl) (by kernel_rfl) (opensF_cons o_items (opensF_cons o_items opensF_nil))).to
  (fun x => (x.1, x.2.1)) (fun _ => rfl) (fun _ _ => trivial)
theorem toSb {P : Program} {G : GInv} {f : FuncId} {args : List A} {b : Bool} (h : ACalls P G f args (.bool b)) : ACalls P G f args (.sb b) := by
 refine ⟨h.1, fun im w vs h1 h2 h3 h4 => ?_⟩
 refine Calls_mono (h.2 im w vs h1 h2 h3 h4) ?_
 rintro e w' ⟨v, e1, e2, e3⟩
 refine ⟨v, e1, ?_, e3⟩
 cases e2; exact .sb b
theorem args2 {im : Nat → Prop} {W : World} {x0 x1 : A} {v0 v1 : Value} (h0 : RelI im W x0 v0) (h1 : RelI im W x1 v1) :
  ∀ j (_ : j < [x0, x1].length) (_ : j < [v0, v1].length), RelI im W [x0, x1][j] [v0, v1][j] := by
 intro j h _
 match j with
 | 0 => exact h0
 | 1 => exact h1
 | j + 2 => exact absurd h (by simp)
theorem bidiBuilt_lifted (os : Os) (started : os.Started) (H : Type) (enc : TypeId × Value → H) :
  ReturnsInHanded {} Tryz.checked os 3 .any (Rows.bidiBuiltSpec.pre6 enc Tryz.prog Tryz.f3 Rows.bidiBuiltRow.domain false) (Rows.bidiBuiltSpec.post enc Tryz.prog Tryz.f3 false true false false) := by
 refine returnsInHanded_of_change (C := Tryz.checked) Tryz.own started (by kernel_rfl) Tryz.func3
  (ChangeSpec.witness6 (enc := enc) (C := Tryz.checked) false ⟨#[], #[.agg #[.slice none 0 0, .slice none 0 0, .slice none 0 0], .agg #[.slice none 0 0, .slice none 0 0]], []⟩ 8 (by kernel_rfl) (by kernel_rfl) (by kernel_rfl) (by kernel_rfl)) ?_
 intro W base args ds gs before hval0 hW hcnd _
 have hval : ∀ (j : Nat) t v, Tryz.f3.params[j]? = some t → args[j]? = some v → Value.okWide Tryz.prog W .any base t v := hval0
 have hW' := hW
 obtain ⟨p, q, hA0, hV, rfl, hfz, hnd⟩ := hW
 have hA : DataW.TrodAll enc Tryz.prog W 0 (fun _ => true) true Tryz.f3.params.toList args.toList ds p := hA0
 rw [Tryz.params3] at hA hval
 obtain ⟨v0, v1, d0, d1, p0, p1, rfl, rfl, rfl, h0, h1⟩ := trodAll_two hA
 obtain ⟨rfl, rfl⟩ := trodVars_none hV
 have hlt : ∀ x ∈ p0 ++ p1, x.block < W.heap.size := fun x hx => hW'.lt x (by simpa using hx)
 obtain ⟨g, ok0, r0⟩ := o_graph.agg (im := fun b => b < W.heap.size) h0 (okWide_agg (hval 0 24 v0 rfl rfl) (by kernel_rfl)) (fun x hx => hlt x (by simp [hx]))
 obtain ⟨⟨sa, sz⟩, ok1, r1⟩ := o_ends.agg (im := fun b => b < W.heap.size) h1 (okWide_agg (hval 1 27 v1 rfl rfl) (by kernel_rfl)) (fun x hx => hlt x (by simp [hx]))
 refine Calls_mono (calls_true (G := gTrue) (toSb (built_c trivial g sa sz)) (W := W) (vs := [v0, v1]) (im := fun b => b < W.heap.size) (fun _ h => h) trivial rfl (args2 r0 r1)) ?_
 rintro e W' ⟨rfl, hb⟩
 exact ⟨_, rfl, post_true Tryz.laidOut rfl (by kernel_rfl) Tryz.underlying4 (by kernel_rfl) rfl hW' hb⟩
theorem bidiBuilt_holds : Rows.BidiBuiltSaid :=
 OpenClaim.holds_of_wide 3 Tryz.f3 rfl rfl rfl rfl rfl rfl rfl ⟨rfl, rfl, rfl, rfl, rfl⟩ rfl rfl rfl rfl rfl (by kernel_rfl) Tryz.func3 (by kernel_rfl)
  (of_decide_eq_true (by kernel_rfl)) (by unfold Func.isWrapper; first | (rw [if_pos (by decide +kernel)]; kernel_rfl) | (rw [if_neg (by decide +kernel)]; exact ⟨rfl, rfl⟩))
  (fun os started H enc _ => bidiBuilt_lifted os started H enc)
#print axioms bidiBuilt_holds
end Go.Proofs.YtnkbkfjgbejhfaaGreat

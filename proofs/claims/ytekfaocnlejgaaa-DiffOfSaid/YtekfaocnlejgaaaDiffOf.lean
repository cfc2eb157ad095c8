/-
  PROVED: for any roads and any others the law DiffOf returns true, and the arguments read as they did. Conditions: none.
-/
import Derived.Test.YtekfaocnlejgaaaOf2
import Derived.Test.YtekfaocnlejgaaaAm4
set_option linter.unusedSimpArgs false
namespace Go.Proofs.Ytekfaocnlejgaaa
open Go.ChangeShapes Go.WideShapes Go.ChangeAt Go.RowKit
open Go.Proofs.Ytekfaocnlejgaaa.Am
theorem Try.own : ownKnob Try.prog.godebug = none := by kernel_rfl
theorem Try.laidOut : laidOutB Try.prog = true := by kernel_rfl
def gTrue : GInv := ⟨fun _ => True, 0, fun _ _ => Nat.zero_le _, fun _ _ _ _ _ => trivial⟩
theorem u3 : Try.prog.underlying 3 = some (.int .i64) := by kernel_rfl
theorem u4 : Try.prog.underlying 4 = some .bool := by kernel_rfl
instance drI : Inhabited DRT := ⟨⟨False⟩⟩
theorem o_int : Opens Try.prog 3 (fun n : Int => [.int .i64 n]) (fun n => -9223372036854775808 ≤ n ∧ n ≤ 9223372036854775807) := opens_i64 u3
theorem o_pt : Opens Try.prog 46 ptA (fun _ => True) :=
  (opens_struct (t := 46) (L := [(3, 0, 1), (3, 1, 1)]) (by kernel_rfl) (by kernel_rfl) (opensF_cons o_int (opensF_cons o_int opensF_nil))).to
    (fun x => (⟨x.1, x.2.1⟩ : Pt)) (fun _ => rfl) (fun _ _ => trivial)
theorem o_pts : Opens Try.prog 31 (fun l : List Pt => [ptsA l]) (fun _ => True) :=
  (opens_slice (e := 46) (sz := 2) (by kernel_rfl) o_pt (by kernel_rfl) (by omega)).to id (fun _ => rfl) (fun _ _ => trivial)
theorem o_ints : Opens Try.prog 32 (fun l : List Int => [intsA l]) (fun _ => True) :=
  (opens_slice (e := 3) (sz := 1) (by kernel_rfl) o_int (by kernel_rfl) (by omega)).to id (fun _ => rfl) (fun _ _ => trivial)
theorem o_bool : Opens Try.prog 4 (fun b : Bool => [.sb b]) (fun _ => True) := opens_bool u4
theorem o_rd : Opens Try.prog 34 rdA (fun _ => True) :=
  (opens_struct (t := 34) (L := [(3, 0, 1), (31, 1, 1), (32, 2, 1), (4, 3, 1)]) (by kernel_rfl) (by kernel_rfl) (opensF_cons o_int (opensF_cons o_pts (opensF_cons o_ints (opensF_cons o_bool opensF_nil))))).to
    (fun x => (⟨x.1, x.2.1, x.2.2.1, x.2.2.2.1⟩ : Rd)) (fun _ => rfl) (fun _ _ => trivial)
theorem o_rds : Opens Try.prog 22 (fun l : List Rd => [rdsA l]) (fun _ => True) :=
  (opens_slice (e := 34) (sz := 4) (by kernel_rfl) o_rd (by kernel_rfl) (by omega)).to id (fun _ => rfl) (fun _ _ => trivial)
theorem toSb {P : Program} {G : GInv} {f : FuncId} {args : List A} {b : Bool} (h : ACalls P G f args (.bool b)) : ACalls P G f args (.sb b) := by
  refine ⟨h.1, fun im w vs h1 h2 h3 h4 => ?_⟩
  refine Calls_mono (h.2 im w vs h1 h2 h3 h4) ?_
  rintro e w' ⟨v, e1, e2, e3⟩
  refine ⟨v, e1, ?_, e3⟩
  cases e2; exact .sb b
theorem args2 {im : Nat → Prop} {W : World} {x0 x1 : A} {v0 v1 : Value} (h0 : RelI im W x0 v0) (h1 : RelI im W x1 v1) :
    ∀ j (_ : j < [x0, x1].length) (_ : j < [v0, v1].length), RelI im W [x0, x1][j] [v0, v1][j] := by
  intro j h _
  match j with
  | 0 => exact h0
  | 1 => exact h1
  | j + 2 => exact absurd h (by simp)
set_option maxRecDepth 100000 in
theorem diffOf_lifted (os : Os) (started : os.Started) (H : Type) (enc : TypeId × Value → H) :
    ReturnsInHanded {} Try.checked os 3 .any (Rows.diffOfSpec.pre6 enc Try.prog Try.f3 Rows.diffOfRow.domain false) (Rows.diffOfSpec.post enc Try.prog Try.f3 false true false false) := by
  refine returnsInHanded_of_change (C := Try.checked) Try.own started (by kernel_rfl) Try.func3
    (ChangeSpec.witness6 (enc := enc) (C := Try.checked) false ⟨#[], #[.slice none 0 0, .slice none 0 0], []⟩ 8 (by kernel_rfl) (by kernel_rfl) (by kernel_rfl) (by kernel_rfl)) ?_
  intro W base args ds gs before hval0 hW hcnd _
  have hval : ∀ (j : Nat) t v, Try.f3.params[j]? = some t → args[j]? = some v → Value.okWide Try.prog W .any base t v := hval0
  have hW' := hW
  obtain ⟨p, q, hA0, hV, rfl, hfz, hnd⟩ := hW
  have hA : DataW.TrodAll enc Try.prog W 0 (fun _ => true) true Try.f3.params.toList args.toList ds p := hA0
  rw [Try.params3] at hA hval
  obtain ⟨v0, v1, d0, d1, p0, p1, rfl, rfl, rfl, h0, h1⟩ := trodAll_two hA
  obtain ⟨rfl, rfl⟩ := trodVars_none hV
  have hlt : ∀ x ∈ p0 ++ p1, x.block < W.heap.size := fun x hx => hW'.lt x (by simpa using hx)
  obtain ⟨a, ok0, r0⟩ := o_rds.cell (im := fun b => b < W.heap.size) h0 (okWide_cell (hval 0 22 v0 rfl rfl) (by kernel_rfl)) (fun x hx => hlt x (by simp [hx]))
  obtain ⟨b, ok1, r1⟩ := o_rds.cell (im := fun b => b < W.heap.size) h1 (okWide_cell (hval 1 22 v1 rfl rfl) (by kernel_rfl)) (fun x hx => hlt x (by simp [hx]))
  refine Calls_mono (calls_true (G := gTrue) (diffOf_c (show ¬ (default : DRT).ns from fun h => h) a b) (W := W) (vs := [v0, v1]) (im := fun b => b < W.heap.size) (fun _ h => h) trivial rfl (args2 r0 r1)) ?_
  rintro e W' ⟨rfl, hb⟩
  exact ⟨_, rfl, post_true Try.laidOut rfl (by kernel_rfl) Try.underlying4 (by kernel_rfl) rfl hW' hb⟩
theorem diffOf_holds : Rows.DiffOfSaid :=
  OpenClaim.holds_of_wide 3 Try.f3 rfl rfl rfl rfl rfl rfl rfl ⟨rfl, rfl, rfl, rfl, rfl⟩ rfl rfl rfl rfl rfl (by kernel_rfl) Try.func3 (by kernel_rfl)
    (of_decide_eq_true (by kernel_rfl)) (by unfold Func.isWrapper; first | (rw [if_pos (by decide +kernel)]; kernel_rfl) | (rw [if_neg (by decide +kernel)]; exact ⟨rfl, rfl⟩))
    (fun os started H enc _ => diffOf_lifted os started H enc)
#print axioms diffOf_holds
end Go.Proofs.Ytekfaocnlejgaaa

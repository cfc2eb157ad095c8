/-
  PROVED: for any two lines and any three numbers the law SpotAlong returns true, and the arguments read as they did. Conditions: none.
-/
import Derived.Test.YtcomiiakkhafpaaGreatSpot3
import Derived.Test.YtcomiiakkhafpaaGreatAm4
set_option linter.unusedSimpArgs false
namespace Go.Proofs.YtcomiiakkhafpaaGreat
open Go.ChangeShapes Go.WideShapes Go.ChangeAt Go.RowKit
open Go.Proofs.YtcomiiakkhafpaaGreat.Am
theorem Tryz.own : ownKnob Tryz.prog.godebug = none := by kernel_rfl
theorem Tryz.laidOut : laidOutB Tryz.prog = true := by kernel_rfl
def gTrue : GInv := ⟨fun _ => True, 0, fun _ _ => Nat.zero_le _, fun _ _ _ _ _ => trivial⟩
theorem u3 : Tryz.prog.underlying 3 = some (.int .i64) := by kernel_rfl
instance drI : Inhabited DRT := ⟨⟨True⟩⟩
theorem o_int : Opens Tryz.prog 3 (fun n : Int => [.int .i64 n]) (fun n => -9223372036854775808 ≤ n ∧ n ≤ 9223372036854775807) := opens_i64 u3
theorem o_pt : Opens Tryz.prog 43 ptA (fun _ => True) :=
  (opens_struct (t := 43) (L := [(3, 0, 1), (3, 1, 1)]) (by kernel_rfl) (by kernel_rfl) (opensF_cons o_int (opensF_cons o_int opensF_nil))).to
    (fun x => (⟨x.1, x.2.1⟩ : Pt)) (fun _ => rfl) (fun _ _ => trivial)
theorem o_seg : Opens Tryz.prog 45 sgA (fun _ => True) :=
  (opens_struct (t := 45) (L := [(43, 0, 2), (43, 2, 2)]) (by kernel_rfl) (by kernel_rfl) (opensF_cons o_pt (opensF_cons o_pt opensF_nil))).to
    (fun x => (⟨x.1, x.2.1⟩ : Sg)) (fun _ => rfl) (fun _ _ => trivial)
theorem o_x : Opens Tryz.prog 46 (fun x : Int × Int × Int => [.int .i64 x.1, .int .i64 x.2.1, .int .i64 x.2.2]) (fun x => x.2.2 ≤ 9223372036854775807) :=
  (opens_array (n := 3) (e := 3) (L := [(3, 0, 1), (3, 1, 1), (3, 2, 1)]) (by kernel_rfl) (by kernel_rfl) (by kernel_rfl) (opensF_cons o_int (opensF_cons o_int (opensF_cons o_int opensF_nil)))).to (fun x => (x.1, x.2.1, x.2.2.1)) (fun _ => rfl) (fun _ h => h.2.2.1.2)
theorem toSb {P : Program} {G : GInv} {f : FuncId} {args : List A} {b : Bool} (h : ACalls P G f args (.bool b)) : ACalls P G f args (.sb b) := by
  refine ⟨h.1, fun im w vs h1 h2 h3 h4 => ?_⟩
  refine Calls_mono (h.2 im w vs h1 h2 h3 h4) ?_
  rintro e w' ⟨v, e1, e2, e3⟩
  refine ⟨v, e1, ?_, e3⟩
  cases e2; exact .sb b
theorem args3 {im : Nat → Prop} {W : World} {x0 x1 x2 : A} {v0 v1 v2 : Value} (h0 : RelI im W x0 v0) (h1 : RelI im W x1 v1) (h2 : RelI im W x2 v2) :
    ∀ j (_ : j < [x0, x1, x2].length) (_ : j < [v0, v1, v2].length), RelI im W [x0, x1, x2][j] [v0, v1, v2][j] := by
  intro j h _
  match j with
  | 0 => exact h0
  | 1 => exact h1
  | 2 => exact h2
  | j + 3 => exact absurd h (by simp)
set_option maxRecDepth 100000 in
theorem spotAlong_lifted (os : Os) (started : os.Started) (H : Type) (enc : TypeId × Value → H) :
    ReturnsInHanded {} Tryz.checked os 4 .any (Rows.spotAlongSpec.pre6 enc Tryz.prog Tryz.f4 Rows.spotAlongRow.domain false) (Rows.spotAlongSpec.post enc Tryz.prog Tryz.f4 false true false false) := by
  refine returnsInHanded_of_change (C := Tryz.checked) Tryz.own started (by kernel_rfl) Tryz.func4
    (ChangeSpec.witness6 (enc := enc) (C := Tryz.checked) false ⟨#[], #[.agg #[.int .i64 0, .int .i64 0, .int .i64 0, .int .i64 0], .agg #[.int .i64 0, .int .i64 0, .int .i64 0, .int .i64 0], .agg #[.int .i64 0, .int .i64 0, .int .i64 0]], []⟩ 8 (by kernel_rfl) (by kernel_rfl) (by kernel_rfl) (by kernel_rfl)) ?_
  intro W base args ds gs before hval0 hW hcnd _
  have hval : ∀ (j : Nat) t v, Tryz.f4.params[j]? = some t → args[j]? = some v → Value.okWide Tryz.prog W .any base t v := hval0
  have hW' := hW
  obtain ⟨p, q, hA0, hV, rfl, hfz, hnd⟩ := hW
  have hA : DataW.TrodAll enc Tryz.prog W 0 (fun _ => true) true Tryz.f4.params.toList args.toList ds p := hA0
  rw [Tryz.params4] at hA hval
  obtain ⟨v0, v1, v2, d0, d1, d2, p0, p1, p2, rfl, rfl, rfl, h0, h1, h2⟩ := trodAll_three hA
  obtain ⟨rfl, rfl⟩ := trodVars_none hV
  have hlt : ∀ x ∈ p0 ++ p1 ++ p2, x.block < W.heap.size := fun x hx => hW'.lt x (by simpa using hx)
  obtain ⟨s, ok0, r0⟩ := o_seg.agg (im := fun b => b < W.heap.size) h0 (okWide_agg (hval 0 45 v0 rfl rfl) (by kernel_rfl)) (fun x hx => hlt x (by simp [hx]))
  obtain ⟨t, ok1, r1⟩ := o_seg.agg (im := fun b => b < W.heap.size) h1 (okWide_agg (hval 1 45 v1 rfl rfl) (by kernel_rfl)) (fun x hx => hlt x (by simp [hx]))
  obtain ⟨⟨n, m, d⟩, ok2, r2⟩ := o_x.agg (im := fun b => b < W.heap.size) h2 (okWide_agg (hval 2 46 v2 rfl rfl) (by kernel_rfl)) (fun x hx => hlt x (by simp [hx]))
  refine Calls_mono (calls_true (G := gTrue) (spotAlong_all (show (default : DRT).ns from trivial) s t n m d ok2) (W := W) (vs := [v0, v1, v2]) (im := fun b => b < W.heap.size) (fun _ h => h) trivial rfl (args3 r0 r1 r2)) ?_
  rintro e W' ⟨rfl, hb⟩
  exact ⟨_, rfl, post_true Tryz.laidOut rfl (by kernel_rfl) Tryz.underlying4 (by kernel_rfl) rfl hW' hb⟩
theorem spotAlong_holds : Rows.SpotAlongSaid :=
  OpenClaim.holds_of_wide 4 Tryz.f4 rfl rfl rfl rfl rfl rfl rfl ⟨rfl, rfl, rfl, rfl, rfl⟩ rfl rfl rfl rfl rfl (by kernel_rfl) Tryz.func4 (by kernel_rfl)
    (of_decide_eq_true (by kernel_rfl)) (by unfold Func.isWrapper; first | (rw [if_pos (by decide +kernel)]; kernel_rfl) | (rw [if_neg (by decide +kernel)]; exact ⟨rfl, rfl⟩))
    (fun os started H enc _ => spotAlong_lifted os started H enc)
#print axioms spotAlong_holds
end Go.Proofs.YtcomiiakkhafpaaGreat

/-
  PROVED: for any line, any point and any two numbers the law CutsAt returns true, and the arguments read as they did. Conditions: none.
-/
import Derived.Test.YtcomiiakkhafpaaGreatCut2
import Derived.Test.YtcomiiakkhafpaaGreatAm4
set_option linter.unusedSimpArgs false
set_option linter.unusedSectionVars false
namespace Go.Proofs.YtcomiiakkhafpaaGreat
open Go.Proofs.YtcomiiakkhafpaaGreat.Am Go.Sort Go.Proofs Go.Lib
variable [Inhabited DRT]
variable {G : GInv}
/-! ### The law CutsAt -/
set_option maxRecDepth 100000 in
set_option maxHeartbeats 4000000 in
theorem cutsAt_c (hns : ¬ (default : DRT).ns) (s : Sg) (p : Pt) (a b : Int) (hb : b ≤ 9223372036854775807) : ACalls Tryz.prog G 5 [.agg (sgA s), .agg (ptA p), .agg [.int .i64 a, .int .i64 b]] (.sb true) := by
 have h1 := cAt_c (G := G) s p
 have h2 := cLow_c (G := G) a b hb
 have h3 := rcLow_c (G := G) a b hb
 have h4 := ron_c (G := G) s p
 have h5 := cawake_c (G := G) hns
 generalize lowN a b = N at *
 generalize lowD a b = D at *
 by_cases hO : OnP s p
 ·rw [if_pos hO] at h1
  rw [decide_eq_true hO] at h4
  have h6 := rcAt_c (G := G) s p hO.1
  have hm := hO.2.1
  have h7 := rAt0_c (G := G) p (by have := hm.1; unfold In29 at this; omega) (by have := hm.2; unfold In29 at this; omega)
  rw [← spot_at hO] at h7
  unfold eCu at h1 h6
  generalize (atC s p).1 = c at *
  obtain ⟨n, d, u, v, X, Y, W, rfl⟩ := ct_form c
  refine ACalls.of_WA ttok Tryz.func5 rfl rfl _ rfl ?_
  conv => whnf
  repeat' (first | refine sq ?_ | refine bk ?_ | ((first | refine rg ttok ?_ | refine dw ttok mixed ?_ | refine cd ?_ | refine sk ?_ | refine xt ?_ | refine rt ?_); conv => whnf) | (refine And.intro (fun h => ?_) (fun h => ?_) <;> (try simp only [brsA] at h) <;> conv => whnf) | (refine Or.inl ?_; (conv => whnf); (first | refine ⟨_, h1, ?_⟩ | refine ⟨_, h2, ?_⟩ | refine ⟨_, h3, ?_⟩ | refine ⟨_, h4, ?_⟩ | refine ⟨_, h5, ?_⟩ | refine ⟨_, h6, ?_⟩ | refine ⟨_, h7, ?_⟩); conv => whnf) | ((first | refine wf ?_ | refine wp' ?_ | refine ai ?_ | refine And.intro rfl ?_ | refine an ?_ | fail); conv => whnf))
  all_goals first | contradiction | (exfalso; omega) | rfl | (simp; done) | (exfalso; simp at h; done) | skip
 ·rw [if_neg hO] at h1
  rw [decide_eq_false hO] at h4
  refine ACalls.of_WA ttok Tryz.func5 rfl rfl _ rfl ?_
  conv => whnf
  repeat' (first | refine sq ?_ | refine bk ?_ | ((first | refine rg ttok ?_ | refine dw ttok mixed ?_ | refine cd ?_ | refine sk ?_ | refine xt ?_ | refine rt ?_); conv => whnf) | (refine And.intro (fun h => ?_) (fun h => ?_) <;> (try simp only [brsA] at h) <;> conv => whnf) | (refine Or.inl ?_; (conv => whnf); (first | refine ⟨_, h1, ?_⟩ | refine ⟨_, h2, ?_⟩ | refine ⟨_, h3, ?_⟩ | refine ⟨_, h4, ?_⟩ | refine ⟨_, h5, ?_⟩); conv => whnf) | ((first | refine wf ?_ | refine wp' ?_ | refine ai ?_ | refine And.intro rfl ?_ | refine an ?_ | fail); conv => whnf))
  all_goals first | contradiction | (exfalso; omega) | rfl | (simp; done) | (exfalso; simp at h; done) | skip
end Go.Proofs.YtcomiiakkhafpaaGreat
namespace Go.Proofs.YtcomiiakkhafpaaGreat
open Go.ChangeShapes Go.WideShapes Go.ChangeAt Go.RowKit
open Go.Proofs.YtcomiiakkhafpaaGreat.Am
theorem Tryz.own : ownKnob Tryz.prog.godebug = none := by kernel_rfl
theorem Tryz.laidOut : laidOutB Tryz.prog = true := by kernel_rfl
def gTrue : GInv := ⟨fun _ => True, 0, fun _ _ => Nat.zero_le _, fun _ _ _ _ _ => trivial⟩
theorem u3 : Tryz.prog.underlying 3 = some (.int .i64) := by kernel_rfl
instance drI : Inhabited DRT := ⟨⟨False⟩⟩
theorem o_int : Opens Tryz.prog 3 (fun n : Int => [.int .i64 n]) (fun n => -9223372036854775808 ≤ n ∧ n ≤ 9223372036854775807) := opens_i64 u3
theorem o_pt : Opens Tryz.prog 43 ptA (fun _ => True) :=
 (opens_struct (t := 43) (L := [(3, 0, 1), (3, 1, 1)]) (by kernel_rfl) (by kernel_rfl) (opensF_cons o_int (opensF_cons o_int opensF_nil))).to
  (fun x => (⟨x.1, x.2.1⟩ : Pt)) (fun _ => rfl) (fun _ _ => trivial)
theorem o_seg : Opens Tryz.prog 45 sgA (fun _ => True) :=
 (opens_struct (t := 45) (L := [(43, 0, 2), (43, 2, 2)]) (by kernel_rfl) (by kernel_rfl) (opensF_cons o_pt (opensF_cons o_pt opensF_nil))).to
  (fun x => (⟨x.1, x.2.1⟩ : Sg)) (fun _ => rfl) (fun _ _ => trivial)
theorem o_x : Opens Tryz.prog 56 (fun x : Int × Int => [.int .i64 x.1, .int .i64 x.2]) (fun x => x.2 ≤ 9223372036854775807) :=
 (opens_array (n := 2) (e := 3) (L := [(3, 0, 1), (3, 1, 1)]) (by kernel_rfl) (by kernel_rfl) (by kernel_rfl) (opensF_cons o_int (opensF_cons o_int opensF_nil))).to (fun x => (x.1, x.2.1)) (fun _ => rfl) (fun _ h => h.2.1.2)
theorem args3 {im : Nat → Prop} {W : World} {x0 x1 x2 : A} {v0 v1 v2 : Value} (h0 : RelI im W x0 v0) (h1 : RelI im W x1 v1) (h2 : RelI im W x2 v2) :
  ∀ j (_ : j < [x0, x1, x2].length) (_ : j < [v0, v1, v2].length), RelI im W [x0, x1, x2][j] [v0, v1, v2][j] := by
 intro j h _
 match j with
 | 0 => exact h0
 | 1 => exact h1
 | 2 => exact h2
 | j + 3 => exact absurd h (by simp)
set_option maxRecDepth 100000 in
theorem cutsAt_lifted (os : Os) (started : os.Started) (H : Type) (enc : TypeId × Value → H) :
  ReturnsInHanded {} Tryz.checked os 5 .any (Rows.cutsAtSpec.pre6 enc Tryz.prog Tryz.f5 Rows.cutsAtRow.domain false) (Rows.cutsAtSpec.post enc Tryz.prog Tryz.f5 false true false false) := by
 refine returnsInHanded_of_change (C := Tryz.checked) Tryz.own started (by kernel_rfl) Tryz.func5
  (ChangeSpec.witness6 (enc := enc) (C := Tryz.checked) false ⟨#[], #[.agg #[.int .i64 0, .int .i64 0, .int .i64 0, .int .i64 0], .agg #[.int .i64 0, .int .i64 0], .agg #[.int .i64 0, .int .i64 0]], []⟩ 8 (by kernel_rfl) (by kernel_rfl) (by kernel_rfl) (by kernel_rfl)) ?_
 intro W base args ds gs before hval0 hW hcnd _
 have hval : ∀ (j : Nat) t v, Tryz.f5.params[j]? = some t → args[j]? = some v → Value.okWide Tryz.prog W .any base t v := hval0
 have hW' := hW
 obtain ⟨p, q, hA0, hV, rfl, hfz, hnd⟩ := hW
 have hA : DataW.TrodAll enc Tryz.prog W 0 (fun _ => true) true Tryz.f5.params.toList args.toList ds p := hA0
 rw [Tryz.params5] at hA hval
 obtain ⟨v0, v1, v2, d0, d1, d2, p0, p1, p2, rfl, rfl, rfl, h0, h1, h2⟩ := trodAll_three hA
 obtain ⟨rfl, rfl⟩ := trodVars_none hV
 have hlt : ∀ x ∈ p0 ++ p1 ++ p2, x.block < W.heap.size := fun x hx => hW'.lt x (by simpa using hx)
 obtain ⟨s, ok0, r0⟩ := o_seg.agg (im := fun b => b < W.heap.size) h0 (okWide_agg (hval 0 45 v0 rfl rfl) (by kernel_rfl)) (fun x hx => hlt x (by simp [hx]))
 obtain ⟨p, ok1, r1⟩ := o_pt.agg (im := fun b => b < W.heap.size) h1 (okWide_agg (hval 1 43 v1 rfl rfl) (by kernel_rfl)) (fun x hx => hlt x (by simp [hx]))
 obtain ⟨⟨a, b⟩, ok2, r2⟩ := o_x.agg (im := fun b => b < W.heap.size) h2 (okWide_agg (hval 2 56 v2 rfl rfl) (by kernel_rfl)) (fun x hx => hlt x (by simp [hx]))
 refine Calls_mono (calls_true (G := gTrue) (cutsAt_c (fun h : (default : DRT).ns => h) s p a b ok2) (W := W) (vs := [v0, v1, v2]) (im := fun b => b < W.heap.size) (fun _ h => h) trivial rfl (args3 r0 r1 r2)) ?_
 rintro e W' ⟨rfl, hb⟩
 exact ⟨_, rfl, post_true Tryz.laidOut rfl (by kernel_rfl) Tryz.underlying4 (by kernel_rfl) rfl hW' hb⟩
theorem cutsAt_holds : Rows.CutsAtSaid :=
 OpenClaim.holds_of_wide 5 Tryz.f5 rfl rfl rfl rfl rfl rfl rfl ⟨rfl, rfl, rfl, rfl, rfl⟩ rfl rfl rfl rfl rfl (by kernel_rfl) Tryz.func5 (by kernel_rfl)
  (of_decide_eq_true (by kernel_rfl)) (by unfold Func.isWrapper; first | (rw [if_pos (by decide +kernel)]; kernel_rfl) | (rw [if_neg (by decide +kernel)]; exact ⟨rfl, rfl⟩))
  (fun os started H enc _ => cutsAt_lifted os started H enc)
#print axioms cutsAt_holds
end Go.Proofs.YtcomiiakkhafpaaGreat

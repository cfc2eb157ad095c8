/-
  The law: a way, unpacked, is a walk by arcs.
-/
import Derived.Test.YtnkbkfjgbejhfaaWays3
import Derived.Test.YtnkbkfjgbejhfaaBm4
set_option linter.unusedSimpArgs false
set_option linter.unusedSectionVars false
set_option linter.unusedVariables false
set_option maxRecDepth 100000
namespace Go.Proofs.Ytnkbkfjgbejhfaa
open Go.Proofs.Ytnkbkfjgbejhfaa.Am Go.HeapL
variable [Inhabited DRT]
variable {G : GInv}
theorem enA_last : ∀ (a : Int) (m : List Int), enA a m = (a :: m).getD m.length 0
 | _, [] => rfl
 | _, x :: m => by
  show enA x m = _
  rw [enA_last x m]; rfl
theorem ways_c (hns : (default : DRT).ns) (g : Gr) (l : List Int) : ACalls Try.prog G 6 [gA g, intsA l] (.bool true) := by
 have hAw := awake27_c (G := G)
 by_cases hn : NearG g ∧ l.length ≤ 12
 ·obtain ⟨hg, h12⟩ := hn
  have hB := blt (G := G) hns g hg
  by_cases h0 : l.length = 0
  ·exact ways_nil g _ _ hB l h0 hAw
  ·by_cases hW : WayP (ofB g).rk (lsB g) l l.length
   ·have hm := hg.2.2.2
    have hok := hm.ok
    have h13 := hB.hn
    have hrl := hB.hrl
    have hl := hB.hl
    obtain ⟨m, e1, e2, e3, e4⟩ := wayL_walk hok (by omega) hW (l.length - 1) (by omega)
    have hy := way_ok (G := G) (ofB g).rk (lsB g) (by omega) (by omega) hB.hM l (by omega) h12 hW
    have hb := wayL_len (ls := lsB g) (show (ofB g).rk.length ≤ 13 by omega) l (l.length - 1)
    rw [e1] at hy hb
    refine ways_good g _ _ hB l (by omega) h12 hm hW (l.getD 0 0 :: m) hb.1 (by omega) rfl ?_ e2 e3 hy hAw
    rw [← e4, enA_last]; rfl
   ·exact ways_none g _ _ hB l (by omega) h12 hW hAw
 ·exact ways_far g l hn hAw
end Go.Proofs.Ytnkbkfjgbejhfaa
namespace Go.Proofs.Ytnkbkfjgbejhfaa
open Go.ChangeShapes Go.WideShapes Go.ChangeAt Go.RowKit
open Go.Proofs.Ytnkbkfjgbejhfaa.Am
theorem Try.own : ownKnob Try.prog.godebug = none := by kernel_rfl
theorem Try.laidOut : laidOutB Try.prog = true := by kernel_rfl
def gTrue : GInv := ⟨fun _ => True, 0, fun _ _ => Nat.zero_le _, fun _ _ _ _ _ => trivial⟩
theorem u3 : Try.prog.underlying 3 = some (.int .i64) := by kernel_rfl
instance drI : Inhabited DRT := ⟨⟨True⟩⟩
theorem o_int : Opens Try.prog 3 (fun n : Int => [.int .i64 n]) (fun n => -9223372036854775808 ≤ n ∧ n ≤ 9223372036854775807) := opens_i64 u3
theorem o_ints : Opens Try.prog 22 (fun l : List Int => [intsA l]) (fun _ => True) :=
 (opens_slice (e := 3) (sz := 1) (by kernel_rfl) o_int (by kernel_rfl) (by omega)).to id (fun _ => rfl) (fun _ _ => trivial)
theorem o_graph : Opens Try.prog 24 (fun x : Go.HeapL.Gr => [intsA x.st, intsA x.hd, intsA x.wt]) (fun _ => True) :=
 (opens_struct (t := 24) (L := [(22, 0, 1), (22, 1, 1), (22, 2, 1)]) (by kernel_rfl) (by kernel_rfl) (opensF_cons o_ints (opensF_cons o_ints (opensF_cons o_ints opensF_nil)))).to
  (fun x => (⟨x.1, x.2.1, x.2.2.1⟩ : Go.HeapL.Gr)) (fun _ => rfl) (fun _ _ => trivial)
theorem toSb {P : Program} {G : GInv} {f : FuncId} {args : List A} {b : Bool} (h : ACalls P G f args (.bool b)) : ACalls P G f args (.sb b) := by
 refine ⟨h.1, fun im w vs h1 h2 h3 h4 => ?_⟩
 refine Calls_mono (h.2 im w vs h1 h2 h3 h4) ?_
 rintro e w' ⟨v, e1, e2, e3⟩
 refine ⟨v, e1, ?_, e3⟩
 cases e2; exact .sb b
theorem args2 {im : Nat → Prop} {W : World} {x0 x1 : A} {v0 v1 : Value} (h0 : RelI im W x0 v0) (h1 : RelI im W x1 v1) :
  ∀ j (_ : j < [x0, x1].length) (_ : j < [v0, v1].length), RelI im W [x0, x1][j] [v0, v1][j] := by
 intro j h _
 match j with
 | 0 => exact h0
 | 1 => exact h1
 | j + 2 => exact absurd h (by simp)
theorem unpackWays_lifted (os : Os) (started : os.Started) (H : Type) (enc : TypeId × Value → H) :
  ReturnsInHanded {} Try.checked os 6 .any (Rows.unpackWaysSpec.pre6 enc Try.prog Try.f6 Rows.unpackWaysRow.domain false) (Rows.unpackWaysSpec.post enc Try.prog Try.f6 false true false false) := by
 refine returnsInHanded_of_change (C := Try.checked) Try.own started (by kernel_rfl) Try.func6
  (ChangeSpec.witness6 (enc := enc) (C := Try.checked) false ⟨#[], #[.agg #[.slice none 0 0, .slice none 0 0, .slice none 0 0], .slice none 0 0], []⟩ 8 (by kernel_rfl) (by kernel_rfl) (by kernel_rfl) (by kernel_rfl)) ?_
 intro W base args ds gs before hval0 hW hcnd _
 have hval : ∀ (j : Nat) t v, Try.f6.params[j]? = some t → args[j]? = some v → Value.okWide Try.prog W .any base t v := hval0
 have hW' := hW
 obtain ⟨p, q, hA0, hV, rfl, hfz, hnd⟩ := hW
 have hA : DataW.TrodAll enc Try.prog W 0 (fun _ => true) true Try.f6.params.toList args.toList ds p := hA0
 rw [Try.params6] at hA hval
 obtain ⟨v0, v1, d0, d1, p0, p1, rfl, rfl, rfl, h0, h1⟩ := trodAll_two hA
 obtain ⟨rfl, rfl⟩ := trodVars_none hV
 have hlt : ∀ x ∈ p0 ++ p1, x.block < W.heap.size := fun x hx => hW'.lt x (by simpa using hx)
 obtain ⟨g, ok0, r0⟩ := o_graph.agg (im := fun b => b < W.heap.size) h0 (okWide_agg (hval 0 24 v0 rfl rfl) (by kernel_rfl)) (fun x hx => hlt x (by simp [hx]))
 obtain ⟨l, ok1, r1⟩ := o_ints.cell (im := fun b => b < W.heap.size) h1 (okWide_cell (hval 1 22 v1 rfl rfl) (by kernel_rfl)) (fun x hx => hlt x (by simp [hx]))
 refine Calls_mono (calls_true (G := gTrue) (toSb (ways_c trivial g l)) (W := W) (vs := [v0, v1]) (im := fun b => b < W.heap.size) (fun _ h => h) trivial rfl (args2 r0 r1)) ?_
 rintro e W' ⟨rfl, hb⟩
 exact ⟨_, rfl, post_true Try.laidOut rfl (by kernel_rfl) Try.underlying4 (by kernel_rfl) rfl hW' hb⟩
theorem unpackWays_holds : Rows.UnpackWaysSaid :=
 OpenClaim.holds_of_wide 6 Try.f6 rfl rfl rfl rfl rfl rfl rfl ⟨rfl, rfl, rfl, rfl, rfl⟩ rfl rfl rfl rfl rfl (by kernel_rfl) Try.func6 (by kernel_rfl)
  (of_decide_eq_true (by kernel_rfl)) (by unfold Func.isWrapper; first | (rw [if_pos (by decide +kernel)]; kernel_rfl) | (rw [if_neg (by decide +kernel)]; exact ⟨rfl, rfl⟩))
  (fun os started H enc _ => unpackWays_lifted os started H enc)
#print axioms unpackWays_holds
end Go.Proofs.Ytnkbkfjgbejhfaa

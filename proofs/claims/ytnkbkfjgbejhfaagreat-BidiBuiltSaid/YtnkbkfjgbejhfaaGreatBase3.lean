/-
  The walks and plain laws, part 3.
-/
import Derived.Test.YtnkbkfjgbejhfaaGreatBase1
set_option linter.unusedSimpArgs false
set_option linter.unusedSectionVars false
set_option linter.unusedVariables false
namespace Go.Proofs.YtnkbkfjgbejhfaaGreat
open Go.Proofs.YtnkbkfjgbejhfaaGreat.Am Go.HeapL
variable [Inhabited DRT]
variable {G : GInv}
def cR (c : Nat → Int) : Nat → List A := fun k => [.int .i64 (c k)]
theorem cR_upd (c : Nat → Int) (i : Nat) (x : Int) (k : Nat) : updRow (cR c) i [.int .i64 x] k = cR (updF1 c i x) k := by
 unfold updRow cR updF1
 split <;> rfl
theorem c0_step (i : Nat) (k : Nat) : updRow (cR fun k => if k < i then NC else 0) i [.int .i64 4611686018427387904] k = cR (fun k => if k < i + 1 then NC else 0) k := by
 unfold updRow cR
 split
 ·rename_i e; subst e
  show [A.int .i64 4611686018427387904] = [A.int .i64 (if k < k + 1 then NC else 0)]
  rw [if_pos (by omega)]; rfl
 ·rename_i e
  show [A.int .i64 (if k < i then NC else 0)] = [A.int .i64 (if k < i + 1 then NC else 0)]
  by_cases h : k < i
  ·rw [if_pos h, if_pos (by omega)]
  ·rw [if_neg h, if_neg (by omega)]
end Go.Proofs.YtnkbkfjgbejhfaaGreat
namespace Go.Proofs.YtnkbkfjgbejhfaaGreat
open Go.Proofs.YtnkbkfjgbejhfaaGreat.Am Go.HeapL
variable [Inhabited DRT]
variable {G : GInv}
theorem minV_min {P : Int → Prop} (h : ∀ d, P d → 0 ≤ d) : IsMin P (minV P) := minV_ok (IsMin.ex P h)
theorem isMin_bd {P : Int → Prop} {x : Int} (h : IsMin P x) (h0 : ∀ d, P d → 0 ≤ d) : 0 ≤ x ∧ x ≤ NC := by
 refine ⟨?_, h.1⟩
 by_cases hx : x < NC
 ·exact h0 x (h.2.2 hx)
 ·unfold NC at hx; omega
end Go.Proofs.YtnkbkfjgbejhfaaGreat

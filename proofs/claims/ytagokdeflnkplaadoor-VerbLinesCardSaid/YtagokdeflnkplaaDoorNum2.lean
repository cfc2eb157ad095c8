/-
  The walks of the reference of the package num.
-/
import Derived.Test.YtagokdeflnkplaaDoorNum1
set_option linter.unusedSimpArgs false
namespace Go.Proofs.YtagokdeflnkplaaDoor
open Go.Proofs.YtagokdeflnkplaaDoor.Am
variable {G : GInv}
/-! ### The reference's Cut -/
end Go.Proofs.YtagokdeflnkplaaDoor
set_option linter.unusedSimpArgs false
namespace Go.Proofs.YtagokdeflnkplaaDoor
open Go.Proofs.YtagokdeflnkplaaDoor.Am
variable {G : GInv}
end Go.Proofs.YtagokdeflnkplaaDoor
set_option linter.unusedSimpArgs false
namespace Go.Proofs.YtagokdeflnkplaaDoor
open Go.Proofs.YtagokdeflnkplaaDoor.Am
variable {G : GInv}
end Go.Proofs.YtagokdeflnkplaaDoor

/-
  The walks of the reference's Bare, near, May; they answer as verb.May.
-/
import Derived.Test.YtagokdeflnkplaaDoorVerb2
set_option linter.unusedSimpArgs false
namespace Go.Proofs.YtagokdeflnkplaaDoor
open Go.Proofs.YtagokdeflnkplaaDoor.Am Go.Lib
variable {G : GInv}
end Go.Proofs.YtagokdeflnkplaaDoor
set_option linter.unusedSimpArgs false
namespace Go.Proofs.YtagokdeflnkplaaDoor
open Go.Proofs.YtagokdeflnkplaaDoor.Am Go.Lib
end Go.Proofs.YtagokdeflnkplaaDoor

/-
  No cell of these rows narrows 'for every input' (looked for: loops, veiled, ifaces, maps, wideKeys, modest, calm, conditions, laid).
  DERIVED. THE GIVEN ROWS OF THIS SEAT. 7 by the template 'for every input the law returns true; each argument reads behind the call as it read before'; 0 by the template 'total and deterministic' (their statements: YtijddijloelacaaGreatTotals.lean).
  GIVEN WITH THE SEED: the statements are not yours to turn. If you find one false, say at which input.
  Laid BY PROGRAM, IN A SANDBOX (cutbox-rows.mjs): the forced cells as the released guide's own fill.sh prints them over the translation e5f36eb09dcad27f… (all of the seat's roots in one cut). By AI agents, Wed Nov 11 2026. No macro, syntax, notation, axiom, sorry.
-/
import Derived.Test.YtijddijloelacaaGreatChecked
import GoSem.Claim
import GoSem.ClaimJoined
import GoSem.ClaimMapViews
import Derived.JoinedTies
import Derived.KernelRfl
namespace Go.Proofs.YtijddijloelacaaGreat
/- THE CELL 'sum', in the pinned program and in every row, IS THE sha256 OF THE DUMP (.gsa) THAT YtijddijloelacaaGreatProg.lean LOADS. Nothing in Lean hashes anything: it is a label: what it is worth is what the hold of that sum in a sandbox is worth. -/
noncomputable def Tryz.pinned : Pinned := { name := "ytijddijloelacaagreat", sum := "e5f36eb09dcad27f1e8e5dccc2d0060c518c9dcdcdf73d34d2c711bb5c350cb9", checked := Tryz.checked }
namespace Rows
def none {H : Type} : Left H := { results := [], args := [] }

/-- 'snicketlaw52.GenStars': WHATEVER THE INPUT: true; the input reads as it did. -/
def genStarsSpec : ChangeSpec := { name := "genStars", fn := fun _ => fun
  | [d] => { results := [.lit (.bool true)], args := [d] }
  | _ => none }
def genStarsRow : OpenClaim := { program := "ytijddijloelacaagreat", sum := "e5f36eb09dcad27f1e8e5dccc2d0060c518c9dcdcdf73d34d2c711bb5c350cb9", func := "snicket/snicketlaw52.GenStars", spec := "genStars", inPlace := ["math/bits.Add64", "math/bits.Sub64"], unfollowed := true, recurses := true, named := ["math/bits.divideError", "math/bits.overflowError"], plainKeys := false, apart := false }
def GenStarsSaid : Prop := genStarsRow.holds Tryz.pinned (OpenSpec.ofChange genStarsSpec)

/-- ITS FALSE NEIGHBOUR: 'it returns false'. Refute it at one input. -/
def genStarsWrong : ChangeSpec := { name := "genStars", fn := fun _ => fun
  | [d] => { results := [.lit (.bool false)], args := [d] }
  | _ => none }
def GenStarsWrongFalsely : Prop := genStarsRow.holds Tryz.pinned (OpenSpec.ofChange genStarsWrong)

/-- 'snicketlaw52.GenLattices': WHATEVER THE INPUT: true; the input reads as it did. -/
def genLatticesSpec : ChangeSpec := { name := "genLattices", fn := fun _ => fun
  | [d1, d2, d3] => { results := [.lit (.bool true)], args := [d1, d2, d3] }
  | _ => none }
def genLatticesRow : OpenClaim := { program := "ytijddijloelacaagreat", sum := "e5f36eb09dcad27f1e8e5dccc2d0060c518c9dcdcdf73d34d2c711bb5c350cb9", func := "snicket/snicketlaw52.GenLattices", spec := "genLattices", inPlace := ["math/bits.Add64", "math/bits.Sub64"], unfollowed := true, recurses := true, named := ["math/bits.divideError", "math/bits.overflowError"], plainKeys := false, apart := false }
def GenLatticesSaid : Prop := genLatticesRow.holds Tryz.pinned (OpenSpec.ofChange genLatticesSpec)

/-- ITS FALSE NEIGHBOUR: 'it returns false'. Refute it at one input. -/
def genLatticesWrong : ChangeSpec := { name := "genLattices", fn := fun _ => fun
  | [d1, d2, d3] => { results := [.lit (.bool false)], args := [d1, d2, d3] }
  | _ => none }
def GenLatticesWrongFalsely : Prop := genLatticesRow.holds Tryz.pinned (OpenSpec.ofChange genLatticesWrong)

/-- 'snicketlaw15.NetPieces': WHATEVER THE INPUT: true; the input reads as it did. -/
def netPiecesSpec : ChangeSpec := { name := "netPieces", fn := fun _ => fun
  | [d] => { results := [.lit (.bool true)], args := [d] }
  | _ => none }
def netPiecesRow : OpenClaim := { program := "ytijddijloelacaagreat", sum := "e5f36eb09dcad27f1e8e5dccc2d0060c518c9dcdcdf73d34d2c711bb5c350cb9", func := "snicket/snicketlaw15.NetPieces", spec := "netPieces", inPlace := ["math/bits.Add64", "math/bits.Sub64"], unfollowed := true, recurses := true, named := ["math/bits.divideError", "math/bits.overflowError"], plainKeys := false, apart := false }
def NetPiecesSaid : Prop := netPiecesRow.holds Tryz.pinned (OpenSpec.ofChange netPiecesSpec)

/-- ITS FALSE NEIGHBOUR: 'it returns false'. Refute it at one input. -/
def netPiecesWrong : ChangeSpec := { name := "netPieces", fn := fun _ => fun
  | [d] => { results := [.lit (.bool false)], args := [d] }
  | _ => none }
def NetPiecesWrongFalsely : Prop := netPiecesRow.holds Tryz.pinned (OpenSpec.ofChange netPiecesWrong)

/-- 'snicketlaw15.NetOf': WHATEVER THE INPUT: true; the input reads as it did. -/
def netOfSpec : ChangeSpec := { name := "netOf", fn := fun _ => fun
  | [d] => { results := [.lit (.bool true)], args := [d] }
  | _ => none }
def netOfRow : OpenClaim := { program := "ytijddijloelacaagreat", sum := "e5f36eb09dcad27f1e8e5dccc2d0060c518c9dcdcdf73d34d2c711bb5c350cb9", func := "snicket/snicketlaw15.NetOf", spec := "netOf", inPlace := ["math/bits.Add64", "math/bits.Sub64"], unfollowed := true, recurses := true, named := ["math/bits.divideError", "math/bits.overflowError"], plainKeys := false, apart := false }
def NetOfSaid : Prop := netOfRow.holds Tryz.pinned (OpenSpec.ofChange netOfSpec)

/-- ITS FALSE NEIGHBOUR: 'it returns false'. Refute it at one input. -/
def netOfWrong : ChangeSpec := { name := "netOf", fn := fun _ => fun
  | [d] => { results := [.lit (.bool false)], args := [d] }
  | _ => none }
def NetOfWrongFalsely : Prop := netOfRow.holds Tryz.pinned (OpenSpec.ofChange netOfWrong)

/-- 'snicketlaw16.SurveyLooks': WHATEVER THE INPUT: true; the input reads as it did. -/
def surveyLooksSpec : ChangeSpec := { name := "surveyLooks", fn := fun _ => fun
  | [d1, d2] => { results := [.lit (.bool true)], args := [d1, d2] }
  | _ => none }
def surveyLooksRow : OpenClaim := { program := "ytijddijloelacaagreat", sum := "e5f36eb09dcad27f1e8e5dccc2d0060c518c9dcdcdf73d34d2c711bb5c350cb9", func := "snicket/snicketlaw16.SurveyLooks", spec := "surveyLooks", inPlace := ["math/bits.Add64", "math/bits.Sub64"], unfollowed := true, recurses := true, named := ["math/bits.divideError", "math/bits.overflowError"], plainKeys := false, apart := false }
def SurveyLooksSaid : Prop := surveyLooksRow.holds Tryz.pinned (OpenSpec.ofChange surveyLooksSpec)

/-- ITS FALSE NEIGHBOUR: 'it returns false'. Refute it at one input. -/
def surveyLooksWrong : ChangeSpec := { name := "surveyLooks", fn := fun _ => fun
  | [d1, d2] => { results := [.lit (.bool false)], args := [d1, d2] }
  | _ => none }
def SurveyLooksWrongFalsely : Prop := surveyLooksRow.holds Tryz.pinned (OpenSpec.ofChange surveyLooksWrong)

/-- 'snicketlaw16.SurveyPlane': WHATEVER THE INPUT: true; the input reads as it did. -/
def surveyPlaneSpec : ChangeSpec := { name := "surveyPlane", fn := fun _ => fun
  | [d] => { results := [.lit (.bool true)], args := [d] }
  | _ => none }
def surveyPlaneRow : OpenClaim := { program := "ytijddijloelacaagreat", sum := "e5f36eb09dcad27f1e8e5dccc2d0060c518c9dcdcdf73d34d2c711bb5c350cb9", func := "snicket/snicketlaw16.SurveyPlane", spec := "surveyPlane", inPlace := ["math/bits.Add64", "math/bits.Sub64"], unfollowed := true, recurses := true, named := ["math/bits.divideError", "math/bits.overflowError"], plainKeys := false, apart := false }
def SurveyPlaneSaid : Prop := surveyPlaneRow.holds Tryz.pinned (OpenSpec.ofChange surveyPlaneSpec)

/-- ITS FALSE NEIGHBOUR: 'it returns false'. Refute it at one input. -/
def surveyPlaneWrong : ChangeSpec := { name := "surveyPlane", fn := fun _ => fun
  | [d] => { results := [.lit (.bool false)], args := [d] }
  | _ => none }
def SurveyPlaneWrongFalsely : Prop := surveyPlaneRow.holds Tryz.pinned (OpenSpec.ofChange surveyPlaneWrong)

/-- 'snicketlaw16.SurveySides': WHATEVER THE INPUT: true; the input reads as it did. -/
def surveySidesSpec : ChangeSpec := { name := "surveySides", fn := fun _ => fun
  | [d1, d2, d3] => { results := [.lit (.bool true)], args := [d1, d2, d3] }
  | _ => none }
def surveySidesRow : OpenClaim := { program := "ytijddijloelacaagreat", sum := "e5f36eb09dcad27f1e8e5dccc2d0060c518c9dcdcdf73d34d2c711bb5c350cb9", func := "snicket/snicketlaw16.SurveySides", spec := "surveySides", inPlace := ["math/bits.Sub64", "math/bits.Add64"], unfollowed := true, recurses := true, named := ["math/bits.divideError", "math/bits.overflowError"], plainKeys := false, apart := false }
def SurveySidesSaid : Prop := surveySidesRow.holds Tryz.pinned (OpenSpec.ofChange surveySidesSpec)

/-- ITS FALSE NEIGHBOUR: 'it returns false'. Refute it at one input. -/
def surveySidesWrong : ChangeSpec := { name := "surveySides", fn := fun _ => fun
  | [d1, d2, d3] => { results := [.lit (.bool false)], args := [d1, d2, d3] }
  | _ => none }
def SurveySidesWrongFalsely : Prop := surveySidesRow.holds Tryz.pinned (OpenSpec.ofChange surveySidesWrong)

/- THE SECOND FORM. 'bulk': how many values and letters a reading holds, each counted each time it is reached (what is shared counts as often as it is met; a slice's spare places count too). A statement '..UptoSaid' is the law's where the arguments, and the package variables that the reading takes, are together of bulk at most 1048576: NARROWER than '..Said'. Prove '..Said' where nothing that the law and all that it calls make is longer than what came in: it says more and counts as full. Else prove '..UptoSaid'. A law counts once. -/
mutual
def uptoBulk {H : Type} : DataW H → Nat
  | .lit (.string bytes) => bytes.length + 1
  | .lit _ => 1
  | .nil => 1
  | .ptr d => uptoBulk d + 1
  | .slice elems spare => uptoBulkAll elems + uptoBulkAll spare + 1
  | .agg parts => uptoBulkAll parts + 1
  | .iface _ d => uptoBulk d + 1
  | .map entries => uptoBulkEntries entries + 1
  | .held _ => 1
def uptoBulkAll {H : Type} : List (DataW H) → Nat
  | [] => 0
  | d :: r => uptoBulk d + uptoBulkAll r
def uptoBulkEntries {H : Type} : List (Lit × DataW H) → Nat
  | [] => 0
  | x :: r => uptoBulkEntry x + uptoBulkEntries r
def uptoBulkEntry {H : Type} : Lit × DataW H → Nat
  | (.string bytes, d) => bytes.length + uptoBulk d + 1
  | (_, d) => uptoBulk d + 1
 end
def uptoSmall : (H : Type) → List (DataW H) → Bool := fun _ ds => decide (uptoBulkAll ds ≤ 1048576)
def OpenSpec.upto (s : _root_.Go.ChangeSpec) : _root_.Go.OpenSpec := { _root_.Go.OpenSpec.ofChange s with cond := some uptoSmall }

/-- 'snicketlaw52.GenStars', WHERE WHAT IT READS IS OF BULK AT MOST 1048576: true; the input reads as it did. -/
def genStarsUptoRow : OpenClaim := { program := "ytijddijloelacaagreat", sum := "e5f36eb09dcad27f1e8e5dccc2d0060c518c9dcdcdf73d34d2c711bb5c350cb9", func := "snicket/snicketlaw52.GenStars", spec := "genStars", inPlace := ["math/bits.Add64", "math/bits.Sub64"], unfollowed := true, recurses := true, named := ["math/bits.divideError", "math/bits.overflowError"], plainKeys := false, apart := false, narrowed := true }
def GenStarsUptoSaid : Prop := genStarsUptoRow.holds Tryz.pinned (OpenSpec.upto genStarsSpec)

/-- 'snicketlaw52.GenLattices', WHERE WHAT IT READS IS OF BULK AT MOST 1048576: true; the input reads as it did. -/
def genLatticesUptoRow : OpenClaim := { program := "ytijddijloelacaagreat", sum := "e5f36eb09dcad27f1e8e5dccc2d0060c518c9dcdcdf73d34d2c711bb5c350cb9", func := "snicket/snicketlaw52.GenLattices", spec := "genLattices", inPlace := ["math/bits.Add64", "math/bits.Sub64"], unfollowed := true, recurses := true, named := ["math/bits.divideError", "math/bits.overflowError"], plainKeys := false, apart := false, narrowed := true }
def GenLatticesUptoSaid : Prop := genLatticesUptoRow.holds Tryz.pinned (OpenSpec.upto genLatticesSpec)

/-- 'snicketlaw15.NetPieces', WHERE WHAT IT READS IS OF BULK AT MOST 1048576: true; the input reads as it did. -/
def netPiecesUptoRow : OpenClaim := { program := "ytijddijloelacaagreat", sum := "e5f36eb09dcad27f1e8e5dccc2d0060c518c9dcdcdf73d34d2c711bb5c350cb9", func := "snicket/snicketlaw15.NetPieces", spec := "netPieces", inPlace := ["math/bits.Add64", "math/bits.Sub64"], unfollowed := true, recurses := true, named := ["math/bits.divideError", "math/bits.overflowError"], plainKeys := false, apart := false, narrowed := true }
def NetPiecesUptoSaid : Prop := netPiecesUptoRow.holds Tryz.pinned (OpenSpec.upto netPiecesSpec)

/-- 'snicketlaw15.NetOf', WHERE WHAT IT READS IS OF BULK AT MOST 1048576: true; the input reads as it did. -/
def netOfUptoRow : OpenClaim := { program := "ytijddijloelacaagreat", sum := "e5f36eb09dcad27f1e8e5dccc2d0060c518c9dcdcdf73d34d2c711bb5c350cb9", func := "snicket/snicketlaw15.NetOf", spec := "netOf", inPlace := ["math/bits.Add64", "math/bits.Sub64"], unfollowed := true, recurses := true, named := ["math/bits.divideError", "math/bits.overflowError"], plainKeys := false, apart := false, narrowed := true }
def NetOfUptoSaid : Prop := netOfUptoRow.holds Tryz.pinned (OpenSpec.upto netOfSpec)

/-- 'snicketlaw16.SurveyLooks', WHERE WHAT IT READS IS OF BULK AT MOST 1048576: true; the input reads as it did. -/
def surveyLooksUptoRow : OpenClaim := { program := "ytijddijloelacaagreat", sum := "e5f36eb09dcad27f1e8e5dccc2d0060c518c9dcdcdf73d34d2c711bb5c350cb9", func := "snicket/snicketlaw16.SurveyLooks", spec := "surveyLooks", inPlace := ["math/bits.Add64", "math/bits.Sub64"], unfollowed := true, recurses := true, named := ["math/bits.divideError", "math/bits.overflowError"], plainKeys := false, apart := false, narrowed := true }
def SurveyLooksUptoSaid : Prop := surveyLooksUptoRow.holds Tryz.pinned (OpenSpec.upto surveyLooksSpec)

/-- 'snicketlaw16.SurveyPlane', WHERE WHAT IT READS IS OF BULK AT MOST 1048576: true; the input reads as it did. -/
def surveyPlaneUptoRow : OpenClaim := { program := "ytijddijloelacaagreat", sum := "e5f36eb09dcad27f1e8e5dccc2d0060c518c9dcdcdf73d34d2c711bb5c350cb9", func := "snicket/snicketlaw16.SurveyPlane", spec := "surveyPlane", inPlace := ["math/bits.Add64", "math/bits.Sub64"], unfollowed := true, recurses := true, named := ["math/bits.divideError", "math/bits.overflowError"], plainKeys := false, apart := false, narrowed := true }
def SurveyPlaneUptoSaid : Prop := surveyPlaneUptoRow.holds Tryz.pinned (OpenSpec.upto surveyPlaneSpec)

/-- 'snicketlaw16.SurveySides', WHERE WHAT IT READS IS OF BULK AT MOST 1048576: true; the input reads as it did. -/
def surveySidesUptoRow : OpenClaim := { program := "ytijddijloelacaagreat", sum := "e5f36eb09dcad27f1e8e5dccc2d0060c518c9dcdcdf73d34d2c711bb5c350cb9", func := "snicket/snicketlaw16.SurveySides", spec := "surveySides", inPlace := ["math/bits.Sub64", "math/bits.Add64"], unfollowed := true, recurses := true, named := ["math/bits.divideError", "math/bits.overflowError"], plainKeys := false, apart := false, narrowed := true }
def SurveySidesUptoSaid : Prop := surveySidesUptoRow.holds Tryz.pinned (OpenSpec.upto surveySidesSpec)

end Rows
end Go.Proofs.YtijddijloelacaaGreat

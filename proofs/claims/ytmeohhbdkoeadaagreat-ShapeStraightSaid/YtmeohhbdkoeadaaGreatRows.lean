/-
  No cell of these rows narrows 'for every input' (looked for: loops, veiled, ifaces, maps, wideKeys, modest, calm, conditions, laid).
  DERIVED. THE GIVEN ROWS OF THIS SEAT. 2 by the template 'for every input the law returns true; each argument reads behind the call as it read before'; 0 by the template 'total and deterministic' (their statements: YtmeohhbdkoeadaaGreatTotals.lean).
  GIVEN WITH THE SEED: the statements are not yours to turn. If you find one false, say at which input.
  Laid BY PROGRAM, IN A SANDBOX (cutbox-rows.mjs): the forced cells as the released guide's own fill.sh prints them over the translation 0fb71d03598e632f… (all of the seat's roots in one cut). By AI agents, Wed Nov 11 2026. No macro, syntax, notation, axiom, sorry.
-/
import Derived.Test.YtmeohhbdkoeadaaGreatChecked
import GoSem.Claim
import GoSem.ClaimJoined
import GoSem.ClaimMapViews
import Derived.JoinedTies
import Derived.KernelRfl
namespace Go.Proofs.YtmeohhbdkoeadaaGreat
/- THE CELL 'sum', in the pinned program and in every row, IS THE sha256 OF THE DUMP (.gsa) THAT YtmeohhbdkoeadaaGreatProg.lean LOADS. Nothing in Lean hashes anything: it is a label: what it is worth is what the hold of that sum in a sandbox is worth. -/
noncomputable def Tryz.pinned : Pinned := { name := "ytmeohhbdkoeadaagreat", sum := "0fb71d03598e632fbb404ce2e194e5499ed754be13376b083687a2c84a63a82f", checked := Tryz.checked }
namespace Rows
def none {H : Type} : Left H := { results := [], args := [] }

/-- 'snicketlaw10.SpotSorts': WHATEVER THE INPUT: true; the input reads as it did. -/
def spotSortsSpec : ChangeSpec := { name := "spotSorts", fn := fun _ => fun
  | [d] => { results := [.lit (.bool true)], args := [d] }
  | _ => none }
def spotSortsRow : OpenClaim := { program := "ytmeohhbdkoeadaagreat", sum := "0fb71d03598e632fbb404ce2e194e5499ed754be13376b083687a2c84a63a82f", func := "snicket/snicketlaw10.SpotSorts", spec := "spotSorts", inPlace := ["math/bits.Add64", "math/bits.Sub64", "internal/abi.NoEscape", "internal/bytealg.MakeNoZero"], unfollowed := true, recurses := true, named := ["math/bits.divideError", "math/bits.overflowError"], apart := false }
def SpotSortsSaid : Prop := spotSortsRow.holds Tryz.pinned (OpenSpec.ofChange spotSortsSpec)

/-- ITS FALSE NEIGHBOUR: 'it returns false'. Refute it at one input. -/
def spotSortsWrong : ChangeSpec := { name := "spotSorts", fn := fun _ => fun
  | [d] => { results := [.lit (.bool false)], args := [d] }
  | _ => none }
def SpotSortsWrongFalsely : Prop := spotSortsRow.holds Tryz.pinned (OpenSpec.ofChange spotSortsWrong)

/-- 'snicketlaw48.ShapeStraight': WHATEVER THE INPUT: true; the input reads as it did. -/
def shapeStraightSpec : ChangeSpec := { name := "shapeStraight", fn := fun _ => fun
  | [d] => { results := [.lit (.bool true)], args := [d] }
  | _ => none }
def shapeStraightRow : OpenClaim := { program := "ytmeohhbdkoeadaagreat", sum := "0fb71d03598e632fbb404ce2e194e5499ed754be13376b083687a2c84a63a82f", func := "snicket/snicketlaw48.ShapeStraight", spec := "shapeStraight", inPlace := ["math/bits.Sub64", "math/bits.Add64", "internal/abi.NoEscape", "internal/bytealg.MakeNoZero"], unfollowed := true, recurses := true, named := ["math/bits.divideError", "math/bits.overflowError"], apart := false }
def ShapeStraightSaid : Prop := shapeStraightRow.holds Tryz.pinned (OpenSpec.ofChange shapeStraightSpec)

/-- ITS FALSE NEIGHBOUR: 'it returns false'. Refute it at one input. -/
def shapeStraightWrong : ChangeSpec := { name := "shapeStraight", fn := fun _ => fun
  | [d] => { results := [.lit (.bool false)], args := [d] }
  | _ => none }
def ShapeStraightWrongFalsely : Prop := shapeStraightRow.holds Tryz.pinned (OpenSpec.ofChange shapeStraightWrong)

/- THE SECOND FORM. 'bulk': how many values and letters a reading holds, each counted each time it is reached (what is shared counts as often as it is met; a slice's spare places count too). A statement '..UptoSaid' is the law's where the arguments, and the package variables that the reading takes, are together of bulk at most 1048576: NARROWER than '..Said'. Prove '..Said' where nothing that the law and all that it calls make is longer than what came in: it says more and counts as full. Else prove '..UptoSaid'. A law counts once. -/
mutual
def uptoBulk {H : Type} : DataW H → Nat
  | .lit (.string bytes) => bytes.length + 1
  | .lit _ => 1
  | .nil => 1
  | .ptr d => uptoBulk d + 1
  | .slice elems spare => uptoBulkAll elems + uptoBulkAll spare + 1
  | .agg parts => uptoBulkAll parts + 1
  | .iface _ d => uptoBulk d + 1
  | .map entries => uptoBulkEntries entries + 1
  | .held _ => 1
def uptoBulkAll {H : Type} : List (DataW H) → Nat
  | [] => 0
  | d :: r => uptoBulk d + uptoBulkAll r
def uptoBulkEntries {H : Type} : List (Lit × DataW H) → Nat
  | [] => 0
  | x :: r => uptoBulkEntry x + uptoBulkEntries r
def uptoBulkEntry {H : Type} : Lit × DataW H → Nat
  | (.string bytes, d) => bytes.length + uptoBulk d + 1
  | (_, d) => uptoBulk d + 1
 end
def uptoSmall : (H : Type) → List (DataW H) → Bool := fun _ ds => decide (uptoBulkAll ds ≤ 1048576)
def OpenSpec.upto (s : _root_.Go.ChangeSpec) : _root_.Go.OpenSpec := { _root_.Go.OpenSpec.ofChange s with cond := some uptoSmall }

/-- 'snicketlaw10.SpotSorts', WHERE WHAT IT READS IS OF BULK AT MOST 1048576: true; the input reads as it did. -/
def spotSortsUptoRow : OpenClaim := { program := "ytmeohhbdkoeadaagreat", sum := "0fb71d03598e632fbb404ce2e194e5499ed754be13376b083687a2c84a63a82f", func := "snicket/snicketlaw10.SpotSorts", spec := "spotSorts", inPlace := ["math/bits.Add64", "math/bits.Sub64", "internal/abi.NoEscape", "internal/bytealg.MakeNoZero"], unfollowed := true, recurses := true, named := ["math/bits.divideError", "math/bits.overflowError"], apart := false, narrowed := true }
def SpotSortsUptoSaid : Prop := spotSortsUptoRow.holds Tryz.pinned (OpenSpec.upto spotSortsSpec)

/-- 'snicketlaw48.ShapeStraight', WHERE WHAT IT READS IS OF BULK AT MOST 1048576: true; the input reads as it did. -/
def shapeStraightUptoRow : OpenClaim := { program := "ytmeohhbdkoeadaagreat", sum := "0fb71d03598e632fbb404ce2e194e5499ed754be13376b083687a2c84a63a82f", func := "snicket/snicketlaw48.ShapeStraight", spec := "shapeStraight", inPlace := ["math/bits.Sub64", "math/bits.Add64", "internal/abi.NoEscape", "internal/bytealg.MakeNoZero"], unfollowed := true, recurses := true, named := ["math/bits.divideError", "math/bits.overflowError"], apart := false, narrowed := true }
def ShapeStraightUptoSaid : Prop := shapeStraightUptoRow.holds Tryz.pinned (OpenSpec.upto shapeStraightSpec)

end Rows
end Go.Proofs.YtmeohhbdkoeadaaGreat

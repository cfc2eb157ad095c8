/-
  No cell of these rows narrows 'for every input' (looked for: loops, veiled, ifaces, maps, wideKeys, modest, calm, conditions, laid).
  DERIVED. THE GIVEN ROWS OF THIS SEAT. 5 by the template 'for every input the law returns true; each argument reads behind the call as it read before'; 0 by the template 'total and deterministic' (their statements: YtagokdeflnkplaaTotals.lean).
  GIVEN WITH THE SEED: the statements are not yours to turn. If you find one false, say at which input.
  Laid BY PROGRAM, IN A SANDBOX (cutbox-rows.mjs): the forced cells as the released guide's own fill.sh prints them over the translation 0a3d943cf956acb0… (all of the seat's roots in one cut). By AI agents, Wed Nov 11 2026. No macro, syntax, notation, axiom, sorry.
-/
import Derived.Test.YtagokdeflnkplaaChecked
import GoSem.Claim
import GoSem.ClaimJoined
import GoSem.ClaimMapViews
import Derived.JoinedTies
import Derived.KernelRfl
namespace Go.Proofs.Ytagokdeflnkplaa
/- THE CELL 'sum', in the pinned program and in every row, IS THE sha256 OF THE DUMP (.gsa) THAT YtagokdeflnkplaaProg.lean LOADS. Nothing in Lean hashes anything: it is a label: what it is worth is what the hold of that sum in a sandbox is worth. -/
noncomputable def Try.pinned : Pinned := { name := "ytagokdeflnkplaa", sum := "0a3d943cf956acb0089eb434f809f80f7923183d8b4db3017d62efbfd3dbc913", checked := Try.checked }
namespace Rows
def none {H : Type} : Left H := { results := [], args := [] }

/-- 'snicketlaw09.MeetTurns': WHATEVER THE INPUT: true; the input reads as it did. -/
def meetTurnsSpec : ChangeSpec := { name := "meetTurns", fn := fun _ => fun
  | [d1, d2] => { results := [.lit (.bool true)], args := [d1, d2] }
  | _ => none }
def meetTurnsRow : OpenClaim := { program := "ytagokdeflnkplaa", sum := "0a3d943cf956acb0089eb434f809f80f7923183d8b4db3017d62efbfd3dbc913", func := "snicket/snicketlaw09.MeetTurns", spec := "meetTurns", unfollowed := true, recurses := true, named := ["math/bits.divideError", "math/bits.overflowError"], apart := false }
def MeetTurnsSaid : Prop := meetTurnsRow.holds Try.pinned (OpenSpec.ofChange meetTurnsSpec)

/-- ITS FALSE NEIGHBOUR: 'it returns false'. Refute it at one input. -/
def meetTurnsWrong : ChangeSpec := { name := "meetTurns", fn := fun _ => fun
  | [d1, d2] => { results := [.lit (.bool false)], args := [d1, d2] }
  | _ => none }
def MeetTurnsWrongFalsely : Prop := meetTurnsRow.holds Try.pinned (OpenSpec.ofChange meetTurnsWrong)

/-- 'snicketlaw09.MeetWhole': WHATEVER THE INPUT: true; the input reads as it did. -/
def meetWholeSpec : ChangeSpec := { name := "meetWhole", fn := fun _ => fun
  | [d1, d2, d3] => { results := [.lit (.bool true)], args := [d1, d2, d3] }
  | _ => none }
def meetWholeRow : OpenClaim := { program := "ytagokdeflnkplaa", sum := "0a3d943cf956acb0089eb434f809f80f7923183d8b4db3017d62efbfd3dbc913", func := "snicket/snicketlaw09.MeetWhole", spec := "meetWhole", unfollowed := true, recurses := true, named := ["math/bits.divideError", "math/bits.overflowError"], apart := false }
def MeetWholeSaid : Prop := meetWholeRow.holds Try.pinned (OpenSpec.ofChange meetWholeSpec)

/-- ITS FALSE NEIGHBOUR: 'it returns false'. Refute it at one input. -/
def meetWholeWrong : ChangeSpec := { name := "meetWhole", fn := fun _ => fun
  | [d1, d2, d3] => { results := [.lit (.bool false)], args := [d1, d2, d3] }
  | _ => none }
def MeetWholeWrongFalsely : Prop := meetWholeRow.holds Try.pinned (OpenSpec.ofChange meetWholeWrong)

/-- 'snicketlaw51.DiffOf': WHATEVER THE INPUT: true; the input reads as it did. -/
def diffOfSpec : ChangeSpec := { name := "diffOf", fn := fun _ => fun
  | [d1, d2] => { results := [.lit (.bool true)], args := [d1, d2] }
  | _ => none }
def diffOfRow : OpenClaim := { program := "ytagokdeflnkplaa", sum := "0a3d943cf956acb0089eb434f809f80f7923183d8b4db3017d62efbfd3dbc913", func := "snicket/snicketlaw51.DiffOf", spec := "diffOf", inPlace := ["slices.overlaps[snicket/api.Road]"], unfollowed := true, recurses := true, apart := false }
def DiffOfSaid : Prop := diffOfRow.holds Try.pinned (OpenSpec.ofChange diffOfSpec)

/-- ITS FALSE NEIGHBOUR: 'it returns false'. Refute it at one input. -/
def diffOfWrong : ChangeSpec := { name := "diffOf", fn := fun _ => fun
  | [d1, d2] => { results := [.lit (.bool false)], args := [d1, d2] }
  | _ => none }
def DiffOfWrongFalsely : Prop := diffOfRow.holds Try.pinned (OpenSpec.ofChange diffOfWrong)

/-- 'snicketlaw51.DiffApplies': WHATEVER THE INPUT: true; the input reads as it did. -/
def diffAppliesSpec : ChangeSpec := { name := "diffApplies", fn := fun _ => fun
  | [d1, d2, d3] => { results := [.lit (.bool true)], args := [d1, d2, d3] }
  | _ => none }
def diffAppliesRow : OpenClaim := { program := "ytagokdeflnkplaa", sum := "0a3d943cf956acb0089eb434f809f80f7923183d8b4db3017d62efbfd3dbc913", func := "snicket/snicketlaw51.DiffApplies", spec := "diffApplies", inPlace := ["slices.overlaps[snicket/api.Road]"], unfollowed := true, recurses := true, apart := false }
def DiffAppliesSaid : Prop := diffAppliesRow.holds Try.pinned (OpenSpec.ofChange diffAppliesSpec)

/-- ITS FALSE NEIGHBOUR: 'it returns false'. Refute it at one input. -/
def diffAppliesWrong : ChangeSpec := { name := "diffApplies", fn := fun _ => fun
  | [d1, d2, d3] => { results := [.lit (.bool false)], args := [d1, d2, d3] }
  | _ => none }
def DiffAppliesWrongFalsely : Prop := diffAppliesRow.holds Try.pinned (OpenSpec.ofChange diffAppliesWrong)

/-- 'snicketlaw26.BidiCosts': WHATEVER THE INPUT: true; the input reads as it did. -/
def bidiCostsSpec : ChangeSpec := { name := "bidiCosts", fn := fun _ => fun
  | [d1, d2] => { results := [.lit (.bool true)], args := [d1, d2] }
  | _ => none }
def bidiCostsRow : OpenClaim := { program := "ytagokdeflnkplaa", sum := "0a3d943cf956acb0089eb434f809f80f7923183d8b4db3017d62efbfd3dbc913", func := "snicket/snicketlaw26.BidiCosts", spec := "bidiCosts", unfollowed := true, recurses := true, apart := false }
def BidiCostsSaid : Prop := bidiCostsRow.holds Try.pinned (OpenSpec.ofChange bidiCostsSpec)

/-- ITS FALSE NEIGHBOUR: 'it returns false'. Refute it at one input. -/
def bidiCostsWrong : ChangeSpec := { name := "bidiCosts", fn := fun _ => fun
  | [d1, d2] => { results := [.lit (.bool false)], args := [d1, d2] }
  | _ => none }
def BidiCostsWrongFalsely : Prop := bidiCostsRow.holds Try.pinned (OpenSpec.ofChange bidiCostsWrong)

/- THE SECOND FORM. 'bulk': how many values and letters a reading holds, each counted each time it is reached (what is shared counts as often as it is met; a slice's spare places count too). A statement '..UptoSaid' is the law's where the arguments, and the package variables that the reading takes, are together of bulk at most 1048576: NARROWER than '..Said'. Prove '..Said' where nothing that the law and all that it calls make is longer than what came in: it says more and counts as full. Else prove '..UptoSaid'. A law counts once. -/
mutual
def uptoBulk {H : Type} : DataW H → Nat
  | .lit (.string bytes) => bytes.length + 1
  | .lit _ => 1
  | .nil => 1
  | .ptr d => uptoBulk d + 1
  | .slice elems spare => uptoBulkAll elems + uptoBulkAll spare + 1
  | .agg parts => uptoBulkAll parts + 1
  | .iface _ d => uptoBulk d + 1
  | .map entries => uptoBulkEntries entries + 1
  | .held _ => 1
def uptoBulkAll {H : Type} : List (DataW H) → Nat
  | [] => 0
  | d :: r => uptoBulk d + uptoBulkAll r
def uptoBulkEntries {H : Type} : List (Lit × DataW H) → Nat
  | [] => 0
  | x :: r => uptoBulkEntry x + uptoBulkEntries r
def uptoBulkEntry {H : Type} : Lit × DataW H → Nat
  | (.string bytes, d) => bytes.length + uptoBulk d + 1
  | (_, d) => uptoBulk d + 1
 end
def uptoSmall : (H : Type) → List (DataW H) → Bool := fun _ ds => decide (uptoBulkAll ds ≤ 1048576)
def OpenSpec.upto (s : _root_.Go.ChangeSpec) : _root_.Go.OpenSpec := { _root_.Go.OpenSpec.ofChange s with cond := some uptoSmall }

/-- 'snicketlaw09.MeetTurns', WHERE WHAT IT READS IS OF BULK AT MOST 1048576: true; the input reads as it did. -/
def meetTurnsUptoRow : OpenClaim := { program := "ytagokdeflnkplaa", sum := "0a3d943cf956acb0089eb434f809f80f7923183d8b4db3017d62efbfd3dbc913", func := "snicket/snicketlaw09.MeetTurns", spec := "meetTurns", unfollowed := true, recurses := true, named := ["math/bits.divideError", "math/bits.overflowError"], apart := false, narrowed := true }
def MeetTurnsUptoSaid : Prop := meetTurnsUptoRow.holds Try.pinned (OpenSpec.upto meetTurnsSpec)

/-- 'snicketlaw09.MeetWhole', WHERE WHAT IT READS IS OF BULK AT MOST 1048576: true; the input reads as it did. -/
def meetWholeUptoRow : OpenClaim := { program := "ytagokdeflnkplaa", sum := "0a3d943cf956acb0089eb434f809f80f7923183d8b4db3017d62efbfd3dbc913", func := "snicket/snicketlaw09.MeetWhole", spec := "meetWhole", unfollowed := true, recurses := true, named := ["math/bits.divideError", "math/bits.overflowError"], apart := false, narrowed := true }
def MeetWholeUptoSaid : Prop := meetWholeUptoRow.holds Try.pinned (OpenSpec.upto meetWholeSpec)

/-- 'snicketlaw51.DiffOf', WHERE WHAT IT READS IS OF BULK AT MOST 1048576: true; the input reads as it did. -/
def diffOfUptoRow : OpenClaim := { program := "ytagokdeflnkplaa", sum := "0a3d943cf956acb0089eb434f809f80f7923183d8b4db3017d62efbfd3dbc913", func := "snicket/snicketlaw51.DiffOf", spec := "diffOf", inPlace := ["slices.overlaps[snicket/api.Road]"], unfollowed := true, recurses := true, apart := false, narrowed := true }
def DiffOfUptoSaid : Prop := diffOfUptoRow.holds Try.pinned (OpenSpec.upto diffOfSpec)

/-- 'snicketlaw51.DiffApplies', WHERE WHAT IT READS IS OF BULK AT MOST 1048576: true; the input reads as it did. -/
def diffAppliesUptoRow : OpenClaim := { program := "ytagokdeflnkplaa", sum := "0a3d943cf956acb0089eb434f809f80f7923183d8b4db3017d62efbfd3dbc913", func := "snicket/snicketlaw51.DiffApplies", spec := "diffApplies", inPlace := ["slices.overlaps[snicket/api.Road]"], unfollowed := true, recurses := true, apart := false, narrowed := true }
def DiffAppliesUptoSaid : Prop := diffAppliesUptoRow.holds Try.pinned (OpenSpec.upto diffAppliesSpec)

/-- 'snicketlaw26.BidiCosts', WHERE WHAT IT READS IS OF BULK AT MOST 1048576: true; the input reads as it did. -/
def bidiCostsUptoRow : OpenClaim := { program := "ytagokdeflnkplaa", sum := "0a3d943cf956acb0089eb434f809f80f7923183d8b4db3017d62efbfd3dbc913", func := "snicket/snicketlaw26.BidiCosts", spec := "bidiCosts", unfollowed := true, recurses := true, apart := false, narrowed := true }
def BidiCostsUptoSaid : Prop := bidiCostsUptoRow.holds Try.pinned (OpenSpec.upto bidiCostsSpec)

end Rows
end Go.Proofs.Ytagokdeflnkplaa

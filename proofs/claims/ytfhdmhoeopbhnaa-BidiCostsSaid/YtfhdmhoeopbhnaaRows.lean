/-
  No cell of these rows narrows 'for every input' (looked for: loops, veiled, ifaces, maps, wideKeys, modest, calm, conditions, laid).
  DERIVED. THE GIVEN ROWS OF THIS SEAT. 7 by the template 'for every input the law returns true; each argument reads behind the call as it read before'; 0 by the template 'total and deterministic' (their statements: YtfhdmhoeopbhnaaTotals.lean).
  GIVEN WITH THE SEED: the statements are not yours to turn. If you find one false, say at which input.
  Laid BY PROGRAM, IN A SANDBOX (cutbox-rows.mjs): the forced cells as the released guide's own fill.sh prints them over the translation 84a39d61bf1600e0… (all of the seat's roots in one cut). By AI agents, Wed Nov 11 2026. No macro, syntax, notation, axiom, sorry.
-/
import Derived.Test.YtfhdmhoeopbhnaaChecked
import GoSem.Claim
import GoSem.ClaimJoined
import GoSem.ClaimMapViews
import Derived.JoinedTies
import Derived.KernelRfl
namespace Go.Proofs.Ytfhdmhoeopbhnaa
/- THE CELL 'sum', in the pinned program and in every row, IS THE sha256 OF THE DUMP (.gsa) THAT YtfhdmhoeopbhnaaProg.lean LOADS. Nothing in Lean hashes anything: it is a label: what it is worth is what the hold of that sum in a sandbox is worth. -/
noncomputable def Try.pinned : Pinned := { name := "ytfhdmhoeopbhnaa", sum := "84a39d61bf1600e07270deb9e198d6a69b79193fe2e5c16e4990fbbdd0b568e2", checked := Try.checked }
namespace Rows
def none {H : Type} : Left H := { results := [], args := [] }

/-- 'snicketlaw25.HierLooks': WHATEVER THE INPUT: true; the input reads as it did. -/
def hierLooksSpec : ChangeSpec := { name := "hierLooks", fn := fun _ => fun
  | [d1, d2, d3] => { results := [.lit (.bool true)], args := [d1, d2, d3] }
  | _ => none }
def hierLooksRow : OpenClaim := { program := "ytfhdmhoeopbhnaa", sum := "84a39d61bf1600e07270deb9e198d6a69b79193fe2e5c16e4990fbbdd0b568e2", func := "snicket/snicketlaw25.HierLooks", spec := "hierLooks", unfollowed := true, recurses := true, plainKeys := false, apart := false }
def HierLooksSaid : Prop := hierLooksRow.holds Try.pinned (OpenSpec.ofChange hierLooksSpec)

/-- ITS FALSE NEIGHBOUR: 'it returns false'. Refute it at one input. -/
def hierLooksWrong : ChangeSpec := { name := "hierLooks", fn := fun _ => fun
  | [d1, d2, d3] => { results := [.lit (.bool false)], args := [d1, d2, d3] }
  | _ => none }
def HierLooksWrongFalsely : Prop := hierLooksRow.holds Try.pinned (OpenSpec.ofChange hierLooksWrong)

/-- 'snicketlaw27.UnpackLinks': WHATEVER THE INPUT: true; the input reads as it did. -/
def unpackLinksSpec : ChangeSpec := { name := "unpackLinks", fn := fun _ => fun
  | [d1, d2, d3] => { results := [.lit (.bool true)], args := [d1, d2, d3] }
  | _ => none }
def unpackLinksRow : OpenClaim := { program := "ytfhdmhoeopbhnaa", sum := "84a39d61bf1600e07270deb9e198d6a69b79193fe2e5c16e4990fbbdd0b568e2", func := "snicket/snicketlaw27.UnpackLinks", spec := "unpackLinks", unfollowed := true, recurses := true, plainKeys := false, apart := false }
def UnpackLinksSaid : Prop := unpackLinksRow.holds Try.pinned (OpenSpec.ofChange unpackLinksSpec)

/-- ITS FALSE NEIGHBOUR: 'it returns false'. Refute it at one input. -/
def unpackLinksWrong : ChangeSpec := { name := "unpackLinks", fn := fun _ => fun
  | [d1, d2, d3] => { results := [.lit (.bool false)], args := [d1, d2, d3] }
  | _ => none }
def UnpackLinksWrongFalsely : Prop := unpackLinksRow.holds Try.pinned (OpenSpec.ofChange unpackLinksWrong)

/-- 'snicketlaw26.BidiCosts': WHATEVER THE INPUT: true; the input reads as it did. -/
def bidiCostsSpec : ChangeSpec := { name := "bidiCosts", fn := fun _ => fun
  | [d1, d2] => { results := [.lit (.bool true)], args := [d1, d2] }
  | _ => none }
def bidiCostsRow : OpenClaim := { program := "ytfhdmhoeopbhnaa", sum := "84a39d61bf1600e07270deb9e198d6a69b79193fe2e5c16e4990fbbdd0b568e2", func := "snicket/snicketlaw26.BidiCosts", spec := "bidiCosts", unfollowed := true, recurses := true, plainKeys := false, apart := false }
def BidiCostsSaid : Prop := bidiCostsRow.holds Try.pinned (OpenSpec.ofChange bidiCostsSpec)

/-- ITS FALSE NEIGHBOUR: 'it returns false'. Refute it at one input. -/
def bidiCostsWrong : ChangeSpec := { name := "bidiCosts", fn := fun _ => fun
  | [d1, d2] => { results := [.lit (.bool false)], args := [d1, d2] }
  | _ => none }
def BidiCostsWrongFalsely : Prop := bidiCostsRow.holds Try.pinned (OpenSpec.ofChange bidiCostsWrong)

/-- 'snicketlaw12.BoxesOrder': WHATEVER THE INPUT: true; the input reads as it did. -/
def boxesOrderSpec : ChangeSpec := { name := "boxesOrder", fn := fun _ => fun
  | [d] => { results := [.lit (.bool true)], args := [d] }
  | _ => none }
def boxesOrderRow : OpenClaim := { program := "ytfhdmhoeopbhnaa", sum := "84a39d61bf1600e07270deb9e198d6a69b79193fe2e5c16e4990fbbdd0b568e2", func := "snicket/snicketlaw12.BoxesOrder", spec := "boxesOrder", unfollowed := true, recurses := true, plainKeys := false, apart := false }
def BoxesOrderSaid : Prop := boxesOrderRow.holds Try.pinned (OpenSpec.ofChange boxesOrderSpec)

/-- ITS FALSE NEIGHBOUR: 'it returns false'. Refute it at one input. -/
def boxesOrderWrong : ChangeSpec := { name := "boxesOrder", fn := fun _ => fun
  | [d] => { results := [.lit (.bool false)], args := [d] }
  | _ => none }
def BoxesOrderWrongFalsely : Prop := boxesOrderRow.holds Try.pinned (OpenSpec.ofChange boxesOrderWrong)

/-- 'snicketlaw12.BoxesPairs': WHATEVER THE INPUT: true; the input reads as it did. -/
def boxesPairsSpec : ChangeSpec := { name := "boxesPairs", fn := fun _ => fun
  | [d] => { results := [.lit (.bool true)], args := [d] }
  | _ => none }
def boxesPairsRow : OpenClaim := { program := "ytfhdmhoeopbhnaa", sum := "84a39d61bf1600e07270deb9e198d6a69b79193fe2e5c16e4990fbbdd0b568e2", func := "snicket/snicketlaw12.BoxesPairs", spec := "boxesPairs", unfollowed := true, recurses := true, plainKeys := false, apart := false }
def BoxesPairsSaid : Prop := boxesPairsRow.holds Try.pinned (OpenSpec.ofChange boxesPairsSpec)

/-- ITS FALSE NEIGHBOUR: 'it returns false'. Refute it at one input. -/
def boxesPairsWrong : ChangeSpec := { name := "boxesPairs", fn := fun _ => fun
  | [d] => { results := [.lit (.bool false)], args := [d] }
  | _ => none }
def BoxesPairsWrongFalsely : Prop := boxesPairsRow.holds Try.pinned (OpenSpec.ofChange boxesPairsWrong)

/-- 'snicketlaw09.MeetOf': WHATEVER THE INPUT: true; the input reads as it did. -/
def meetOfSpec : ChangeSpec := { name := "meetOf", fn := fun _ => fun
  | [d1, d2] => { results := [.lit (.bool true)], args := [d1, d2] }
  | _ => none }
def meetOfRow : OpenClaim := { program := "ytfhdmhoeopbhnaa", sum := "84a39d61bf1600e07270deb9e198d6a69b79193fe2e5c16e4990fbbdd0b568e2", func := "snicket/snicketlaw09.MeetOf", spec := "meetOf", unfollowed := true, recurses := true, named := ["math/bits.divideError", "math/bits.overflowError"], plainKeys := false, apart := false }
def MeetOfSaid : Prop := meetOfRow.holds Try.pinned (OpenSpec.ofChange meetOfSpec)

/-- ITS FALSE NEIGHBOUR: 'it returns false'. Refute it at one input. -/
def meetOfWrong : ChangeSpec := { name := "meetOf", fn := fun _ => fun
  | [d1, d2] => { results := [.lit (.bool false)], args := [d1, d2] }
  | _ => none }
def MeetOfWrongFalsely : Prop := meetOfRow.holds Try.pinned (OpenSpec.ofChange meetOfWrong)

/-- 'snicketlaw09.MeetWhole': WHATEVER THE INPUT: true; the input reads as it did. -/
def meetWholeSpec : ChangeSpec := { name := "meetWhole", fn := fun _ => fun
  | [d1, d2, d3] => { results := [.lit (.bool true)], args := [d1, d2, d3] }
  | _ => none }
def meetWholeRow : OpenClaim := { program := "ytfhdmhoeopbhnaa", sum := "84a39d61bf1600e07270deb9e198d6a69b79193fe2e5c16e4990fbbdd0b568e2", func := "snicket/snicketlaw09.MeetWhole", spec := "meetWhole", unfollowed := true, recurses := true, named := ["math/bits.divideError", "math/bits.overflowError"], plainKeys := false, apart := false }
def MeetWholeSaid : Prop := meetWholeRow.holds Try.pinned (OpenSpec.ofChange meetWholeSpec)

/-- ITS FALSE NEIGHBOUR: 'it returns false'. Refute it at one input. -/
def meetWholeWrong : ChangeSpec := { name := "meetWhole", fn := fun _ => fun
  | [d1, d2, d3] => { results := [.lit (.bool false)], args := [d1, d2, d3] }
  | _ => none }
def MeetWholeWrongFalsely : Prop := meetWholeRow.holds Try.pinned (OpenSpec.ofChange meetWholeWrong)

/- THE SECOND FORM. 'bulk': how many values and letters a reading holds, each counted each time it is reached (what is shared counts as often as it is met; a slice's spare places count too). A statement '..UptoSaid' is the law's where the arguments, and the package variables that the reading takes, are together of bulk at most 1048576: NARROWER than '..Said'. Prove '..Said' where nothing that the law and all that it calls make is longer than what came in: it says more and counts as full. Else prove '..UptoSaid'. A law counts once. -/
mutual
def uptoBulk {H : Type} : DataW H → Nat
  | .lit (.string bytes) => bytes.length + 1
  | .lit _ => 1
  | .nil => 1
  | .ptr d => uptoBulk d + 1
  | .slice elems spare => uptoBulkAll elems + uptoBulkAll spare + 1
  | .agg parts => uptoBulkAll parts + 1
  | .iface _ d => uptoBulk d + 1
  | .map entries => uptoBulkEntries entries + 1
  | .held _ => 1
def uptoBulkAll {H : Type} : List (DataW H) → Nat
  | [] => 0
  | d :: r => uptoBulk d + uptoBulkAll r
def uptoBulkEntries {H : Type} : List (Lit × DataW H) → Nat
  | [] => 0
  | x :: r => uptoBulkEntry x + uptoBulkEntries r
def uptoBulkEntry {H : Type} : Lit × DataW H → Nat
  | (.string bytes, d) => bytes.length + uptoBulk d + 1
  | (_, d) => uptoBulk d + 1
 end
def uptoSmall : (H : Type) → List (DataW H) → Bool := fun _ ds => decide (uptoBulkAll ds ≤ 1048576)
def OpenSpec.upto (s : _root_.Go.ChangeSpec) : _root_.Go.OpenSpec := { _root_.Go.OpenSpec.ofChange s with cond := some uptoSmall }

/-- 'snicketlaw25.HierLooks', WHERE WHAT IT READS IS OF BULK AT MOST 1048576: true; the input reads as it did. -/
def hierLooksUptoRow : OpenClaim := { program := "ytfhdmhoeopbhnaa", sum := "84a39d61bf1600e07270deb9e198d6a69b79193fe2e5c16e4990fbbdd0b568e2", func := "snicket/snicketlaw25.HierLooks", spec := "hierLooks", unfollowed := true, recurses := true, plainKeys := false, apart := false, narrowed := true }
def HierLooksUptoSaid : Prop := hierLooksUptoRow.holds Try.pinned (OpenSpec.upto hierLooksSpec)

/-- 'snicketlaw27.UnpackLinks', WHERE WHAT IT READS IS OF BULK AT MOST 1048576: true; the input reads as it did. -/
def unpackLinksUptoRow : OpenClaim := { program := "ytfhdmhoeopbhnaa", sum := "84a39d61bf1600e07270deb9e198d6a69b79193fe2e5c16e4990fbbdd0b568e2", func := "snicket/snicketlaw27.UnpackLinks", spec := "unpackLinks", unfollowed := true, recurses := true, plainKeys := false, apart := false, narrowed := true }
def UnpackLinksUptoSaid : Prop := unpackLinksUptoRow.holds Try.pinned (OpenSpec.upto unpackLinksSpec)

/-- 'snicketlaw26.BidiCosts', WHERE WHAT IT READS IS OF BULK AT MOST 1048576: true; the input reads as it did. -/
def bidiCostsUptoRow : OpenClaim := { program := "ytfhdmhoeopbhnaa", sum := "84a39d61bf1600e07270deb9e198d6a69b79193fe2e5c16e4990fbbdd0b568e2", func := "snicket/snicketlaw26.BidiCosts", spec := "bidiCosts", unfollowed := true, recurses := true, plainKeys := false, apart := false, narrowed := true }
def BidiCostsUptoSaid : Prop := bidiCostsUptoRow.holds Try.pinned (OpenSpec.upto bidiCostsSpec)

/-- 'snicketlaw12.BoxesOrder', WHERE WHAT IT READS IS OF BULK AT MOST 1048576: true; the input reads as it did. -/
def boxesOrderUptoRow : OpenClaim := { program := "ytfhdmhoeopbhnaa", sum := "84a39d61bf1600e07270deb9e198d6a69b79193fe2e5c16e4990fbbdd0b568e2", func := "snicket/snicketlaw12.BoxesOrder", spec := "boxesOrder", unfollowed := true, recurses := true, plainKeys := false, apart := false, narrowed := true }
def BoxesOrderUptoSaid : Prop := boxesOrderUptoRow.holds Try.pinned (OpenSpec.upto boxesOrderSpec)

/-- 'snicketlaw12.BoxesPairs', WHERE WHAT IT READS IS OF BULK AT MOST 1048576: true; the input reads as it did. -/
def boxesPairsUptoRow : OpenClaim := { program := "ytfhdmhoeopbhnaa", sum := "84a39d61bf1600e07270deb9e198d6a69b79193fe2e5c16e4990fbbdd0b568e2", func := "snicket/snicketlaw12.BoxesPairs", spec := "boxesPairs", unfollowed := true, recurses := true, plainKeys := false, apart := false, narrowed := true }
def BoxesPairsUptoSaid : Prop := boxesPairsUptoRow.holds Try.pinned (OpenSpec.upto boxesPairsSpec)

/-- 'snicketlaw09.MeetOf', WHERE WHAT IT READS IS OF BULK AT MOST 1048576: true; the input reads as it did. -/
def meetOfUptoRow : OpenClaim := { program := "ytfhdmhoeopbhnaa", sum := "84a39d61bf1600e07270deb9e198d6a69b79193fe2e5c16e4990fbbdd0b568e2", func := "snicket/snicketlaw09.MeetOf", spec := "meetOf", unfollowed := true, recurses := true, named := ["math/bits.divideError", "math/bits.overflowError"], plainKeys := false, apart := false, narrowed := true }
def MeetOfUptoSaid : Prop := meetOfUptoRow.holds Try.pinned (OpenSpec.upto meetOfSpec)

/-- 'snicketlaw09.MeetWhole', WHERE WHAT IT READS IS OF BULK AT MOST 1048576: true; the input reads as it did. -/
def meetWholeUptoRow : OpenClaim := { program := "ytfhdmhoeopbhnaa", sum := "84a39d61bf1600e07270deb9e198d6a69b79193fe2e5c16e4990fbbdd0b568e2", func := "snicket/snicketlaw09.MeetWhole", spec := "meetWhole", unfollowed := true, recurses := true, named := ["math/bits.divideError", "math/bits.overflowError"], plainKeys := false, apart := false, narrowed := true }
def MeetWholeUptoSaid : Prop := meetWholeUptoRow.holds Try.pinned (OpenSpec.upto meetWholeSpec)

end Rows
end Go.Proofs.Ytfhdmhoeopbhnaa

/-
  No cell of these rows narrows 'for every input' (looked for: loops, veiled, ifaces, maps, wideKeys, modest, calm, conditions, laid).
  DERIVED. THE GIVEN ROWS OF THIS SEAT. 6 by the template 'for every input the law returns true; each argument reads behind the call as it read before'; 0 by the template 'total and deterministic' (their statements: YtcomiiakkhafpaaGreatTotals.lean).
  GIVEN WITH THE SEED: the statements are not yours to turn. If you find one false, say at which input.
  Laid BY PROGRAM, IN A SANDBOX (cutbox-rows.mjs): the forced cells as the released guide's own fill.sh prints them over the translation 0887e130ec098b24… (all of the seat's roots in one cut). By AI agents, Wed Nov 11 2026. No macro, syntax, notation, axiom, sorry.
-/
import Derived.Test.YtcomiiakkhafpaaGreatChecked
import GoSem.Claim
import GoSem.ClaimJoined
import GoSem.ClaimMapViews
import Derived.JoinedTies
import Derived.KernelRfl
namespace Go.Proofs.YtcomiiakkhafpaaGreat
/- THE CELL 'sum', in the pinned program and in every row, IS THE sha256 OF THE DUMP (.gsa) THAT YtcomiiakkhafpaaGreatProg.lean LOADS. Nothing in Lean hashes anything: it is a label: what it is worth is what the hold of that sum in a sandbox is worth. -/
noncomputable def Tryz.pinned : Pinned := { name := "ytcomiiakkhafpaagreat", sum := "0887e130ec098b241a732a357e62ea40dfb62370857bf6b2606fe5992c28b8d2", checked := Tryz.checked }
namespace Rows
def none {H : Type} : Left H := { results := [], args := [] }

/-- 'snicketlaw10.SpotSorts': WHATEVER THE INPUT: true; the input reads as it did. -/
def spotSortsSpec : ChangeSpec := { name := "spotSorts", fn := fun _ => fun
  | [d] => { results := [.lit (.bool true)], args := [d] }
  | _ => none }
def spotSortsRow : OpenClaim := { program := "ytcomiiakkhafpaagreat", sum := "0887e130ec098b241a732a357e62ea40dfb62370857bf6b2606fe5992c28b8d2", func := "snicket/snicketlaw10.SpotSorts", spec := "spotSorts", inPlace := ["math/bits.Add64", "math/bits.Sub64", "internal/abi.NoEscape", "internal/bytealg.MakeNoZero"], unfollowed := true, recurses := true, named := ["math/bits.divideError", "math/bits.overflowError"], apart := false }
def SpotSortsSaid : Prop := spotSortsRow.holds Tryz.pinned (OpenSpec.ofChange spotSortsSpec)

/-- ITS FALSE NEIGHBOUR: 'it returns false'. Refute it at one input. -/
def spotSortsWrong : ChangeSpec := { name := "spotSorts", fn := fun _ => fun
  | [d] => { results := [.lit (.bool false)], args := [d] }
  | _ => none }
def SpotSortsWrongFalsely : Prop := spotSortsRow.holds Tryz.pinned (OpenSpec.ofChange spotSortsWrong)

/-- 'snicketlaw10.SpotAlong': WHATEVER THE INPUT: true; the input reads as it did. -/
def spotAlongSpec : ChangeSpec := { name := "spotAlong", fn := fun _ => fun
  | [d1, d2, d3] => { results := [.lit (.bool true)], args := [d1, d2, d3] }
  | _ => none }
def spotAlongRow : OpenClaim := { program := "ytcomiiakkhafpaagreat", sum := "0887e130ec098b241a732a357e62ea40dfb62370857bf6b2606fe5992c28b8d2", func := "snicket/snicketlaw10.SpotAlong", spec := "spotAlong", inPlace := ["math/bits.Add64", "math/bits.Sub64", "internal/abi.NoEscape", "internal/bytealg.MakeNoZero"], unfollowed := true, recurses := true, named := ["math/bits.divideError", "math/bits.overflowError"], apart := false }
def SpotAlongSaid : Prop := spotAlongRow.holds Tryz.pinned (OpenSpec.ofChange spotAlongSpec)

/-- ITS FALSE NEIGHBOUR: 'it returns false'. Refute it at one input. -/
def spotAlongWrong : ChangeSpec := { name := "spotAlong", fn := fun _ => fun
  | [d1, d2, d3] => { results := [.lit (.bool false)], args := [d1, d2, d3] }
  | _ => none }
def SpotAlongWrongFalsely : Prop := spotAlongRow.holds Tryz.pinned (OpenSpec.ofChange spotAlongWrong)

/-- 'snicketlaw13.CutsAt': WHATEVER THE INPUT: true; the input reads as it did. -/
def cutsAtSpec : ChangeSpec := { name := "cutsAt", fn := fun _ => fun
  | [d1, d2, d3] => { results := [.lit (.bool true)], args := [d1, d2, d3] }
  | _ => none }
def cutsAtRow : OpenClaim := { program := "ytcomiiakkhafpaagreat", sum := "0887e130ec098b241a732a357e62ea40dfb62370857bf6b2606fe5992c28b8d2", func := "snicket/snicketlaw13.CutsAt", spec := "cutsAt", inPlace := ["math/bits.Add64", "math/bits.Sub64"], unfollowed := true, recurses := true, named := ["math/bits.divideError", "math/bits.overflowError"], apart := false }
def CutsAtSaid : Prop := cutsAtRow.holds Tryz.pinned (OpenSpec.ofChange cutsAtSpec)

/-- ITS FALSE NEIGHBOUR: 'it returns false'. Refute it at one input. -/
def cutsAtWrong : ChangeSpec := { name := "cutsAt", fn := fun _ => fun
  | [d1, d2, d3] => { results := [.lit (.bool false)], args := [d1, d2, d3] }
  | _ => none }
def CutsAtWrongFalsely : Prop := cutsAtRow.holds Tryz.pinned (OpenSpec.ofChange cutsAtWrong)

/-- 'snicketlaw13.CutsShare': WHATEVER THE INPUT: true; the input reads as it did. -/
def cutsShareSpec : ChangeSpec := { name := "cutsShare", fn := fun _ => fun
  | [d] => { results := [.lit (.bool true)], args := [d] }
  | _ => none }
def cutsShareRow : OpenClaim := { program := "ytcomiiakkhafpaagreat", sum := "0887e130ec098b241a732a357e62ea40dfb62370857bf6b2606fe5992c28b8d2", func := "snicket/snicketlaw13.CutsShare", spec := "cutsShare", inPlace := ["math/bits.Add64", "math/bits.Sub64"], unfollowed := true, recurses := true, named := ["math/bits.divideError", "math/bits.overflowError"], apart := false }
def CutsShareSaid : Prop := cutsShareRow.holds Tryz.pinned (OpenSpec.ofChange cutsShareSpec)

/-- ITS FALSE NEIGHBOUR: 'it returns false'. Refute it at one input. -/
def cutsShareWrong : ChangeSpec := { name := "cutsShare", fn := fun _ => fun
  | [d] => { results := [.lit (.bool false)], args := [d] }
  | _ => none }
def CutsShareWrongFalsely : Prop := cutsShareRow.holds Tryz.pinned (OpenSpec.ofChange cutsShareWrong)

/-- 'snicketlaw13.CutsTurned': WHATEVER THE INPUT: true; the input reads as it did. -/
def cutsTurnedSpec : ChangeSpec := { name := "cutsTurned", fn := fun _ => fun
  | [d1, d2] => { results := [.lit (.bool true)], args := [d1, d2] }
  | _ => none }
def cutsTurnedRow : OpenClaim := { program := "ytcomiiakkhafpaagreat", sum := "0887e130ec098b241a732a357e62ea40dfb62370857bf6b2606fe5992c28b8d2", func := "snicket/snicketlaw13.CutsTurned", spec := "cutsTurned", inPlace := ["math/bits.Add64", "math/bits.Sub64"], unfollowed := true, recurses := true, named := ["math/bits.divideError", "math/bits.overflowError"], apart := false }
def CutsTurnedSaid : Prop := cutsTurnedRow.holds Tryz.pinned (OpenSpec.ofChange cutsTurnedSpec)

/-- ITS FALSE NEIGHBOUR: 'it returns false'. Refute it at one input. -/
def cutsTurnedWrong : ChangeSpec := { name := "cutsTurned", fn := fun _ => fun
  | [d1, d2] => { results := [.lit (.bool false)], args := [d1, d2] }
  | _ => none }
def CutsTurnedWrongFalsely : Prop := cutsTurnedRow.holds Tryz.pinned (OpenSpec.ofChange cutsTurnedWrong)

/-- 'snicketlaw13.CutsOf': WHATEVER THE INPUT: true; the input reads as it did. -/
def cutsOfSpec : ChangeSpec := { name := "cutsOf", fn := fun _ => fun
  | [d1, d2] => { results := [.lit (.bool true)], args := [d1, d2] }
  | _ => none }
def cutsOfRow : OpenClaim := { program := "ytcomiiakkhafpaagreat", sum := "0887e130ec098b241a732a357e62ea40dfb62370857bf6b2606fe5992c28b8d2", func := "snicket/snicketlaw13.CutsOf", spec := "cutsOf", inPlace := ["math/bits.Add64", "math/bits.Sub64"], unfollowed := true, recurses := true, named := ["math/bits.divideError", "math/bits.overflowError"], apart := false }
def CutsOfSaid : Prop := cutsOfRow.holds Tryz.pinned (OpenSpec.ofChange cutsOfSpec)

/-- ITS FALSE NEIGHBOUR: 'it returns false'. Refute it at one input. -/
def cutsOfWrong : ChangeSpec := { name := "cutsOf", fn := fun _ => fun
  | [d1, d2] => { results := [.lit (.bool false)], args := [d1, d2] }
  | _ => none }
def CutsOfWrongFalsely : Prop := cutsOfRow.holds Tryz.pinned (OpenSpec.ofChange cutsOfWrong)

/- THE SECOND FORM. 'bulk': how many values and letters a reading holds, each counted each time it is reached (what is shared counts as often as it is met; a slice's spare places count too). A statement '..UptoSaid' is the law's where the arguments, and the package variables that the reading takes, are together of bulk at most 1048576: NARROWER than '..Said'. Prove '..Said' where nothing that the law and all that it calls make is longer than what came in: it says more and counts as full. Else prove '..UptoSaid'. A law counts once. -/
mutual
def uptoBulk {H : Type} : DataW H → Nat
  | .lit (.string bytes) => bytes.length + 1
  | .lit _ => 1
  | .nil => 1
  | .ptr d => uptoBulk d + 1
  | .slice elems spare => uptoBulkAll elems + uptoBulkAll spare + 1
  | .agg parts => uptoBulkAll parts + 1
  | .iface _ d => uptoBulk d + 1
  | .map entries => uptoBulkEntries entries + 1
  | .held _ => 1
def uptoBulkAll {H : Type} : List (DataW H) → Nat
  | [] => 0
  | d :: r => uptoBulk d + uptoBulkAll r
def uptoBulkEntries {H : Type} : List (Lit × DataW H) → Nat
  | [] => 0
  | x :: r => uptoBulkEntry x + uptoBulkEntries r
def uptoBulkEntry {H : Type} : Lit × DataW H → Nat
  | (.string bytes, d) => bytes.length + uptoBulk d + 1
  | (_, d) => uptoBulk d + 1
 end
def uptoSmall : (H : Type) → List (DataW H) → Bool := fun _ ds => decide (uptoBulkAll ds ≤ 1048576)
def OpenSpec.upto (s : _root_.Go.ChangeSpec) : _root_.Go.OpenSpec := { _root_.Go.OpenSpec.ofChange s with cond := some uptoSmall }

/-- 'snicketlaw10.SpotSorts', WHERE WHAT IT READS IS OF BULK AT MOST 1048576: true; the input reads as it did. -/
def spotSortsUptoRow : OpenClaim := { program := "ytcomiiakkhafpaagreat", sum := "0887e130ec098b241a732a357e62ea40dfb62370857bf6b2606fe5992c28b8d2", func := "snicket/snicketlaw10.SpotSorts", spec := "spotSorts", inPlace := ["math/bits.Add64", "math/bits.Sub64", "internal/abi.NoEscape", "internal/bytealg.MakeNoZero"], unfollowed := true, recurses := true, named := ["math/bits.divideError", "math/bits.overflowError"], apart := false, narrowed := true }
def SpotSortsUptoSaid : Prop := spotSortsUptoRow.holds Tryz.pinned (OpenSpec.upto spotSortsSpec)

/-- 'snicketlaw10.SpotAlong', WHERE WHAT IT READS IS OF BULK AT MOST 1048576: true; the input reads as it did. -/
def spotAlongUptoRow : OpenClaim := { program := "ytcomiiakkhafpaagreat", sum := "0887e130ec098b241a732a357e62ea40dfb62370857bf6b2606fe5992c28b8d2", func := "snicket/snicketlaw10.SpotAlong", spec := "spotAlong", inPlace := ["math/bits.Add64", "math/bits.Sub64", "internal/abi.NoEscape", "internal/bytealg.MakeNoZero"], unfollowed := true, recurses := true, named := ["math/bits.divideError", "math/bits.overflowError"], apart := false, narrowed := true }
def SpotAlongUptoSaid : Prop := spotAlongUptoRow.holds Tryz.pinned (OpenSpec.upto spotAlongSpec)

/-- 'snicketlaw13.CutsAt', WHERE WHAT IT READS IS OF BULK AT MOST 1048576: true; the input reads as it did. -/
def cutsAtUptoRow : OpenClaim := { program := "ytcomiiakkhafpaagreat", sum := "0887e130ec098b241a732a357e62ea40dfb62370857bf6b2606fe5992c28b8d2", func := "snicket/snicketlaw13.CutsAt", spec := "cutsAt", inPlace := ["math/bits.Add64", "math/bits.Sub64"], unfollowed := true, recurses := true, named := ["math/bits.divideError", "math/bits.overflowError"], apart := false, narrowed := true }
def CutsAtUptoSaid : Prop := cutsAtUptoRow.holds Tryz.pinned (OpenSpec.upto cutsAtSpec)

/-- 'snicketlaw13.CutsShare', WHERE WHAT IT READS IS OF BULK AT MOST 1048576: true; the input reads as it did. -/
def cutsShareUptoRow : OpenClaim := { program := "ytcomiiakkhafpaagreat", sum := "0887e130ec098b241a732a357e62ea40dfb62370857bf6b2606fe5992c28b8d2", func := "snicket/snicketlaw13.CutsShare", spec := "cutsShare", inPlace := ["math/bits.Add64", "math/bits.Sub64"], unfollowed := true, recurses := true, named := ["math/bits.divideError", "math/bits.overflowError"], apart := false, narrowed := true }
def CutsShareUptoSaid : Prop := cutsShareUptoRow.holds Tryz.pinned (OpenSpec.upto cutsShareSpec)

/-- 'snicketlaw13.CutsTurned', WHERE WHAT IT READS IS OF BULK AT MOST 1048576: true; the input reads as it did. -/
def cutsTurnedUptoRow : OpenClaim := { program := "ytcomiiakkhafpaagreat", sum := "0887e130ec098b241a732a357e62ea40dfb62370857bf6b2606fe5992c28b8d2", func := "snicket/snicketlaw13.CutsTurned", spec := "cutsTurned", inPlace := ["math/bits.Add64", "math/bits.Sub64"], unfollowed := true, recurses := true, named := ["math/bits.divideError", "math/bits.overflowError"], apart := false, narrowed := true }
def CutsTurnedUptoSaid : Prop := cutsTurnedUptoRow.holds Tryz.pinned (OpenSpec.upto cutsTurnedSpec)

/-- 'snicketlaw13.CutsOf', WHERE WHAT IT READS IS OF BULK AT MOST 1048576: true; the input reads as it did. -/
def cutsOfUptoRow : OpenClaim := { program := "ytcomiiakkhafpaagreat", sum := "0887e130ec098b241a732a357e62ea40dfb62370857bf6b2606fe5992c28b8d2", func := "snicket/snicketlaw13.CutsOf", spec := "cutsOf", inPlace := ["math/bits.Add64", "math/bits.Sub64"], unfollowed := true, recurses := true, named := ["math/bits.divideError", "math/bits.overflowError"], apart := false, narrowed := true }
def CutsOfUptoSaid : Prop := cutsOfUptoRow.holds Tryz.pinned (OpenSpec.upto cutsOfSpec)

end Rows
end Go.Proofs.YtcomiiakkhafpaaGreat

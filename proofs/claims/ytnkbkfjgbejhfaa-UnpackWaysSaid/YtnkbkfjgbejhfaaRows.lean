/-
  No cell of these rows narrows 'for every input' (looked for: loops, veiled, ifaces, maps, wideKeys, modest, calm, conditions, laid).
  DERIVED. THE GIVEN ROWS OF THIS SEAT. 4 by the template 'for every input the law returns true; each argument reads behind the call as it read before'; 0 by the template 'total and deterministic' (their statements: YtnkbkfjgbejhfaaTotals.lean).
  GIVEN WITH THE SEED: the statements are not yours to turn. If you find one false, say at which input.
  Laid BY PROGRAM, IN A SANDBOX (cutbox-rows.mjs): the forced cells as the released guide's own fill.sh prints them over the translation bd4c3f4f1bff7129… (all of the seat's roots in one cut). By AI agents, Wed Nov 11 2026. No macro, syntax, notation, axiom, sorry.
-/
import Derived.Test.YtnkbkfjgbejhfaaChecked
import GoSem.Claim
import GoSem.ClaimJoined
import GoSem.ClaimMapViews
import Derived.JoinedTies
import Derived.KernelRfl
namespace Go.Proofs.Ytnkbkfjgbejhfaa
/- THE CELL 'sum', in the pinned program and in every row, IS THE sha256 OF THE DUMP (.gsa) THAT YtnkbkfjgbejhfaaProg.lean LOADS. Nothing in Lean hashes anything: it is a label: what it is worth is what the hold of that sum in a sandbox is worth. -/
noncomputable def Try.pinned : Pinned := { name := "ytnkbkfjgbejhfaa", sum := "bd4c3f4f1bff71293c06d29259cb7f92df06b043e56f522c8c085b2d0b1dde0b", checked := Try.checked }
namespace Rows
def none {H : Type} : Left H := { results := [], args := [] }

/-- 'snicketlaw24.BuildKeeps': WHATEVER THE INPUT: true; the input reads as it did. -/
def buildKeepsSpec : ChangeSpec := { name := "buildKeeps", fn := fun _ => fun
  | [d] => { results := [.lit (.bool true)], args := [d] }
  | _ => none }
def buildKeepsRow : OpenClaim := { program := "ytnkbkfjgbejhfaa", sum := "bd4c3f4f1bff71293c06d29259cb7f92df06b043e56f522c8c085b2d0b1dde0b", func := "snicket/snicketlaw24.BuildKeeps", spec := "buildKeeps", unfollowed := true, recurses := true, plainKeys := false, apart := false }
def BuildKeepsSaid : Prop := buildKeepsRow.holds Try.pinned (OpenSpec.ofChange buildKeepsSpec)

/-- ITS FALSE NEIGHBOUR: 'it returns false'. Refute it at one input. -/
def buildKeepsWrong : ChangeSpec := { name := "buildKeeps", fn := fun _ => fun
  | [d] => { results := [.lit (.bool false)], args := [d] }
  | _ => none }
def BuildKeepsWrongFalsely : Prop := buildKeepsRow.holds Try.pinned (OpenSpec.ofChange buildKeepsWrong)

/-- 'snicketlaw24.BuildSound': WHATEVER THE INPUT: true; the input reads as it did. -/
def buildSoundSpec : ChangeSpec := { name := "buildSound", fn := fun _ => fun
  | [d1, d2] => { results := [.lit (.bool true)], args := [d1, d2] }
  | _ => none }
def buildSoundRow : OpenClaim := { program := "ytnkbkfjgbejhfaa", sum := "bd4c3f4f1bff71293c06d29259cb7f92df06b043e56f522c8c085b2d0b1dde0b", func := "snicket/snicketlaw24.BuildSound", spec := "buildSound", unfollowed := true, recurses := true, plainKeys := false, apart := false }
def BuildSoundSaid : Prop := buildSoundRow.holds Try.pinned (OpenSpec.ofChange buildSoundSpec)

/-- ITS FALSE NEIGHBOUR: 'it returns false'. Refute it at one input. -/
def buildSoundWrong : ChangeSpec := { name := "buildSound", fn := fun _ => fun
  | [d1, d2] => { results := [.lit (.bool false)], args := [d1, d2] }
  | _ => none }
def BuildSoundWrongFalsely : Prop := buildSoundRow.holds Try.pinned (OpenSpec.ofChange buildSoundWrong)

/-- 'snicketlaw25.HierBuilt': WHATEVER THE INPUT: true; the input reads as it did. -/
def hierBuiltSpec : ChangeSpec := { name := "hierBuilt", fn := fun _ => fun
  | [d] => { results := [.lit (.bool true)], args := [d] }
  | _ => none }
def hierBuiltRow : OpenClaim := { program := "ytnkbkfjgbejhfaa", sum := "bd4c3f4f1bff71293c06d29259cb7f92df06b043e56f522c8c085b2d0b1dde0b", func := "snicket/snicketlaw25.HierBuilt", spec := "hierBuilt", unfollowed := true, recurses := true, plainKeys := false, apart := false }
def HierBuiltSaid : Prop := hierBuiltRow.holds Try.pinned (OpenSpec.ofChange hierBuiltSpec)

/-- ITS FALSE NEIGHBOUR: 'it returns false'. Refute it at one input. -/
def hierBuiltWrong : ChangeSpec := { name := "hierBuilt", fn := fun _ => fun
  | [d] => { results := [.lit (.bool false)], args := [d] }
  | _ => none }
def HierBuiltWrongFalsely : Prop := hierBuiltRow.holds Try.pinned (OpenSpec.ofChange hierBuiltWrong)

/-- 'snicketlaw27.UnpackWays': WHATEVER THE INPUT: true; the input reads as it did. -/
def unpackWaysSpec : ChangeSpec := { name := "unpackWays", fn := fun _ => fun
  | [d1, d2] => { results := [.lit (.bool true)], args := [d1, d2] }
  | _ => none }
def unpackWaysRow : OpenClaim := { program := "ytnkbkfjgbejhfaa", sum := "bd4c3f4f1bff71293c06d29259cb7f92df06b043e56f522c8c085b2d0b1dde0b", func := "snicket/snicketlaw27.UnpackWays", spec := "unpackWays", unfollowed := true, recurses := true, plainKeys := false, apart := false }
def UnpackWaysSaid : Prop := unpackWaysRow.holds Try.pinned (OpenSpec.ofChange unpackWaysSpec)

/-- ITS FALSE NEIGHBOUR: 'it returns false'. Refute it at one input. -/
def unpackWaysWrong : ChangeSpec := { name := "unpackWays", fn := fun _ => fun
  | [d1, d2] => { results := [.lit (.bool false)], args := [d1, d2] }
  | _ => none }
def UnpackWaysWrongFalsely : Prop := unpackWaysRow.holds Try.pinned (OpenSpec.ofChange unpackWaysWrong)

/- THE SECOND FORM. 'bulk': how many values and letters a reading holds, each counted each time it is reached (what is shared counts as often as it is met; a slice's spare places count too). A statement '..UptoSaid' is the law's where the arguments, and the package variables that the reading takes, are together of bulk at most 1048576: NARROWER than '..Said'. Prove '..Said' where nothing that the law and all that it calls make is longer than what came in: it says more and counts as full. Else prove '..UptoSaid'. A law counts once. -/
mutual
def uptoBulk {H : Type} : DataW H → Nat
  | .lit (.string bytes) => bytes.length + 1
  | .lit _ => 1
  | .nil => 1
  | .ptr d => uptoBulk d + 1
  | .slice elems spare => uptoBulkAll elems + uptoBulkAll spare + 1
  | .agg parts => uptoBulkAll parts + 1
  | .iface _ d => uptoBulk d + 1
  | .map entries => uptoBulkEntries entries + 1
  | .held _ => 1
def uptoBulkAll {H : Type} : List (DataW H) → Nat
  | [] => 0
  | d :: r => uptoBulk d + uptoBulkAll r
def uptoBulkEntries {H : Type} : List (Lit × DataW H) → Nat
  | [] => 0
  | x :: r => uptoBulkEntry x + uptoBulkEntries r
def uptoBulkEntry {H : Type} : Lit × DataW H → Nat
  | (.string bytes, d) => bytes.length + uptoBulk d + 1
  | (_, d) => uptoBulk d + 1
 end
def uptoSmall : (H : Type) → List (DataW H) → Bool := fun _ ds => decide (uptoBulkAll ds ≤ 1048576)
def OpenSpec.upto (s : _root_.Go.ChangeSpec) : _root_.Go.OpenSpec := { _root_.Go.OpenSpec.ofChange s with cond := some uptoSmall }

/-- 'snicketlaw24.BuildKeeps', WHERE WHAT IT READS IS OF BULK AT MOST 1048576: true; the input reads as it did. -/
def buildKeepsUptoRow : OpenClaim := { program := "ytnkbkfjgbejhfaa", sum := "bd4c3f4f1bff71293c06d29259cb7f92df06b043e56f522c8c085b2d0b1dde0b", func := "snicket/snicketlaw24.BuildKeeps", spec := "buildKeeps", unfollowed := true, recurses := true, plainKeys := false, apart := false, narrowed := true }
def BuildKeepsUptoSaid : Prop := buildKeepsUptoRow.holds Try.pinned (OpenSpec.upto buildKeepsSpec)

/-- 'snicketlaw24.BuildSound', WHERE WHAT IT READS IS OF BULK AT MOST 1048576: true; the input reads as it did. -/
def buildSoundUptoRow : OpenClaim := { program := "ytnkbkfjgbejhfaa", sum := "bd4c3f4f1bff71293c06d29259cb7f92df06b043e56f522c8c085b2d0b1dde0b", func := "snicket/snicketlaw24.BuildSound", spec := "buildSound", unfollowed := true, recurses := true, plainKeys := false, apart := false, narrowed := true }
def BuildSoundUptoSaid : Prop := buildSoundUptoRow.holds Try.pinned (OpenSpec.upto buildSoundSpec)

/-- 'snicketlaw25.HierBuilt', WHERE WHAT IT READS IS OF BULK AT MOST 1048576: true; the input reads as it did. -/
def hierBuiltUptoRow : OpenClaim := { program := "ytnkbkfjgbejhfaa", sum := "bd4c3f4f1bff71293c06d29259cb7f92df06b043e56f522c8c085b2d0b1dde0b", func := "snicket/snicketlaw25.HierBuilt", spec := "hierBuilt", unfollowed := true, recurses := true, plainKeys := false, apart := false, narrowed := true }
def HierBuiltUptoSaid : Prop := hierBuiltUptoRow.holds Try.pinned (OpenSpec.upto hierBuiltSpec)

/-- 'snicketlaw27.UnpackWays', WHERE WHAT IT READS IS OF BULK AT MOST 1048576: true; the input reads as it did. -/
def unpackWaysUptoRow : OpenClaim := { program := "ytnkbkfjgbejhfaa", sum := "bd4c3f4f1bff71293c06d29259cb7f92df06b043e56f522c8c085b2d0b1dde0b", func := "snicket/snicketlaw27.UnpackWays", spec := "unpackWays", unfollowed := true, recurses := true, plainKeys := false, apart := false, narrowed := true }
def UnpackWaysUptoSaid : Prop := unpackWaysUptoRow.holds Try.pinned (OpenSpec.upto unpackWaysSpec)

end Rows
end Go.Proofs.Ytnkbkfjgbejhfaa

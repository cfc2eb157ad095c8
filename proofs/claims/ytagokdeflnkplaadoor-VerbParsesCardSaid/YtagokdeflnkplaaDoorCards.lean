/-
  DERIVED. GIVEN WITH THE SEED: THE CARDS: each row of YtagokdeflnkplaaDoorRows.lean that lists a variable, with what it lists TIED to the program's text (the seventh form; the later family's looks); each row that meets fmt, with fmt's text TOLD by the authors' own Lean function (tested against real Go, not proved from fmt's source: count such statements apart). THE CARD IS WHAT COUNTS. Prove the row's statement (the work); the ties are given (YtagokdeflnkplaaDoorTie.lean); close each card by the builder's one call (the guide's Derived/Test/ToyasCard.lean, 'card_holds'). Laid BY PROGRAM, IN A SANDBOX (cutbox-door.mjs). By AI agents, Wed Nov 11 2026. No macro, syntax, notation, axiom, sorry.
-/
import Derived.Test.YtagokdeflnkplaaDoorRows
import GoSem.ClaimSeven
namespace Go.Proofs.YtagokdeflnkplaaDoor
namespace Rows

/-- THE TIED CARD OF 'snicketlaw40.ReplyParses'. -/
def replyParsesCard : Claim7 := { stood := { row := replyParsesRow, standIns := [], harness := (true, "016c63635be118af40c04eb5cad4572d5391b4a5bba001a3b7061f67a5d3a197"), looks := false }, kinds := [], alts := [], laidByText := true, laidKinds := [.data, .data, .data, .data, .pinned], laidTests := true, laidLooks := .later }
def ReplyParsesCardSaid : Prop := Claim7.holds Tryd.pinned (.plain (OpenSpec.ofChange replyParsesSpec)) replyParsesCard

/-- THE TIED CARD OF 'snicketlaw40.ReplyLines'. -/
def replyLinesCard : Claim7 := { stood := { row := replyLinesRow, standIns := [], harness := (true, "016c63635be118af40c04eb5cad4572d5391b4a5bba001a3b7061f67a5d3a197"), looks := false }, kinds := [], alts := [], laidByText := true, laidKinds := [.data, .data, .data, .data, .pinned], laidTests := true, laidLooks := .later }
def ReplyLinesCardSaid : Prop := Claim7.holds Tryd.pinned (.plain (OpenSpec.ofChange replyLinesSpec)) replyLinesCard

/-- THE TIED CARD OF 'snicketlaw53.PathTexts'. -/
def pathTextsCard : Claim7 := { stood := { row := pathTextsRow, standIns := [], harness := (true, "016c63635be118af40c04eb5cad4572d5391b4a5bba001a3b7061f67a5d3a197"), looks := false }, kinds := [], alts := [], laidByText := true, laidKinds := [.data, .data, .data, .data, .pinned], laidTests := true, laidLooks := .later }
def PathTextsCardSaid : Prop := Claim7.holds Tryd.pinned (.plain (OpenSpec.ofChange pathTextsSpec)) pathTextsCard

/-- THE TIED CARD OF 'snicketlaw53.PathParses'. -/
def pathParsesCard : Claim7 := { stood := { row := pathParsesRow, standIns := [], harness := (true, "016c63635be118af40c04eb5cad4572d5391b4a5bba001a3b7061f67a5d3a197"), looks := false }, kinds := [], alts := [], laidByText := true, laidKinds := [.data, .data, .data, .data, .pinned], laidTests := true, laidLooks := .later }
def PathParsesCardSaid : Prop := Claim7.holds Tryd.pinned (.plain (OpenSpec.ofChange pathParsesSpec)) pathParsesCard

/-- THE TIED CARD OF 'snicketlaw53.PathBack'. -/
def pathBackCard : Claim7 := { stood := { row := pathBackRow, standIns := [], harness := (true, "016c63635be118af40c04eb5cad4572d5391b4a5bba001a3b7061f67a5d3a197"), looks := false }, kinds := [], alts := [], laidByText := true, laidKinds := [.data, .data, .data, .data, .pinned], laidTests := true, laidLooks := .later }
def PathBackCardSaid : Prop := Claim7.holds Tryd.pinned (.plain (OpenSpec.ofChange pathBackSpec)) pathBackCard

/-- THE TIED CARD OF 'snicketlaw37.VerbParses'. -/
def verbParsesCard : Claim7 := { stood := { row := verbParsesRow, standIns := [], harness := (true, "016c63635be118af40c04eb5cad4572d5391b4a5bba001a3b7061f67a5d3a197"), looks := false }, kinds := [], alts := [], laidByText := true, laidKinds := [.data, .data, .data, .data, .pinned], laidTests := true, laidLooks := .later }
def VerbParsesCardSaid : Prop := Claim7.holds Tryd.pinned (.plain (OpenSpec.ofChange verbParsesSpec)) verbParsesCard

/-- THE TIED CARD OF 'snicketlaw37.VerbLines'. -/
def verbLinesCard : Claim7 := { stood := { row := verbLinesRow, standIns := [], harness := (true, "016c63635be118af40c04eb5cad4572d5391b4a5bba001a3b7061f67a5d3a197"), looks := false }, kinds := [], alts := [], laidByText := true, laidKinds := [.data, .data, .data, .data, .pinned], laidTests := true, laidLooks := .later }
def VerbLinesCardSaid : Prop := Claim7.holds Tryd.pinned (.plain (OpenSpec.ofChange verbLinesSpec)) verbLinesCard

/-- THE SECOND FORM's CARD OF 'snicketlaw40.ReplyParses'. -/
def replyParsesUptoCard : Claim7 := { stood := { row := replyParsesUptoRow, standIns := [], harness := (true, "016c63635be118af40c04eb5cad4572d5391b4a5bba001a3b7061f67a5d3a197"), looks := false }, kinds := [], alts := [], laidByText := true, laidKinds := [.data, .data, .data, .data, .pinned], laidTests := true, laidLooks := .later }
def ReplyParsesUptoCardSaid : Prop := Claim7.holds Tryd.pinned (.plain (OpenSpec.upto replyParsesSpec)) replyParsesUptoCard

/-- THE SECOND FORM's CARD OF 'snicketlaw40.ReplyLines'. -/
def replyLinesUptoCard : Claim7 := { stood := { row := replyLinesUptoRow, standIns := [], harness := (true, "016c63635be118af40c04eb5cad4572d5391b4a5bba001a3b7061f67a5d3a197"), looks := false }, kinds := [], alts := [], laidByText := true, laidKinds := [.data, .data, .data, .data, .pinned], laidTests := true, laidLooks := .later }
def ReplyLinesUptoCardSaid : Prop := Claim7.holds Tryd.pinned (.plain (OpenSpec.upto replyLinesSpec)) replyLinesUptoCard

/-- THE SECOND FORM's CARD OF 'snicketlaw53.PathTexts'. -/
def pathTextsUptoCard : Claim7 := { stood := { row := pathTextsUptoRow, standIns := [], harness := (true, "016c63635be118af40c04eb5cad4572d5391b4a5bba001a3b7061f67a5d3a197"), looks := false }, kinds := [], alts := [], laidByText := true, laidKinds := [.data, .data, .data, .data, .pinned], laidTests := true, laidLooks := .later }
def PathTextsUptoCardSaid : Prop := Claim7.holds Tryd.pinned (.plain (OpenSpec.upto pathTextsSpec)) pathTextsUptoCard

/-- THE SECOND FORM's CARD OF 'snicketlaw53.PathParses'. -/
def pathParsesUptoCard : Claim7 := { stood := { row := pathParsesUptoRow, standIns := [], harness := (true, "016c63635be118af40c04eb5cad4572d5391b4a5bba001a3b7061f67a5d3a197"), looks := false }, kinds := [], alts := [], laidByText := true, laidKinds := [.data, .data, .data, .data, .pinned], laidTests := true, laidLooks := .later }
def PathParsesUptoCardSaid : Prop := Claim7.holds Tryd.pinned (.plain (OpenSpec.upto pathParsesSpec)) pathParsesUptoCard

/-- THE SECOND FORM's CARD OF 'snicketlaw53.PathBack'. -/
def pathBackUptoCard : Claim7 := { stood := { row := pathBackUptoRow, standIns := [], harness := (true, "016c63635be118af40c04eb5cad4572d5391b4a5bba001a3b7061f67a5d3a197"), looks := false }, kinds := [], alts := [], laidByText := true, laidKinds := [.data, .data, .data, .data, .pinned], laidTests := true, laidLooks := .later }
def PathBackUptoCardSaid : Prop := Claim7.holds Tryd.pinned (.plain (OpenSpec.upto pathBackSpec)) pathBackUptoCard

/-- THE SECOND FORM's CARD OF 'snicketlaw37.VerbParses'. -/
def verbParsesUptoCard : Claim7 := { stood := { row := verbParsesUptoRow, standIns := [], harness := (true, "016c63635be118af40c04eb5cad4572d5391b4a5bba001a3b7061f67a5d3a197"), looks := false }, kinds := [], alts := [], laidByText := true, laidKinds := [.data, .data, .data, .data, .pinned], laidTests := true, laidLooks := .later }
def VerbParsesUptoCardSaid : Prop := Claim7.holds Tryd.pinned (.plain (OpenSpec.upto verbParsesSpec)) verbParsesUptoCard

/-- THE SECOND FORM's CARD OF 'snicketlaw37.VerbLines'. -/
def verbLinesUptoCard : Claim7 := { stood := { row := verbLinesUptoRow, standIns := [], harness := (true, "016c63635be118af40c04eb5cad4572d5391b4a5bba001a3b7061f67a5d3a197"), looks := false }, kinds := [], alts := [], laidByText := true, laidKinds := [.data, .data, .data, .data, .pinned], laidTests := true, laidLooks := .later }
def VerbLinesUptoCardSaid : Prop := Claim7.holds Tryd.pinned (.plain (OpenSpec.upto verbLinesSpec)) verbLinesUptoCard
end Rows
end Go.Proofs.YtagokdeflnkplaaDoor

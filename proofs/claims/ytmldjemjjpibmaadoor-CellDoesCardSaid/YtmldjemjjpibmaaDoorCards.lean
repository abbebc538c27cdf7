/-
  DERIVED. GIVEN WITH THE SEED: THE CARDS: each row of YtmldjemjjpibmaaDoorRows.lean that lists a variable, with what it lists TIED to the program's text (the seventh form; the later family's looks); each row that meets fmt, with fmt's text TOLD by the authors' own Lean function (tested against real Go, not proved from fmt's source: count such statements apart). THE CARD IS WHAT COUNTS. Prove the row's statement (the work); the ties are given (YtmldjemjjpibmaaDoorTie.lean); close each card by the builder's one call (the guide's Derived/Test/ToyasCard.lean, 'card_holds'). Laid BY PROGRAM, IN A SANDBOX (cutbox-door.mjs). By AI agents, Wed Nov 11 2026. No macro, syntax, notation, axiom, sorry.
-/
import Derived.Test.YtmldjemjjpibmaaDoorRows
import GoSem.ClaimSeven
namespace Go.Proofs.YtmldjemjjpibmaaDoor
namespace Rows

/-- THE TIED CARD OF 'cortegelaw12.CellDoes'. -/
def cellDoesCard : Claim7 := { stood := { row := cellDoesRow, standIns := [], harness := (true, "d6cfe27b670de9a3669ad1b3e432307ec548f5ec8a95c7f0886e20111b66f95a"), looks := false }, kinds := [], alts := [], laidByText := true, laidKinds := [.data, .data, .data], laidTests := true, laidLooks := .later }
def CellDoesCardSaid : Prop := Claim7.holds Tryd.pinned (.plain (OpenSpec.ofChange cellDoesSpec)) cellDoesCard

/-- THE TIED CARD OF 'cortegelaw12.CellForgets'. -/
def cellForgetsCard : Claim7 := { stood := { row := cellForgetsRow, standIns := [], harness := (true, "d6cfe27b670de9a3669ad1b3e432307ec548f5ec8a95c7f0886e20111b66f95a"), looks := false }, kinds := [], alts := [], laidByText := true, laidKinds := [.data, .data, .data], laidTests := true, laidLooks := .later }
def CellForgetsCardSaid : Prop := Claim7.holds Tryd.pinned (.plain (OpenSpec.ofChange cellForgetsSpec)) cellForgetsCard

/-- THE TIED CARD OF 'cortegelaw12.CellFolds'. -/
def cellFoldsCard : Claim7 := { stood := { row := cellFoldsRow, standIns := [], harness := (true, "d6cfe27b670de9a3669ad1b3e432307ec548f5ec8a95c7f0886e20111b66f95a"), looks := false }, kinds := [], alts := [], laidByText := true, laidKinds := [.data, .data, .data], laidTests := true, laidLooks := .later }
def CellFoldsCardSaid : Prop := Claim7.holds Tryd.pinned (.plain (OpenSpec.ofChange cellFoldsSpec)) cellFoldsCard

/-- THE SECOND FORM's CARD OF 'cortegelaw12.CellDoes'. -/
def cellDoesUptoCard : Claim7 := { stood := { row := cellDoesUptoRow, standIns := [], harness := (true, "d6cfe27b670de9a3669ad1b3e432307ec548f5ec8a95c7f0886e20111b66f95a"), looks := false }, kinds := [], alts := [], laidByText := true, laidKinds := [.data, .data, .data], laidTests := true, laidLooks := .later }
def CellDoesUptoCardSaid : Prop := Claim7.holds Tryd.pinned (.plain (OpenSpec.upto cellDoesSpec)) cellDoesUptoCard

/-- THE SECOND FORM's CARD OF 'cortegelaw12.CellForgets'. -/
def cellForgetsUptoCard : Claim7 := { stood := { row := cellForgetsUptoRow, standIns := [], harness := (true, "d6cfe27b670de9a3669ad1b3e432307ec548f5ec8a95c7f0886e20111b66f95a"), looks := false }, kinds := [], alts := [], laidByText := true, laidKinds := [.data, .data, .data], laidTests := true, laidLooks := .later }
def CellForgetsUptoCardSaid : Prop := Claim7.holds Tryd.pinned (.plain (OpenSpec.upto cellForgetsSpec)) cellForgetsUptoCard

/-- THE SECOND FORM's CARD OF 'cortegelaw12.CellFolds'. -/
def cellFoldsUptoCard : Claim7 := { stood := { row := cellFoldsUptoRow, standIns := [], harness := (true, "d6cfe27b670de9a3669ad1b3e432307ec548f5ec8a95c7f0886e20111b66f95a"), looks := false }, kinds := [], alts := [], laidByText := true, laidKinds := [.data, .data, .data], laidTests := true, laidLooks := .later }
def CellFoldsUptoCardSaid : Prop := Claim7.holds Tryd.pinned (.plain (OpenSpec.upto cellFoldsSpec)) cellFoldsUptoCard
end Rows
end Go.Proofs.YtmldjemjjpibmaaDoor

/-
  DERIVED. GIVEN WITH THE SEED: THE CARDS: each row of YthmijenlndnmcaaGreatDoorRows.lean that lists a variable, with what it lists TIED to the program's text (the seventh form; the later family's looks); each row that meets fmt, with fmt's text TOLD by the authors' own Lean function (tested against real Go, not proved from fmt's source: count such statements apart). THE CARD IS WHAT COUNTS. Prove the row's statement (the work); the ties are given (YthmijenlndnmcaaGreatDoorTie.lean); close each card by the builder's one call (the guide's Derived/Test/ToyasCard.lean, 'card_holds'). Laid BY PROGRAM, IN A SANDBOX (cutbox-door.mjs). By AI agents, Wed Nov 11 2026. No macro, syntax, notation, axiom, sorry.
-/
import Derived.Test.YthmijenlndnmcaaGreatDoorRows
import GoSem.ClaimSeven
namespace Go.Proofs.YthmijenlndnmcaaGreatDoor
namespace Rows

/-- THE TIED CARD OF 'millracelaw21.ShellTwo'. -/
def shellTwoCard : Claim7 := { stood := { row := shellTwoRow, standIns := [], harness := (true, "51dd5058864f9d6b37fdf0d6ff18e5447be04da3e029a34634251f2c6d6f63f4"), looks := false }, kinds := [], alts := [], laidByText := true, laidKinds := [.data, .pinned], laidTests := true, laidLooks := .later }
def ShellTwoCardSaid : Prop := Claim7.holds Tryz.pinned (.plain (OpenSpec.ofChange shellTwoSpec)) shellTwoCard

/-- THE TIED CARD OF 'millracelaw21.ShellParts'. -/
def shellPartsCard : Claim7 := { stood := { row := shellPartsRow, standIns := [], harness := (true, "51dd5058864f9d6b37fdf0d6ff18e5447be04da3e029a34634251f2c6d6f63f4"), looks := false }, kinds := [], alts := [], laidByText := true, laidKinds := [.data, .pinned], laidTests := true, laidLooks := .later }
def ShellPartsCardSaid : Prop := Claim7.holds Tryz.pinned (.plain (OpenSpec.ofChange shellPartsSpec)) shellPartsCard

/-- THE TIED CARD OF 'millracelaw21.ShellTurns'. -/
def shellTurnsCard : Claim7 := { stood := { row := shellTurnsRow, standIns := [], harness := (true, "51dd5058864f9d6b37fdf0d6ff18e5447be04da3e029a34634251f2c6d6f63f4"), looks := false }, kinds := [], alts := [], laidByText := true, laidKinds := [.data, .pinned], laidTests := true, laidLooks := .later }
def ShellTurnsCardSaid : Prop := Claim7.holds Tryz.pinned (.plain (OpenSpec.ofChange shellTurnsSpec)) shellTurnsCard

/-- THE TIED CARD OF 'millracelaw21.ShellOwn'. -/
def shellOwnCard : Claim7 := { stood := { row := shellOwnRow, standIns := [], harness := (true, "51dd5058864f9d6b37fdf0d6ff18e5447be04da3e029a34634251f2c6d6f63f4"), looks := false }, kinds := [], alts := [], laidByText := true, laidKinds := [.data, .pinned], laidTests := true, laidLooks := .later }
def ShellOwnCardSaid : Prop := Claim7.holds Tryz.pinned (.plain (OpenSpec.ofChange shellOwnSpec)) shellOwnCard

/-- THE TIED CARD OF 'millracelaw21.ShellPrints'. -/
def shellPrintsCard : Claim7 := { stood := { row := shellPrintsRow, standIns := [], harness := (true, "51dd5058864f9d6b37fdf0d6ff18e5447be04da3e029a34634251f2c6d6f63f4"), looks := false }, kinds := [], alts := [], laidByText := true, laidKinds := [.data, .pinned], laidTests := true, laidLooks := .later }
def ShellPrintsCardSaid : Prop := Claim7.holds Tryz.pinned (.plain (OpenSpec.ofChange shellPrintsSpec)) shellPrintsCard

/-- THE TIED CARD OF 'millracelaw21.ShellBack'. -/
def shellBackCard : Claim7 := { stood := { row := shellBackRow, standIns := [], harness := (true, "51dd5058864f9d6b37fdf0d6ff18e5447be04da3e029a34634251f2c6d6f63f4"), looks := false }, kinds := [], alts := [], laidByText := true, laidKinds := [.data, .pinned], laidTests := true, laidLooks := .later }
def ShellBackCardSaid : Prop := Claim7.holds Tryz.pinned (.plain (OpenSpec.ofChange shellBackSpec)) shellBackCard

/-- THE SECOND FORM's CARD OF 'millracelaw21.ShellTwo'. -/
def shellTwoUptoCard : Claim7 := { stood := { row := shellTwoUptoRow, standIns := [], harness := (true, "51dd5058864f9d6b37fdf0d6ff18e5447be04da3e029a34634251f2c6d6f63f4"), looks := false }, kinds := [], alts := [], laidByText := true, laidKinds := [.data, .pinned], laidTests := true, laidLooks := .later }
def ShellTwoUptoCardSaid : Prop := Claim7.holds Tryz.pinned (.plain (OpenSpec.upto shellTwoSpec)) shellTwoUptoCard

/-- THE SECOND FORM's CARD OF 'millracelaw21.ShellParts'. -/
def shellPartsUptoCard : Claim7 := { stood := { row := shellPartsUptoRow, standIns := [], harness := (true, "51dd5058864f9d6b37fdf0d6ff18e5447be04da3e029a34634251f2c6d6f63f4"), looks := false }, kinds := [], alts := [], laidByText := true, laidKinds := [.data, .pinned], laidTests := true, laidLooks := .later }
def ShellPartsUptoCardSaid : Prop := Claim7.holds Tryz.pinned (.plain (OpenSpec.upto shellPartsSpec)) shellPartsUptoCard

/-- THE SECOND FORM's CARD OF 'millracelaw21.ShellTurns'. -/
def shellTurnsUptoCard : Claim7 := { stood := { row := shellTurnsUptoRow, standIns := [], harness := (true, "51dd5058864f9d6b37fdf0d6ff18e5447be04da3e029a34634251f2c6d6f63f4"), looks := false }, kinds := [], alts := [], laidByText := true, laidKinds := [.data, .pinned], laidTests := true, laidLooks := .later }
def ShellTurnsUptoCardSaid : Prop := Claim7.holds Tryz.pinned (.plain (OpenSpec.upto shellTurnsSpec)) shellTurnsUptoCard

/-- THE SECOND FORM's CARD OF 'millracelaw21.ShellOwn'. -/
def shellOwnUptoCard : Claim7 := { stood := { row := shellOwnUptoRow, standIns := [], harness := (true, "51dd5058864f9d6b37fdf0d6ff18e5447be04da3e029a34634251f2c6d6f63f4"), looks := false }, kinds := [], alts := [], laidByText := true, laidKinds := [.data, .pinned], laidTests := true, laidLooks := .later }
def ShellOwnUptoCardSaid : Prop := Claim7.holds Tryz.pinned (.plain (OpenSpec.upto shellOwnSpec)) shellOwnUptoCard

/-- THE SECOND FORM's CARD OF 'millracelaw21.ShellPrints'. -/
def shellPrintsUptoCard : Claim7 := { stood := { row := shellPrintsUptoRow, standIns := [], harness := (true, "51dd5058864f9d6b37fdf0d6ff18e5447be04da3e029a34634251f2c6d6f63f4"), looks := false }, kinds := [], alts := [], laidByText := true, laidKinds := [.data, .pinned], laidTests := true, laidLooks := .later }
def ShellPrintsUptoCardSaid : Prop := Claim7.holds Tryz.pinned (.plain (OpenSpec.upto shellPrintsSpec)) shellPrintsUptoCard

/-- THE SECOND FORM's CARD OF 'millracelaw21.ShellBack'. -/
def shellBackUptoCard : Claim7 := { stood := { row := shellBackUptoRow, standIns := [], harness := (true, "51dd5058864f9d6b37fdf0d6ff18e5447be04da3e029a34634251f2c6d6f63f4"), looks := false }, kinds := [], alts := [], laidByText := true, laidKinds := [.data, .pinned], laidTests := true, laidLooks := .later }
def ShellBackUptoCardSaid : Prop := Claim7.holds Tryz.pinned (.plain (OpenSpec.upto shellBackSpec)) shellBackUptoCard
end Rows
end Go.Proofs.YthmijenlndnmcaaGreatDoor

/-
  DERIVED. GIVEN WITH THE SEED: THE CARDS: each row of YtbggmdgeanoelaaDoorRows.lean that lists a variable, with what it lists TIED to the program's text (the seventh form; the later family's looks); each row that meets fmt, with fmt's text TOLD by the authors' own Lean function (tested against real Go, not proved from fmt's source: count such statements apart). THE CARD IS WHAT COUNTS. Prove the row's statement (the work); the ties are given (YtbggmdgeanoelaaDoorTie.lean); close each card by the builder's one call (the guide's Derived/Test/ToyasCard.lean, 'card_holds'). Laid BY PROGRAM, IN A SANDBOX (cutbox-door.mjs). By AI agents, Wed Nov 11 2026. No macro, syntax, notation, axiom, sorry.
-/
import Derived.Test.YtbggmdgeanoelaaDoorRows
import GoSem.ClaimSeven
namespace Go.Proofs.YtbggmdgeanoelaaDoor
namespace Rows

/-- THE TIED CARD OF 'millracelaw02.FaultsTells'. -/
def faultsTellsCard : Claim7 := { stood := { row := faultsTellsRow, standIns := [], harness := (true, "bfb9a64e3170a27d49acae6cf7cfcb24a4f5977c7ef0038038e7ee40edd46d92"), looks := false }, kinds := [], alts := [], laidByText := true, laidKinds := [.data, .pinned], laidTests := true, laidLooks := .later }
def FaultsTellsCardSaid : Prop := Claim7.holds Tryd.pinned (.plain (OpenSpec.ofChange faultsTellsSpec)) faultsTellsCard

/-- THE TIED CARD OF 'millracelaw02.FaultsBack'. -/
def faultsBackCard : Claim7 := { stood := { row := faultsBackRow, standIns := [], harness := (true, "bfb9a64e3170a27d49acae6cf7cfcb24a4f5977c7ef0038038e7ee40edd46d92"), looks := false }, kinds := [], alts := [], laidByText := true, laidKinds := [.data, .pinned], laidTests := true, laidLooks := .later }
def FaultsBackCardSaid : Prop := Claim7.holds Tryd.pinned (.plain (OpenSpec.ofChange faultsBackSpec)) faultsBackCard

/-- THE SECOND FORM's CARD OF 'millracelaw02.FaultsTells'. -/
def faultsTellsUptoCard : Claim7 := { stood := { row := faultsTellsUptoRow, standIns := [], harness := (true, "bfb9a64e3170a27d49acae6cf7cfcb24a4f5977c7ef0038038e7ee40edd46d92"), looks := false }, kinds := [], alts := [], laidByText := true, laidKinds := [.data, .pinned], laidTests := true, laidLooks := .later }
def FaultsTellsUptoCardSaid : Prop := Claim7.holds Tryd.pinned (.plain (OpenSpec.upto faultsTellsSpec)) faultsTellsUptoCard

/-- THE SECOND FORM's CARD OF 'millracelaw02.FaultsBack'. -/
def faultsBackUptoCard : Claim7 := { stood := { row := faultsBackUptoRow, standIns := [], harness := (true, "bfb9a64e3170a27d49acae6cf7cfcb24a4f5977c7ef0038038e7ee40edd46d92"), looks := false }, kinds := [], alts := [], laidByText := true, laidKinds := [.data, .pinned], laidTests := true, laidLooks := .later }
def FaultsBackUptoCardSaid : Prop := Claim7.holds Tryd.pinned (.plain (OpenSpec.upto faultsBackSpec)) faultsBackUptoCard
end Rows
end Go.Proofs.YtbggmdgeanoelaaDoor

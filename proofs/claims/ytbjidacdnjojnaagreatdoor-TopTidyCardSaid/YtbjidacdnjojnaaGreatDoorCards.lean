/-
  DERIVED. GIVEN WITH THE SEED: THE CARDS: each row of YtbjidacdnjojnaaGreatDoorRows.lean that lists a variable, with what it lists TIED to the program's text (the seventh form; the later family's looks); each row that meets fmt, with fmt's text TOLD by the authors' own Lean function (tested against real Go, not proved from fmt's source: count such statements apart). THE CARD IS WHAT COUNTS. Prove the row's statement (the work); the ties are given (YtbjidacdnjojnaaGreatDoorTie.lean); close each card by the builder's one call (the guide's Derived/Test/ToyasCard.lean, 'card_holds'). Laid BY PROGRAM, IN A SANDBOX (cutbox-door.mjs). By AI agents, Wed Nov 11 2026. No macro, syntax, notation, axiom, sorry.
-/
import Derived.Test.YtbjidacdnjojnaaGreatDoorRows
import GoSem.ClaimSeven
namespace Go.Proofs.YtbjidacdnjojnaaGreatDoor
namespace Rows

/-- THE TIED CARD OF 'quirtop.TopAgain'. -/
def topAgainCard : Claim7 := { stood := { row := topAgainRow, standIns := [], harness := (true, "843512326b5c4f6d652838620b47072379d04d2c502330c0e5a7ee784215328f"), looks := false }, kinds := [], alts := [], laidByText := true, laidKinds := [.data, .pinned], laidTests := true, laidLooks := .later }
def TopAgainCardSaid : Prop := Claim7.holds Tryz.pinned (.plain (OpenSpec.ofChange topAgainSpec)) topAgainCard

/-- THE TIED CARD OF 'quirtop.TopTidy'. -/
def topTidyCard : Claim7 := { stood := { row := topTidyRow, standIns := [], harness := (true, "843512326b5c4f6d652838620b47072379d04d2c502330c0e5a7ee784215328f"), looks := false }, kinds := [], alts := [], laidByText := true, laidKinds := [.data, .pinned], laidTests := true, laidLooks := .later }
def TopTidyCardSaid : Prop := Claim7.holds Tryz.pinned (.plain (OpenSpec.ofChange topTidySpec)) topTidyCard

/-- THE SECOND FORM's CARD OF 'quirtop.TopAgain'. -/
def topAgainUptoCard : Claim7 := { stood := { row := topAgainUptoRow, standIns := [], harness := (true, "843512326b5c4f6d652838620b47072379d04d2c502330c0e5a7ee784215328f"), looks := false }, kinds := [], alts := [], laidByText := true, laidKinds := [.data, .pinned], laidTests := true, laidLooks := .later }
def TopAgainUptoCardSaid : Prop := Claim7.holds Tryz.pinned (.plain (OpenSpec.upto topAgainSpec)) topAgainUptoCard

/-- THE SECOND FORM's CARD OF 'quirtop.TopTidy'. -/
def topTidyUptoCard : Claim7 := { stood := { row := topTidyUptoRow, standIns := [], harness := (true, "843512326b5c4f6d652838620b47072379d04d2c502330c0e5a7ee784215328f"), looks := false }, kinds := [], alts := [], laidByText := true, laidKinds := [.data, .pinned], laidTests := true, laidLooks := .later }
def TopTidyUptoCardSaid : Prop := Claim7.holds Tryz.pinned (.plain (OpenSpec.upto topTidySpec)) topTidyUptoCard
end Rows
end Go.Proofs.YtbjidacdnjojnaaGreatDoor

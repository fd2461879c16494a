/-
  DERIVED. GIVEN WITH THE SEED: THE CARDS: each row of YtkbgcmfldfbcgaaGreatDoorRows.lean that lists a variable, with what it lists TIED to the program's text (the seventh form; the later family's looks); each row that meets fmt, with fmt's text TOLD by the authors' own Lean function (tested against real Go, not proved from fmt's source: count such statements apart). THE CARD IS WHAT COUNTS. Prove the row's statement (the work); the ties are given (YtkbgcmfldfbcgaaGreatDoorTie.lean); close each card by the builder's one call (the guide's Derived/Test/ToyasCard.lean, 'card_holds'). Laid BY PROGRAM, IN A SANDBOX (cutbox-door.mjs). By AI agents, Wed Nov 11 2026. No macro, syntax, notation, axiom, sorry.
-/
import Derived.Test.YtkbgcmfldfbcgaaGreatDoorRows
import GoSem.ClaimSeven
namespace Go.Proofs.YtkbgcmfldfbcgaaGreatDoor
namespace Rows

/-- THE TIED CARD OF 'sabretachelaw26.RecordAny'. -/
def recordAnyCard : Claim7 := { stood := { row := recordAnyRow, standIns := [], harness := (true, "444adc48b325ad6d6044ba1840a0fd102adfbcda317e624e686fe7dba4d49856"), looks := true }, kinds := [], alts := [], laidByText := true, laidKinds := [.data, .data, .data, .data, .sentinel, .sentinel, .pinned], laidTests := true, laidLooks := .later }
def RecordAnyCardSaid : Prop := Claim7.holds Tryz.pinned (.plain (OpenSpec.ofChange recordAnySpec)) recordAnyCard

/-- THE TIED CARD OF 'sabretachelaw26.RecordBack'. -/
def recordBackCard : Claim7 := { stood := { row := recordBackRow, standIns := [], harness := (true, "444adc48b325ad6d6044ba1840a0fd102adfbcda317e624e686fe7dba4d49856"), looks := true }, kinds := [], alts := [], laidByText := true, laidKinds := [.data, .data, .data, .data, .sentinel, .sentinel, .pinned], laidTests := true, laidLooks := .later }
def RecordBackCardSaid : Prop := Claim7.holds Tryz.pinned (.plain (OpenSpec.ofChange recordBackSpec)) recordBackCard

/-- THE SECOND FORM's CARD OF 'sabretachelaw26.RecordAny'. -/
def recordAnyUptoCard : Claim7 := { stood := { row := recordAnyUptoRow, standIns := [], harness := (true, "444adc48b325ad6d6044ba1840a0fd102adfbcda317e624e686fe7dba4d49856"), looks := true }, kinds := [], alts := [], laidByText := true, laidKinds := [.data, .data, .data, .data, .sentinel, .sentinel, .pinned], laidTests := true, laidLooks := .later }
def RecordAnyUptoCardSaid : Prop := Claim7.holds Tryz.pinned (.plain (OpenSpec.upto recordAnySpec)) recordAnyUptoCard

/-- THE SECOND FORM's CARD OF 'sabretachelaw26.RecordBack'. -/
def recordBackUptoCard : Claim7 := { stood := { row := recordBackUptoRow, standIns := [], harness := (true, "444adc48b325ad6d6044ba1840a0fd102adfbcda317e624e686fe7dba4d49856"), looks := true }, kinds := [], alts := [], laidByText := true, laidKinds := [.data, .data, .data, .data, .sentinel, .sentinel, .pinned], laidTests := true, laidLooks := .later }
def RecordBackUptoCardSaid : Prop := Claim7.holds Tryz.pinned (.plain (OpenSpec.upto recordBackSpec)) recordBackUptoCard
end Rows
end Go.Proofs.YtkbgcmfldfbcgaaGreatDoor

/-
  DERIVED. GIVEN WITH THE SEED: THE CARDS: each row of YtjigckibbjfkmaaGreatDoorRows.lean that lists a variable, with what it lists TIED to the program's text (the seventh form; the later family's looks); each row that meets fmt, with fmt's text TOLD by the authors' own Lean function (tested against real Go, not proved from fmt's source: count such statements apart). THE CARD IS WHAT COUNTS. Prove the row's statement (the work); the ties are given (YtjigckibbjfkmaaGreatDoorTie.lean); close each card by the builder's one call (the guide's Derived/Test/ToyasCard.lean, 'card_holds'). Laid BY PROGRAM, IN A SANDBOX (cutbox-door.mjs). By AI agents, Wed Nov 11 2026. No macro, syntax, notation, axiom, sorry.
-/
import Derived.Test.YtjigckibbjfkmaaGreatDoorRows
import GoSem.ClaimSeven
namespace Go.Proofs.YtjigckibbjfkmaaGreatDoor
namespace Rows

/-- THE TIED CARD OF 'sabretachelaw33.AttrBack'. -/
def attrBackCard : Claim7 := { stood := { row := attrBackRow, standIns := [], harness := (true, "f77abfbae590e5c413c8fe117ef10d7e871a078ad6aef12c268694a272cee938"), looks := true }, kinds := [], alts := [], laidByText := true, laidKinds := [.data, .data, .data, .data, .sentinel, .sentinel, .pinned], laidTests := true, laidLooks := .later }
def AttrBackCardSaid : Prop := Claim7.holds Tryz.pinned (.plain (OpenSpec.ofChange attrBackSpec)) attrBackCard

/-- THE TIED CARD OF 'sabretachelaw33.AttrAny'. -/
def attrAnyCard : Claim7 := { stood := { row := attrAnyRow, standIns := [], harness := (true, "f77abfbae590e5c413c8fe117ef10d7e871a078ad6aef12c268694a272cee938"), looks := true }, kinds := [], alts := [], laidByText := true, laidKinds := [.data, .data, .data, .data, .sentinel, .sentinel, .pinned], laidTests := true, laidLooks := .later }
def AttrAnyCardSaid : Prop := Claim7.holds Tryz.pinned (.plain (OpenSpec.ofChange attrAnySpec)) attrAnyCard

/-- THE TIED CARD OF 'sabretachelaw33.AttrNames'. -/
def attrNamesCard : Claim7 := { stood := { row := attrNamesRow, standIns := [], harness := (true, "f77abfbae590e5c413c8fe117ef10d7e871a078ad6aef12c268694a272cee938"), looks := true }, kinds := [], alts := [], laidByText := true, laidKinds := [.data, .data, .data, .data, .sentinel, .sentinel, .pinned], laidTests := true, laidLooks := .later }
def AttrNamesCardSaid : Prop := Claim7.holds Tryz.pinned (.plain (OpenSpec.ofChange attrNamesSpec)) attrNamesCard

/-- THE SECOND FORM's CARD OF 'sabretachelaw33.AttrBack'. -/
def attrBackUptoCard : Claim7 := { stood := { row := attrBackUptoRow, standIns := [], harness := (true, "f77abfbae590e5c413c8fe117ef10d7e871a078ad6aef12c268694a272cee938"), looks := true }, kinds := [], alts := [], laidByText := true, laidKinds := [.data, .data, .data, .data, .sentinel, .sentinel, .pinned], laidTests := true, laidLooks := .later }
def AttrBackUptoCardSaid : Prop := Claim7.holds Tryz.pinned (.plain (OpenSpec.upto attrBackSpec)) attrBackUptoCard

/-- THE SECOND FORM's CARD OF 'sabretachelaw33.AttrAny'. -/
def attrAnyUptoCard : Claim7 := { stood := { row := attrAnyUptoRow, standIns := [], harness := (true, "f77abfbae590e5c413c8fe117ef10d7e871a078ad6aef12c268694a272cee938"), looks := true }, kinds := [], alts := [], laidByText := true, laidKinds := [.data, .data, .data, .data, .sentinel, .sentinel, .pinned], laidTests := true, laidLooks := .later }
def AttrAnyUptoCardSaid : Prop := Claim7.holds Tryz.pinned (.plain (OpenSpec.upto attrAnySpec)) attrAnyUptoCard

/-- THE SECOND FORM's CARD OF 'sabretachelaw33.AttrNames'. -/
def attrNamesUptoCard : Claim7 := { stood := { row := attrNamesUptoRow, standIns := [], harness := (true, "f77abfbae590e5c413c8fe117ef10d7e871a078ad6aef12c268694a272cee938"), looks := true }, kinds := [], alts := [], laidByText := true, laidKinds := [.data, .data, .data, .data, .sentinel, .sentinel, .pinned], laidTests := true, laidLooks := .later }
def AttrNamesUptoCardSaid : Prop := Claim7.holds Tryz.pinned (.plain (OpenSpec.upto attrNamesSpec)) attrNamesUptoCard
end Rows
end Go.Proofs.YtjigckibbjfkmaaGreatDoor

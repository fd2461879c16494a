/-
  DERIVED. GIVEN WITH THE SEED: THE CARDS: each row of YtjoilddfmalnjaaDoorRows.lean that lists a variable, with what it lists TIED to the program's text (the seventh form; the later family's looks); each row that meets fmt, with fmt's text TOLD by the authors' own Lean function (tested against real Go, not proved from fmt's source: count such statements apart). THE CARD IS WHAT COUNTS. Prove the row's statement (the work); the ties are given (YtjoilddfmalnjaaDoorTie.lean); close each card by the builder's one call (the guide's Derived/Test/ToyasCard.lean, 'card_holds'). Laid BY PROGRAM, IN A SANDBOX (cutbox-door.mjs). By AI agents, Wed Nov 11 2026. No macro, syntax, notation, axiom, sorry.
-/
import Derived.Test.YtjoilddfmalnjaaDoorRows
import GoSem.ClaimSeven
namespace Go.Proofs.YtjoilddfmalnjaaDoor
namespace Rows

/-- THE TIED CARD OF 'sabretachelaw25.Base64Back'. -/
def base64BackCard : Claim7 := { stood := { row := base64BackRow, standIns := [], harness := (true, "db387955303471e93ea36b2aaeba02fb904b15eb9ecac52a0921bc3b0e8179d7"), looks := false }, kinds := [], alts := [], laidByText := true, laidKinds := [.data, .pinned], laidTests := true, laidLooks := .later }
def Base64BackCardSaid : Prop := Claim7.holds Tryd.pinned (.plain (OpenSpec.ofChange base64BackSpec)) base64BackCard

/-- THE TIED CARD OF 'sabretachelaw25.Base64Any'. -/
def base64AnyCard : Claim7 := { stood := { row := base64AnyRow, standIns := [], harness := (true, "db387955303471e93ea36b2aaeba02fb904b15eb9ecac52a0921bc3b0e8179d7"), looks := false }, kinds := [], alts := [], laidByText := true, laidKinds := [.data, .pinned], laidTests := true, laidLooks := .later }
def Base64AnyCardSaid : Prop := Claim7.holds Tryd.pinned (.plain (OpenSpec.ofChange base64AnySpec)) base64AnyCard

/-- THE TIED CARD OF 'sabretachelaw25.Base64Sizes'. -/
def base64SizesCard : Claim7 := { stood := { row := base64SizesRow, standIns := [], harness := (true, "db387955303471e93ea36b2aaeba02fb904b15eb9ecac52a0921bc3b0e8179d7"), looks := false }, kinds := [], alts := [], laidByText := true, laidKinds := [.data, .pinned], laidTests := true, laidLooks := .later }
def Base64SizesCardSaid : Prop := Claim7.holds Tryd.pinned (.plain (OpenSpec.ofChange base64SizesSpec)) base64SizesCard

/-- THE SECOND FORM's CARD OF 'sabretachelaw25.Base64Back'. -/
def base64BackUptoCard : Claim7 := { stood := { row := base64BackUptoRow, standIns := [], harness := (true, "db387955303471e93ea36b2aaeba02fb904b15eb9ecac52a0921bc3b0e8179d7"), looks := false }, kinds := [], alts := [], laidByText := true, laidKinds := [.data, .pinned], laidTests := true, laidLooks := .later }
def Base64BackUptoCardSaid : Prop := Claim7.holds Tryd.pinned (.plain (OpenSpec.upto base64BackSpec)) base64BackUptoCard

/-- THE SECOND FORM's CARD OF 'sabretachelaw25.Base64Any'. -/
def base64AnyUptoCard : Claim7 := { stood := { row := base64AnyUptoRow, standIns := [], harness := (true, "db387955303471e93ea36b2aaeba02fb904b15eb9ecac52a0921bc3b0e8179d7"), looks := false }, kinds := [], alts := [], laidByText := true, laidKinds := [.data, .pinned], laidTests := true, laidLooks := .later }
def Base64AnyUptoCardSaid : Prop := Claim7.holds Tryd.pinned (.plain (OpenSpec.upto base64AnySpec)) base64AnyUptoCard

/-- THE SECOND FORM's CARD OF 'sabretachelaw25.Base64Sizes'. -/
def base64SizesUptoCard : Claim7 := { stood := { row := base64SizesUptoRow, standIns := [], harness := (true, "db387955303471e93ea36b2aaeba02fb904b15eb9ecac52a0921bc3b0e8179d7"), looks := false }, kinds := [], alts := [], laidByText := true, laidKinds := [.data, .pinned], laidTests := true, laidLooks := .later }
def Base64SizesUptoCardSaid : Prop := Claim7.holds Tryd.pinned (.plain (OpenSpec.upto base64SizesSpec)) base64SizesUptoCard
end Rows
end Go.Proofs.YtjoilddfmalnjaaDoor

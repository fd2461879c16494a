/-
  No cell of these rows narrows 'for every input' (looked for: loops, veiled, ifaces, maps, wideKeys, modest, calm, conditions, laid).
  DERIVED. THE GIVEN ROWS OF THIS SEAT. 6 by the template 'for every input the law returns true; each argument reads behind the call as it read before'; 0 by the template 'total and deterministic' (their statements: YtekblfcmmkipgaaTotals.lean).
  GIVEN WITH THE SEED: the statements are not yours to turn. If you find one false, say at which input.
  Laid BY PROGRAM, IN A SANDBOX (cutbox-rows.mjs): the forced cells as the released guide's own fill.sh prints them over the translation c6bcb86247e17735… (all of the seat's roots in one cut). By AI agents, Wed Nov 11 2026. No macro, syntax, notation, axiom, sorry.
-/
import Derived.Test.YtekblfcmmkipgaaChecked
import GoSem.Claim
import GoSem.ClaimJoined
import GoSem.ClaimMapViews
import Derived.JoinedTies
import Derived.KernelRfl
namespace Go.Proofs.Ytekblfcmmkipgaa
/- THE CELL 'sum', in the pinned program and in every row, IS THE sha256 OF THE DUMP (.gsa) THAT YtekblfcmmkipgaaProg.lean LOADS. Nothing in Lean hashes anything: it is a label: what it is worth is what the hold of that sum in a sandbox is worth. -/
noncomputable def Try.pinned : Pinned := { name := "ytekblfcmmkipgaa", sum := "c6bcb86247e1773564e4e1b23e15376672428d179bf9c1e600805e9d00b74613", checked := Try.checked }
namespace Rows
def none {H : Type} : Left H := { results := [], args := [] }

/-- 'sabretachelaw24.ParamsNames': WHATEVER THE INPUT: true; the input reads as it did. -/
def paramsNamesSpec : ChangeSpec := { name := "paramsNames", fn := fun _ => fun
  | [d1, d2] => { results := [.lit (.bool true)], args := [d1, d2] }
  | _ => none }
def paramsNamesRow : OpenClaim := { program := "ytekblfcmmkipgaa", sum := "c6bcb86247e1773564e4e1b23e15376672428d179bf9c1e600805e9d00b74613", func := "sabretache/sabretachelaw24.ParamsNames", spec := "paramsNames", apart := false }
def ParamsNamesSaid : Prop := paramsNamesRow.holds Try.pinned (OpenSpec.ofChange paramsNamesSpec)

/-- ITS FALSE NEIGHBOUR: 'it returns false'. Refute it at one input. -/
def paramsNamesWrong : ChangeSpec := { name := "paramsNames", fn := fun _ => fun
  | [d1, d2] => { results := [.lit (.bool false)], args := [d1, d2] }
  | _ => none }
def ParamsNamesWrongFalsely : Prop := paramsNamesRow.holds Try.pinned (OpenSpec.ofChange paramsNamesWrong)

/-- 'sabretachelaw24.ParamsNumbers': WHATEVER THE INPUT: true; the input reads as it did. -/
def paramsNumbersSpec : ChangeSpec := { name := "paramsNumbers", fn := fun _ => fun
  | [d1, d2, d3] => { results := [.lit (.bool true)], args := [d1, d2, d3] }
  | _ => none }
def paramsNumbersRow : OpenClaim := { program := "ytekblfcmmkipgaa", sum := "c6bcb86247e1773564e4e1b23e15376672428d179bf9c1e600805e9d00b74613", func := "sabretache/sabretachelaw24.ParamsNumbers", spec := "paramsNumbers", apart := false }
def ParamsNumbersSaid : Prop := paramsNumbersRow.holds Try.pinned (OpenSpec.ofChange paramsNumbersSpec)

/-- ITS FALSE NEIGHBOUR: 'it returns false'. Refute it at one input. -/
def paramsNumbersWrong : ChangeSpec := { name := "paramsNumbers", fn := fun _ => fun
  | [d1, d2, d3] => { results := [.lit (.bool false)], args := [d1, d2, d3] }
  | _ => none }
def ParamsNumbersWrongFalsely : Prop := paramsNumbersRow.holds Try.pinned (OpenSpec.ofChange paramsNumbersWrong)

/-- 'sabretachelaw24.ParamsFirst': WHATEVER THE INPUT: true; the input reads as it did. -/
def paramsFirstSpec : ChangeSpec := { name := "paramsFirst", fn := fun _ => fun
  | [d] => { results := [.lit (.bool true)], args := [d] }
  | _ => none }
def paramsFirstRow : OpenClaim := { program := "ytekblfcmmkipgaa", sum := "c6bcb86247e1773564e4e1b23e15376672428d179bf9c1e600805e9d00b74613", func := "sabretache/sabretachelaw24.ParamsFirst", spec := "paramsFirst", apart := false }
def ParamsFirstSaid : Prop := paramsFirstRow.holds Try.pinned (OpenSpec.ofChange paramsFirstSpec)

/-- ITS FALSE NEIGHBOUR: 'it returns false'. Refute it at one input. -/
def paramsFirstWrong : ChangeSpec := { name := "paramsFirst", fn := fun _ => fun
  | [d] => { results := [.lit (.bool false)], args := [d] }
  | _ => none }
def ParamsFirstWrongFalsely : Prop := paramsFirstRow.holds Try.pinned (OpenSpec.ofChange paramsFirstWrong)

/-- 'sabretachelaw16.ShaSteps': WHATEVER THE INPUT: true; the input reads as it did. -/
def shaStepsSpec : ChangeSpec := { name := "shaSteps", fn := fun _ => fun
  | [d1, d2] => { results := [.lit (.bool true)], args := [d1, d2] }
  | _ => none }
def shaStepsRow : OpenClaim := { program := "ytekblfcmmkipgaa", sum := "c6bcb86247e1773564e4e1b23e15376672428d179bf9c1e600805e9d00b74613", func := "sabretache/sabretachelaw16.ShaSteps", spec := "shaSteps", unfollowed := true, recurses := true, apart := false }
def ShaStepsSaid : Prop := shaStepsRow.holds Try.pinned (OpenSpec.ofChange shaStepsSpec)

/-- ITS FALSE NEIGHBOUR: 'it returns false'. Refute it at one input. -/
def shaStepsWrong : ChangeSpec := { name := "shaSteps", fn := fun _ => fun
  | [d1, d2] => { results := [.lit (.bool false)], args := [d1, d2] }
  | _ => none }
def ShaStepsWrongFalsely : Prop := shaStepsRow.holds Try.pinned (OpenSpec.ofChange shaStepsWrong)

/-- 'sabretachelaw16.ShaTexts': WHATEVER THE INPUT: true; the input reads as it did. -/
def shaTextsSpec : ChangeSpec := { name := "shaTexts", fn := fun _ => fun
  | [d1, d2] => { results := [.lit (.bool true)], args := [d1, d2] }
  | _ => none }
def shaTextsRow : OpenClaim := { program := "ytekblfcmmkipgaa", sum := "c6bcb86247e1773564e4e1b23e15376672428d179bf9c1e600805e9d00b74613", func := "sabretache/sabretachelaw16.ShaTexts", spec := "shaTexts", unfollowed := true, recurses := true, apart := false }
def ShaTextsSaid : Prop := shaTextsRow.holds Try.pinned (OpenSpec.ofChange shaTextsSpec)

/-- ITS FALSE NEIGHBOUR: 'it returns false'. Refute it at one input. -/
def shaTextsWrong : ChangeSpec := { name := "shaTexts", fn := fun _ => fun
  | [d1, d2] => { results := [.lit (.bool false)], args := [d1, d2] }
  | _ => none }
def ShaTextsWrongFalsely : Prop := shaTextsRow.holds Try.pinned (OpenSpec.ofChange shaTextsWrong)

/-- 'sabretachelaw16.ShaHashes': WHATEVER THE INPUT: true; the input reads as it did. -/
def shaHashesSpec : ChangeSpec := { name := "shaHashes", fn := fun _ => fun
  | [d1, d2, d3] => { results := [.lit (.bool true)], args := [d1, d2, d3] }
  | _ => none }
def shaHashesRow : OpenClaim := { program := "ytekblfcmmkipgaa", sum := "c6bcb86247e1773564e4e1b23e15376672428d179bf9c1e600805e9d00b74613", func := "sabretache/sabretachelaw16.ShaHashes", spec := "shaHashes", unfollowed := true, recurses := true, apart := false }
def ShaHashesSaid : Prop := shaHashesRow.holds Try.pinned (OpenSpec.ofChange shaHashesSpec)

/-- ITS FALSE NEIGHBOUR: 'it returns false'. Refute it at one input. -/
def shaHashesWrong : ChangeSpec := { name := "shaHashes", fn := fun _ => fun
  | [d1, d2, d3] => { results := [.lit (.bool false)], args := [d1, d2, d3] }
  | _ => none }
def ShaHashesWrongFalsely : Prop := shaHashesRow.holds Try.pinned (OpenSpec.ofChange shaHashesWrong)

/- THE SECOND FORM. 'bulk': how many values and letters a reading holds, each counted each time it is reached (what is shared counts as often as it is met; a slice's spare places count too). A statement '..UptoSaid' is the law's where the arguments, and the package variables that the reading takes, are together of bulk at most 1048576: NARROWER than '..Said'. Prove '..Said' where nothing that the law and all that it calls make is longer than what came in: it says more and counts as full. Else prove '..UptoSaid'. A law counts once. -/
mutual
def uptoBulk {H : Type} : DataW H → Nat
  | .lit (.string bytes) => bytes.length + 1
  | .lit _ => 1
  | .nil => 1
  | .ptr d => uptoBulk d + 1
  | .slice elems spare => uptoBulkAll elems + uptoBulkAll spare + 1
  | .agg parts => uptoBulkAll parts + 1
  | .iface _ d => uptoBulk d + 1
  | .map entries => uptoBulkEntries entries + 1
  | .held _ => 1
def uptoBulkAll {H : Type} : List (DataW H) → Nat
  | [] => 0
  | d :: r => uptoBulk d + uptoBulkAll r
def uptoBulkEntries {H : Type} : List (Lit × DataW H) → Nat
  | [] => 0
  | x :: r => uptoBulkEntry x + uptoBulkEntries r
def uptoBulkEntry {H : Type} : Lit × DataW H → Nat
  | (.string bytes, d) => bytes.length + uptoBulk d + 1
  | (_, d) => uptoBulk d + 1
 end
def uptoSmall : (H : Type) → List (DataW H) → Bool := fun _ ds => decide (uptoBulkAll ds ≤ 1048576)
def OpenSpec.upto (s : _root_.Go.ChangeSpec) : _root_.Go.OpenSpec := { _root_.Go.OpenSpec.ofChange s with cond := some uptoSmall }

/-- 'sabretachelaw24.ParamsNames', WHERE WHAT IT READS IS OF BULK AT MOST 1048576: true; the input reads as it did. -/
def paramsNamesUptoRow : OpenClaim := { program := "ytekblfcmmkipgaa", sum := "c6bcb86247e1773564e4e1b23e15376672428d179bf9c1e600805e9d00b74613", func := "sabretache/sabretachelaw24.ParamsNames", spec := "paramsNames", apart := false, narrowed := true }
def ParamsNamesUptoSaid : Prop := paramsNamesUptoRow.holds Try.pinned (OpenSpec.upto paramsNamesSpec)

/-- 'sabretachelaw24.ParamsNumbers', WHERE WHAT IT READS IS OF BULK AT MOST 1048576: true; the input reads as it did. -/
def paramsNumbersUptoRow : OpenClaim := { program := "ytekblfcmmkipgaa", sum := "c6bcb86247e1773564e4e1b23e15376672428d179bf9c1e600805e9d00b74613", func := "sabretache/sabretachelaw24.ParamsNumbers", spec := "paramsNumbers", apart := false, narrowed := true }
def ParamsNumbersUptoSaid : Prop := paramsNumbersUptoRow.holds Try.pinned (OpenSpec.upto paramsNumbersSpec)

/-- 'sabretachelaw24.ParamsFirst', WHERE WHAT IT READS IS OF BULK AT MOST 1048576: true; the input reads as it did. -/
def paramsFirstUptoRow : OpenClaim := { program := "ytekblfcmmkipgaa", sum := "c6bcb86247e1773564e4e1b23e15376672428d179bf9c1e600805e9d00b74613", func := "sabretache/sabretachelaw24.ParamsFirst", spec := "paramsFirst", apart := false, narrowed := true }
def ParamsFirstUptoSaid : Prop := paramsFirstUptoRow.holds Try.pinned (OpenSpec.upto paramsFirstSpec)

/-- 'sabretachelaw16.ShaSteps', WHERE WHAT IT READS IS OF BULK AT MOST 1048576: true; the input reads as it did. -/
def shaStepsUptoRow : OpenClaim := { program := "ytekblfcmmkipgaa", sum := "c6bcb86247e1773564e4e1b23e15376672428d179bf9c1e600805e9d00b74613", func := "sabretache/sabretachelaw16.ShaSteps", spec := "shaSteps", unfollowed := true, recurses := true, apart := false, narrowed := true }
def ShaStepsUptoSaid : Prop := shaStepsUptoRow.holds Try.pinned (OpenSpec.upto shaStepsSpec)

/-- 'sabretachelaw16.ShaTexts', WHERE WHAT IT READS IS OF BULK AT MOST 1048576: true; the input reads as it did. -/
def shaTextsUptoRow : OpenClaim := { program := "ytekblfcmmkipgaa", sum := "c6bcb86247e1773564e4e1b23e15376672428d179bf9c1e600805e9d00b74613", func := "sabretache/sabretachelaw16.ShaTexts", spec := "shaTexts", unfollowed := true, recurses := true, apart := false, narrowed := true }
def ShaTextsUptoSaid : Prop := shaTextsUptoRow.holds Try.pinned (OpenSpec.upto shaTextsSpec)

/-- 'sabretachelaw16.ShaHashes', WHERE WHAT IT READS IS OF BULK AT MOST 1048576: true; the input reads as it did. -/
def shaHashesUptoRow : OpenClaim := { program := "ytekblfcmmkipgaa", sum := "c6bcb86247e1773564e4e1b23e15376672428d179bf9c1e600805e9d00b74613", func := "sabretache/sabretachelaw16.ShaHashes", spec := "shaHashes", unfollowed := true, recurses := true, apart := false, narrowed := true }
def ShaHashesUptoSaid : Prop := shaHashesUptoRow.holds Try.pinned (OpenSpec.upto shaHashesSpec)

end Rows
end Go.Proofs.Ytekblfcmmkipgaa

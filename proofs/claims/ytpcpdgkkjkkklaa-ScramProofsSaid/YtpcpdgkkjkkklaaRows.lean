/-
  No cell of these rows narrows 'for every input' (looked for: loops, veiled, ifaces, maps, wideKeys, modest, calm, conditions, laid).
  DERIVED. THE GIVEN ROWS OF THIS SEAT. 4 by the template 'for every input the law returns true; each argument reads behind the call as it read before'; 0 by the template 'total and deterministic' (their statements: YtpcpdgkkjkkklaaTotals.lean).
  GIVEN WITH THE SEED: the statements are not yours to turn. If you find one false, say at which input.
  Laid BY PROGRAM, IN A SANDBOX (cutbox-rows.mjs): the forced cells as the released guide's own fill.sh prints them over the translation d04a14ae5c76b395… (all of the seat's roots in one cut). By AI agents, Wed Nov 11 2026. No macro, syntax, notation, axiom, sorry.
-/
import Derived.Test.YtpcpdgkkjkkklaaChecked
import GoSem.Claim
import GoSem.ClaimJoined
import GoSem.ClaimMapViews
import Derived.JoinedTies
import Derived.KernelRfl
namespace Go.Proofs.Ytpcpdgkkjkkklaa
/- THE CELL 'sum', in the pinned program and in every row, IS THE sha256 OF THE DUMP (.gsa) THAT YtpcpdgkkjkkklaaProg.lean LOADS. Nothing in Lean hashes anything: it is a label: what it is worth is what the hold of that sum in a sandbox is worth. -/
noncomputable def Try.pinned : Pinned := { name := "ytpcpdgkkjkkklaa", sum := "d04a14ae5c76b39514533c503c4d64ffc9e7d3a549af2f7ffb6a471efd085bab", checked := Try.checked }
namespace Rows
def none {H : Type} : Left H := { results := [], args := [] }

/-- 'sabretachelaw27.ScramKeys': WHATEVER THE INPUT: true; the input reads as it did. -/
def scramKeysSpec : ChangeSpec := { name := "scramKeys", fn := fun _ => fun
  | [d1, d2, d3] => { results := [.lit (.bool true)], args := [d1, d2, d3] }
  | _ => none }
def scramKeysRow : OpenClaim := { program := "ytpcpdgkkjkkklaa", sum := "d04a14ae5c76b39514533c503c4d64ffc9e7d3a549af2f7ffb6a471efd085bab", func := "sabretache/sabretachelaw27.ScramKeys", spec := "scramKeys", unfollowed := true, recurses := true, apart := false }
def ScramKeysSaid : Prop := scramKeysRow.holds Try.pinned (OpenSpec.ofChange scramKeysSpec)

/-- ITS FALSE NEIGHBOUR: 'it returns false'. Refute it at one input. -/
def scramKeysWrong : ChangeSpec := { name := "scramKeys", fn := fun _ => fun
  | [d1, d2, d3] => { results := [.lit (.bool false)], args := [d1, d2, d3] }
  | _ => none }
def ScramKeysWrongFalsely : Prop := scramKeysRow.holds Try.pinned (OpenSpec.ofChange scramKeysWrong)

/-- 'sabretachelaw27.ScramChecks': WHATEVER THE INPUT: true; the input reads as it did. -/
def scramChecksSpec : ChangeSpec := { name := "scramChecks", fn := fun _ => fun
  | [d1, d2, d3] => { results := [.lit (.bool true)], args := [d1, d2, d3] }
  | _ => none }
def scramChecksRow : OpenClaim := { program := "ytpcpdgkkjkkklaa", sum := "d04a14ae5c76b39514533c503c4d64ffc9e7d3a549af2f7ffb6a471efd085bab", func := "sabretache/sabretachelaw27.ScramChecks", spec := "scramChecks", unfollowed := true, recurses := true, apart := false }
def ScramChecksSaid : Prop := scramChecksRow.holds Try.pinned (OpenSpec.ofChange scramChecksSpec)

/-- ITS FALSE NEIGHBOUR: 'it returns false'. Refute it at one input. -/
def scramChecksWrong : ChangeSpec := { name := "scramChecks", fn := fun _ => fun
  | [d1, d2, d3] => { results := [.lit (.bool false)], args := [d1, d2, d3] }
  | _ => none }
def ScramChecksWrongFalsely : Prop := scramChecksRow.holds Try.pinned (OpenSpec.ofChange scramChecksWrong)

/-- 'sabretachelaw27.ScramSalted': WHATEVER THE INPUT: true; the input reads as it did. -/
def scramSaltedSpec : ChangeSpec := { name := "scramSalted", fn := fun _ => fun
  | [d] => { results := [.lit (.bool true)], args := [d] }
  | _ => none }
def scramSaltedRow : OpenClaim := { program := "ytpcpdgkkjkkklaa", sum := "d04a14ae5c76b39514533c503c4d64ffc9e7d3a549af2f7ffb6a471efd085bab", func := "sabretache/sabretachelaw27.ScramSalted", spec := "scramSalted", unfollowed := true, recurses := true, apart := false }
def ScramSaltedSaid : Prop := scramSaltedRow.holds Try.pinned (OpenSpec.ofChange scramSaltedSpec)

/-- ITS FALSE NEIGHBOUR: 'it returns false'. Refute it at one input. -/
def scramSaltedWrong : ChangeSpec := { name := "scramSalted", fn := fun _ => fun
  | [d] => { results := [.lit (.bool false)], args := [d] }
  | _ => none }
def ScramSaltedWrongFalsely : Prop := scramSaltedRow.holds Try.pinned (OpenSpec.ofChange scramSaltedWrong)

/-- 'sabretachelaw27.ScramProofs': WHATEVER THE INPUT: true; the input reads as it did. -/
def scramProofsSpec : ChangeSpec := { name := "scramProofs", fn := fun _ => fun
  | [d1, d2, d3] => { results := [.lit (.bool true)], args := [d1, d2, d3] }
  | _ => none }
def scramProofsRow : OpenClaim := { program := "ytpcpdgkkjkkklaa", sum := "d04a14ae5c76b39514533c503c4d64ffc9e7d3a549af2f7ffb6a471efd085bab", func := "sabretache/sabretachelaw27.ScramProofs", spec := "scramProofs", unfollowed := true, recurses := true, apart := false }
def ScramProofsSaid : Prop := scramProofsRow.holds Try.pinned (OpenSpec.ofChange scramProofsSpec)

/-- ITS FALSE NEIGHBOUR: 'it returns false'. Refute it at one input. -/
def scramProofsWrong : ChangeSpec := { name := "scramProofs", fn := fun _ => fun
  | [d1, d2, d3] => { results := [.lit (.bool false)], args := [d1, d2, d3] }
  | _ => none }
def ScramProofsWrongFalsely : Prop := scramProofsRow.holds Try.pinned (OpenSpec.ofChange scramProofsWrong)

/- THE SECOND FORM. 'bulk': how many values and letters a reading holds, each counted each time it is reached (what is shared counts as often as it is met; a slice's spare places count too). A statement '..UptoSaid' is the law's where the arguments, and the package variables that the reading takes, are together of bulk at most 1048576: NARROWER than '..Said'. Prove '..Said' where nothing that the law and all that it calls make is longer than what came in: it says more and counts as full. Else prove '..UptoSaid'. A law counts once. -/
mutual
def uptoBulk {H : Type} : DataW H → Nat
  | .lit (.string bytes) => bytes.length + 1
  | .lit _ => 1
  | .nil => 1
  | .ptr d => uptoBulk d + 1
  | .slice elems spare => uptoBulkAll elems + uptoBulkAll spare + 1
  | .agg parts => uptoBulkAll parts + 1
  | .iface _ d => uptoBulk d + 1
  | .map entries => uptoBulkEntries entries + 1
  | .held _ => 1
def uptoBulkAll {H : Type} : List (DataW H) → Nat
  | [] => 0
  | d :: r => uptoBulk d + uptoBulkAll r
def uptoBulkEntries {H : Type} : List (Lit × DataW H) → Nat
  | [] => 0
  | x :: r => uptoBulkEntry x + uptoBulkEntries r
def uptoBulkEntry {H : Type} : Lit × DataW H → Nat
  | (.string bytes, d) => bytes.length + uptoBulk d + 1
  | (_, d) => uptoBulk d + 1
 end
def uptoSmall : (H : Type) → List (DataW H) → Bool := fun _ ds => decide (uptoBulkAll ds ≤ 1048576)
def OpenSpec.upto (s : _root_.Go.ChangeSpec) : _root_.Go.OpenSpec := { _root_.Go.OpenSpec.ofChange s with cond := some uptoSmall }

/-- 'sabretachelaw27.ScramKeys', WHERE WHAT IT READS IS OF BULK AT MOST 1048576: true; the input reads as it did. -/
def scramKeysUptoRow : OpenClaim := { program := "ytpcpdgkkjkkklaa", sum := "d04a14ae5c76b39514533c503c4d64ffc9e7d3a549af2f7ffb6a471efd085bab", func := "sabretache/sabretachelaw27.ScramKeys", spec := "scramKeys", unfollowed := true, recurses := true, apart := false, narrowed := true }
def ScramKeysUptoSaid : Prop := scramKeysUptoRow.holds Try.pinned (OpenSpec.upto scramKeysSpec)

/-- 'sabretachelaw27.ScramChecks', WHERE WHAT IT READS IS OF BULK AT MOST 1048576: true; the input reads as it did. -/
def scramChecksUptoRow : OpenClaim := { program := "ytpcpdgkkjkkklaa", sum := "d04a14ae5c76b39514533c503c4d64ffc9e7d3a549af2f7ffb6a471efd085bab", func := "sabretache/sabretachelaw27.ScramChecks", spec := "scramChecks", unfollowed := true, recurses := true, apart := false, narrowed := true }
def ScramChecksUptoSaid : Prop := scramChecksUptoRow.holds Try.pinned (OpenSpec.upto scramChecksSpec)

/-- 'sabretachelaw27.ScramSalted', WHERE WHAT IT READS IS OF BULK AT MOST 1048576: true; the input reads as it did. -/
def scramSaltedUptoRow : OpenClaim := { program := "ytpcpdgkkjkkklaa", sum := "d04a14ae5c76b39514533c503c4d64ffc9e7d3a549af2f7ffb6a471efd085bab", func := "sabretache/sabretachelaw27.ScramSalted", spec := "scramSalted", unfollowed := true, recurses := true, apart := false, narrowed := true }
def ScramSaltedUptoSaid : Prop := scramSaltedUptoRow.holds Try.pinned (OpenSpec.upto scramSaltedSpec)

/-- 'sabretachelaw27.ScramProofs', WHERE WHAT IT READS IS OF BULK AT MOST 1048576: true; the input reads as it did. -/
def scramProofsUptoRow : OpenClaim := { program := "ytpcpdgkkjkkklaa", sum := "d04a14ae5c76b39514533c503c4d64ffc9e7d3a549af2f7ffb6a471efd085bab", func := "sabretache/sabretachelaw27.ScramProofs", spec := "scramProofs", unfollowed := true, recurses := true, apart := false, narrowed := true }
def ScramProofsUptoSaid : Prop := scramProofsUptoRow.holds Try.pinned (OpenSpec.upto scramProofsSpec)

end Rows
end Go.Proofs.Ytpcpdgkkjkkklaa

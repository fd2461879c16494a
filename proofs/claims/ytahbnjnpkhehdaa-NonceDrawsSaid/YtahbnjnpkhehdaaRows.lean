/-
  No cell of these rows narrows 'for every input' (looked for: loops, veiled, ifaces, maps, wideKeys, modest, calm, conditions, laid).
  DERIVED. THE GIVEN ROWS OF THIS SEAT. 3 by the template 'for every input the law returns true; each argument reads behind the call as it read before'; 0 by the template 'total and deterministic' (their statements: YtahbnjnpkhehdaaTotals.lean).
  GIVEN WITH THE SEED: the statements are not yours to turn. If you find one false, say at which input.
  Laid BY PROGRAM, IN A SANDBOX (cutbox-rows.mjs): the forced cells as the released guide's own fill.sh prints them over the translation e3f6f221e464fde1… (all of the seat's roots in one cut). By AI agents, Wed Nov 11 2026. No macro, syntax, notation, axiom, sorry.
-/
import Derived.Test.YtahbnjnpkhehdaaChecked
import GoSem.Claim
import GoSem.ClaimJoined
import GoSem.ClaimMapViews
import Derived.JoinedTies
import Derived.KernelRfl
namespace Go.Proofs.Ytahbnjnpkhehdaa
/- THE CELL 'sum', in the pinned program and in every row, IS THE sha256 OF THE DUMP (.gsa) THAT YtahbnjnpkhehdaaProg.lean LOADS. Nothing in Lean hashes anything: it is a label: what it is worth is what the hold of that sum in a sandbox is worth. -/
noncomputable def Try.pinned : Pinned := { name := "ytahbnjnpkhehdaa", sum := "e3f6f221e464fde1c06de98f241137febbb1448594a866382fe693b274c0f156", checked := Try.checked }
namespace Rows
def none {H : Type} : Left H := { results := [], args := [] }

/-- 'sabretachelaw34.NonceDraws': WHATEVER THE INPUT: true; the input reads as it did. -/
def nonceDrawsSpec : ChangeSpec := { name := "nonceDraws", fn := fun _ => fun
  | [d1, d2] => { results := [.lit (.bool true)], args := [d1, d2] }
  | _ => none }
def nonceDrawsRow : OpenClaim := { program := "ytahbnjnpkhehdaa", sum := "e3f6f221e464fde1c06de98f241137febbb1448594a866382fe693b274c0f156", func := "sabretache/sabretachelaw34.NonceDraws", spec := "nonceDraws", unfollowed := true, recurses := true, apart := false }
def NonceDrawsSaid : Prop := nonceDrawsRow.holds Try.pinned (OpenSpec.ofChange nonceDrawsSpec)

/-- ITS FALSE NEIGHBOUR: 'it returns false'. Refute it at one input. -/
def nonceDrawsWrong : ChangeSpec := { name := "nonceDraws", fn := fun _ => fun
  | [d1, d2] => { results := [.lit (.bool false)], args := [d1, d2] }
  | _ => none }
def NonceDrawsWrongFalsely : Prop := nonceDrawsRow.holds Try.pinned (OpenSpec.ofChange nonceDrawsWrong)

/-- 'sabretachelaw34.NonceSigns': WHATEVER THE INPUT: true; the input reads as it did. -/
def nonceSignsSpec : ChangeSpec := { name := "nonceSigns", fn := fun _ => fun
  | [d1, d2] => { results := [.lit (.bool true)], args := [d1, d2] }
  | _ => none }
def nonceSignsRow : OpenClaim := { program := "ytahbnjnpkhehdaa", sum := "e3f6f221e464fde1c06de98f241137febbb1448594a866382fe693b274c0f156", func := "sabretache/sabretachelaw34.NonceSigns", spec := "nonceSigns", unfollowed := true, recurses := true, apart := false }
def NonceSignsSaid : Prop := nonceSignsRow.holds Try.pinned (OpenSpec.ofChange nonceSignsSpec)

/-- ITS FALSE NEIGHBOUR: 'it returns false'. Refute it at one input. -/
def nonceSignsWrong : ChangeSpec := { name := "nonceSigns", fn := fun _ => fun
  | [d1, d2] => { results := [.lit (.bool false)], args := [d1, d2] }
  | _ => none }
def NonceSignsWrongFalsely : Prop := nonceSignsRow.holds Try.pinned (OpenSpec.ofChange nonceSignsWrong)

/-- 'sabretachelaw34.NonceFakes': WHATEVER THE INPUT: true; the input reads as it did. -/
def nonceFakesSpec : ChangeSpec := { name := "nonceFakes", fn := fun _ => fun
  | [d1, d2, d3] => { results := [.lit (.bool true)], args := [d1, d2, d3] }
  | _ => none }
def nonceFakesRow : OpenClaim := { program := "ytahbnjnpkhehdaa", sum := "e3f6f221e464fde1c06de98f241137febbb1448594a866382fe693b274c0f156", func := "sabretache/sabretachelaw34.NonceFakes", spec := "nonceFakes", unfollowed := true, recurses := true, apart := false }
def NonceFakesSaid : Prop := nonceFakesRow.holds Try.pinned (OpenSpec.ofChange nonceFakesSpec)

/-- ITS FALSE NEIGHBOUR: 'it returns false'. Refute it at one input. -/
def nonceFakesWrong : ChangeSpec := { name := "nonceFakes", fn := fun _ => fun
  | [d1, d2, d3] => { results := [.lit (.bool false)], args := [d1, d2, d3] }
  | _ => none }
def NonceFakesWrongFalsely : Prop := nonceFakesRow.holds Try.pinned (OpenSpec.ofChange nonceFakesWrong)

/- THE SECOND FORM. 'bulk': how many values and letters a reading holds, each counted each time it is reached (what is shared counts as often as it is met; a slice's spare places count too). A statement '..UptoSaid' is the law's where the arguments, and the package variables that the reading takes, are together of bulk at most 1048576: NARROWER than '..Said'. Prove '..Said' where nothing that the law and all that it calls make is longer than what came in: it says more and counts as full. Else prove '..UptoSaid'. A law counts once. -/
mutual
def uptoBulk {H : Type} : DataW H → Nat
  | .lit (.string bytes) => bytes.length + 1
  | .lit _ => 1
  | .nil => 1
  | .ptr d => uptoBulk d + 1
  | .slice elems spare => uptoBulkAll elems + uptoBulkAll spare + 1
  | .agg parts => uptoBulkAll parts + 1
  | .iface _ d => uptoBulk d + 1
  | .map entries => uptoBulkEntries entries + 1
  | .held _ => 1
def uptoBulkAll {H : Type} : List (DataW H) → Nat
  | [] => 0
  | d :: r => uptoBulk d + uptoBulkAll r
def uptoBulkEntries {H : Type} : List (Lit × DataW H) → Nat
  | [] => 0
  | x :: r => uptoBulkEntry x + uptoBulkEntries r
def uptoBulkEntry {H : Type} : Lit × DataW H → Nat
  | (.string bytes, d) => bytes.length + uptoBulk d + 1
  | (_, d) => uptoBulk d + 1
 end
def uptoSmall : (H : Type) → List (DataW H) → Bool := fun _ ds => decide (uptoBulkAll ds ≤ 1048576)
def OpenSpec.upto (s : _root_.Go.ChangeSpec) : _root_.Go.OpenSpec := { _root_.Go.OpenSpec.ofChange s with cond := some uptoSmall }

/-- 'sabretachelaw34.NonceDraws', WHERE WHAT IT READS IS OF BULK AT MOST 1048576: true; the input reads as it did. -/
def nonceDrawsUptoRow : OpenClaim := { program := "ytahbnjnpkhehdaa", sum := "e3f6f221e464fde1c06de98f241137febbb1448594a866382fe693b274c0f156", func := "sabretache/sabretachelaw34.NonceDraws", spec := "nonceDraws", unfollowed := true, recurses := true, apart := false, narrowed := true }
def NonceDrawsUptoSaid : Prop := nonceDrawsUptoRow.holds Try.pinned (OpenSpec.upto nonceDrawsSpec)

/-- 'sabretachelaw34.NonceSigns', WHERE WHAT IT READS IS OF BULK AT MOST 1048576: true; the input reads as it did. -/
def nonceSignsUptoRow : OpenClaim := { program := "ytahbnjnpkhehdaa", sum := "e3f6f221e464fde1c06de98f241137febbb1448594a866382fe693b274c0f156", func := "sabretache/sabretachelaw34.NonceSigns", spec := "nonceSigns", unfollowed := true, recurses := true, apart := false, narrowed := true }
def NonceSignsUptoSaid : Prop := nonceSignsUptoRow.holds Try.pinned (OpenSpec.upto nonceSignsSpec)

/-- 'sabretachelaw34.NonceFakes', WHERE WHAT IT READS IS OF BULK AT MOST 1048576: true; the input reads as it did. -/
def nonceFakesUptoRow : OpenClaim := { program := "ytahbnjnpkhehdaa", sum := "e3f6f221e464fde1c06de98f241137febbb1448594a866382fe693b274c0f156", func := "sabretache/sabretachelaw34.NonceFakes", spec := "nonceFakes", unfollowed := true, recurses := true, apart := false, narrowed := true }
def NonceFakesUptoSaid : Prop := nonceFakesUptoRow.holds Try.pinned (OpenSpec.upto nonceFakesSpec)

end Rows
end Go.Proofs.Ytahbnjnpkhehdaa

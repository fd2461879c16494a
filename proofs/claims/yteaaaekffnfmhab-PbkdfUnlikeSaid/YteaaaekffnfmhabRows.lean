/-
  No cell of these rows narrows 'for every input' (looked for: loops, veiled, ifaces, maps, wideKeys, modest, calm, conditions, laid).
  DERIVED. THE GIVEN ROWS OF THIS SEAT. 3 by the template 'for every input the law returns true; each argument reads behind the call as it read before'; 0 by the template 'total and deterministic' (their statements: YteaaaekffnfmhabTotals.lean).
  GIVEN WITH THE SEED: the statements are not yours to turn. If you find one false, say at which input.
  Laid BY PROGRAM, IN A SANDBOX (cutbox-rows.mjs): the forced cells as the released guide's own fill.sh prints them over the translation c1424b466338b5ac… (all of the seat's roots in one cut). By AI agents, Wed Nov 11 2026. No macro, syntax, notation, axiom, sorry.
-/
import Derived.Test.YteaaaekffnfmhabChecked
import GoSem.Claim
import GoSem.ClaimJoined
import GoSem.ClaimMapViews
import Derived.JoinedTies
import Derived.KernelRfl
namespace Go.Proofs.Yteaaaekffnfmhab
/- THE CELL 'sum', in the pinned program and in every row, IS THE sha256 OF THE DUMP (.gsa) THAT YteaaaekffnfmhabProg.lean LOADS. Nothing in Lean hashes anything: it is a label: what it is worth is what the hold of that sum in a sandbox is worth. -/
noncomputable def Try.pinned : Pinned := { name := "yteaaaekffnfmhab", sum := "c1424b466338b5aca79ab7e0d31fc11cc7992de07206afe5f788f019bad31139", checked := Try.checked }
namespace Rows
def none {H : Type} : Left H := { results := [], args := [] }

/-- 'sabretachelaw18.PbkdfUnlike': WHATEVER THE INPUT: true; the input reads as it did. -/
def pbkdfUnlikeSpec : ChangeSpec := { name := "pbkdfUnlike", fn := fun _ => fun
  | [d1, d2, d3, d4] => { results := [.lit (.bool true)], args := [d1, d2, d3, d4] }
  | _ => none }
def pbkdfUnlikeRow : OpenClaim := { program := "yteaaaekffnfmhab", sum := "c1424b466338b5aca79ab7e0d31fc11cc7992de07206afe5f788f019bad31139", func := "sabretache/sabretachelaw18.PbkdfUnlike", spec := "pbkdfUnlike", unfollowed := true, recurses := true, apart := false }
def PbkdfUnlikeSaid : Prop := pbkdfUnlikeRow.holds Try.pinned (OpenSpec.ofChange pbkdfUnlikeSpec)

/-- ITS FALSE NEIGHBOUR: 'it returns false'. Refute it at one input. -/
def pbkdfUnlikeWrong : ChangeSpec := { name := "pbkdfUnlike", fn := fun _ => fun
  | [d1, d2, d3, d4] => { results := [.lit (.bool false)], args := [d1, d2, d3, d4] }
  | _ => none }
def PbkdfUnlikeWrongFalsely : Prop := pbkdfUnlikeRow.holds Try.pinned (OpenSpec.ofChange pbkdfUnlikeWrong)

/-- 'sabretachelaw18.PbkdfSteps': WHATEVER THE INPUT: true; the input reads as it did. -/
def pbkdfStepsSpec : ChangeSpec := { name := "pbkdfSteps", fn := fun _ => fun
  | [d1, d2] => { results := [.lit (.bool true)], args := [d1, d2] }
  | _ => none }
def pbkdfStepsRow : OpenClaim := { program := "yteaaaekffnfmhab", sum := "c1424b466338b5aca79ab7e0d31fc11cc7992de07206afe5f788f019bad31139", func := "sabretache/sabretachelaw18.PbkdfSteps", spec := "pbkdfSteps", unfollowed := true, recurses := true, apart := false }
def PbkdfStepsSaid : Prop := pbkdfStepsRow.holds Try.pinned (OpenSpec.ofChange pbkdfStepsSpec)

/-- ITS FALSE NEIGHBOUR: 'it returns false'. Refute it at one input. -/
def pbkdfStepsWrong : ChangeSpec := { name := "pbkdfSteps", fn := fun _ => fun
  | [d1, d2] => { results := [.lit (.bool false)], args := [d1, d2] }
  | _ => none }
def PbkdfStepsWrongFalsely : Prop := pbkdfStepsRow.holds Try.pinned (OpenSpec.ofChange pbkdfStepsWrong)

/-- 'sabretachelaw18.PbkdfKeys': WHATEVER THE INPUT: true; the input reads as it did. -/
def pbkdfKeysSpec : ChangeSpec := { name := "pbkdfKeys", fn := fun _ => fun
  | [d1, d2, d3] => { results := [.lit (.bool true)], args := [d1, d2, d3] }
  | _ => none }
def pbkdfKeysRow : OpenClaim := { program := "yteaaaekffnfmhab", sum := "c1424b466338b5aca79ab7e0d31fc11cc7992de07206afe5f788f019bad31139", func := "sabretache/sabretachelaw18.PbkdfKeys", spec := "pbkdfKeys", unfollowed := true, recurses := true, apart := false }
def PbkdfKeysSaid : Prop := pbkdfKeysRow.holds Try.pinned (OpenSpec.ofChange pbkdfKeysSpec)

/-- ITS FALSE NEIGHBOUR: 'it returns false'. Refute it at one input. -/
def pbkdfKeysWrong : ChangeSpec := { name := "pbkdfKeys", fn := fun _ => fun
  | [d1, d2, d3] => { results := [.lit (.bool false)], args := [d1, d2, d3] }
  | _ => none }
def PbkdfKeysWrongFalsely : Prop := pbkdfKeysRow.holds Try.pinned (OpenSpec.ofChange pbkdfKeysWrong)

/- THE SECOND FORM. 'bulk': how many values and letters a reading holds, each counted each time it is reached (what is shared counts as often as it is met; a slice's spare places count too). A statement '..UptoSaid' is the law's where the arguments, and the package variables that the reading takes, are together of bulk at most 1048576: NARROWER than '..Said'. Prove '..Said' where nothing that the law and all that it calls make is longer than what came in: it says more and counts as full. Else prove '..UptoSaid'. A law counts once. -/
mutual
def uptoBulk {H : Type} : DataW H → Nat
  | .lit (.string bytes) => bytes.length + 1
  | .lit _ => 1
  | .nil => 1
  | .ptr d => uptoBulk d + 1
  | .slice elems spare => uptoBulkAll elems + uptoBulkAll spare + 1
  | .agg parts => uptoBulkAll parts + 1
  | .iface _ d => uptoBulk d + 1
  | .map entries => uptoBulkEntries entries + 1
  | .held _ => 1
def uptoBulkAll {H : Type} : List (DataW H) → Nat
  | [] => 0
  | d :: r => uptoBulk d + uptoBulkAll r
def uptoBulkEntries {H : Type} : List (Lit × DataW H) → Nat
  | [] => 0
  | x :: r => uptoBulkEntry x + uptoBulkEntries r
def uptoBulkEntry {H : Type} : Lit × DataW H → Nat
  | (.string bytes, d) => bytes.length + uptoBulk d + 1
  | (_, d) => uptoBulk d + 1
 end
def uptoSmall : (H : Type) → List (DataW H) → Bool := fun _ ds => decide (uptoBulkAll ds ≤ 1048576)
def OpenSpec.upto (s : _root_.Go.ChangeSpec) : _root_.Go.OpenSpec := { _root_.Go.OpenSpec.ofChange s with cond := some uptoSmall }

/-- 'sabretachelaw18.PbkdfUnlike', WHERE WHAT IT READS IS OF BULK AT MOST 1048576: true; the input reads as it did. -/
def pbkdfUnlikeUptoRow : OpenClaim := { program := "yteaaaekffnfmhab", sum := "c1424b466338b5aca79ab7e0d31fc11cc7992de07206afe5f788f019bad31139", func := "sabretache/sabretachelaw18.PbkdfUnlike", spec := "pbkdfUnlike", unfollowed := true, recurses := true, apart := false, narrowed := true }
def PbkdfUnlikeUptoSaid : Prop := pbkdfUnlikeUptoRow.holds Try.pinned (OpenSpec.upto pbkdfUnlikeSpec)

/-- 'sabretachelaw18.PbkdfSteps', WHERE WHAT IT READS IS OF BULK AT MOST 1048576: true; the input reads as it did. -/
def pbkdfStepsUptoRow : OpenClaim := { program := "yteaaaekffnfmhab", sum := "c1424b466338b5aca79ab7e0d31fc11cc7992de07206afe5f788f019bad31139", func := "sabretache/sabretachelaw18.PbkdfSteps", spec := "pbkdfSteps", unfollowed := true, recurses := true, apart := false, narrowed := true }
def PbkdfStepsUptoSaid : Prop := pbkdfStepsUptoRow.holds Try.pinned (OpenSpec.upto pbkdfStepsSpec)

/-- 'sabretachelaw18.PbkdfKeys', WHERE WHAT IT READS IS OF BULK AT MOST 1048576: true; the input reads as it did. -/
def pbkdfKeysUptoRow : OpenClaim := { program := "yteaaaekffnfmhab", sum := "c1424b466338b5aca79ab7e0d31fc11cc7992de07206afe5f788f019bad31139", func := "sabretache/sabretachelaw18.PbkdfKeys", spec := "pbkdfKeys", unfollowed := true, recurses := true, apart := false, narrowed := true }
def PbkdfKeysUptoSaid : Prop := pbkdfKeysUptoRow.holds Try.pinned (OpenSpec.upto pbkdfKeysSpec)

end Rows
end Go.Proofs.Yteaaaekffnfmhab

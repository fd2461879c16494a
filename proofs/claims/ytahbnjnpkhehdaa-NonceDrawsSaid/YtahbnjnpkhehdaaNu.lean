/- Draws from a seed: Nonce of nonce.Source. -/
import Derived.Test.YtahbnjnpkhehdaaNt
namespace Go.Proofs.Ytahbnjnpkhehdaa
open Go.RowKit Go.Lib
set_option maxRecDepth 100000
set_option linter.unusedSimpArgs false
set_option linter.unusedVariables false
attribute [local go_sem] evR_tmp evR_const evR_global evR_func
/-- The signs. -/
def signsB : ByteArray := ⟨#[65, 66, 67, 68, 69, 70, 71, 72, 73, 74, 75, 76, 77, 78, 79, 80, 81, 82, 83, 84, 85, 86, 87, 88, 89, 90, 97, 98, 99, 100, 101, 102, 103, 104, 105, 106, 107, 108, 109, 110, 111, 112, 113, 114, 115, 116, 117, 118, 119, 120, 121, 122, 48, 49, 50, 51, 52, 53, 54, 55, 56, 57, 43, 47]⟩
def signOf (b : UInt8) : UInt8 := signsB.data.toList.getD (b.toNat % 64) 0
theorem and63 (b : UInt8) : bits .and .u8 (b.toNat : Int) 63 = ((b.toNat % 64 : Nat) : Int) := by
  have h : ∀ x : Fin 256, bits .and .u8 ((x.val : Nat) : Int) 63 = ((x.val % 64 : Nat) : Int) := by decide +kernel
  exact h ⟨b.toNat, b.toNat_lt⟩
theorem signOf_at (b : UInt8) : signsB.data.toList[b.toNat % 64]? = some (signOf b) := by
  have h : ∀ x : Fin 64, signsB.data.toList[x.val]? = some (signsB.data.toList.getD x.val 0) := by decide +kernel
  exact h ⟨b.toNat % 64, Nat.mod_lt _ (by decide)⟩
/-- A text as bytes, the new block told: it may be written. -/
theorem wpList_convSBw {P : Program} {ops : Array Oper} {rest : List Oper} {o : Oper} {a : Act} {w : World} {Q : Exit → Act → World → Prop} {src dst e : TypeId} {x : Operand} {s : ByteArray} (hg : o.guard = none) (ho : o.op = .convert src dst x) (hx : a.eval x = .string s)
    (hs : P.underlying src = some .string) (hd : P.underlying dst = some (.slice e)) (he : P.underlying e = some (.int .u8))
    (h : ∀ cap cur w', w'.heap[w.heap.size]? = some (.cells cur e (cur.size, cur.size + 1)) → (∀ k, k < s.size → cur[k]? = some (.int .u8 (s.data.toList.getD k 0).toNat)) → Below w.heap.size w w' → wpList P ops Q rest (a.put o.dst (.slice (some ⟨w.heap.size, 0, none⟩) s.size cap)) w') : wpList P ops Q (o :: rest) a w := by
  refine wpList_plain hg fun K hK => ?_
  have hc : ∀ k, k < s.size → (bytesCells w e s)[k]? = some (.int .u8 (s.data.toList.getD k 0).toNat) := fun k hk => by
    rw [← bytesWorld_cell w e s k hk]
    simp [World.cell?, bytesWorld_at_new w e s]
  have main := h (grownCap w s.size 0 e) _ _ (bytesWorld_at_new w e s) hc ⟨rfl, rfl, rfl, by rw [bytesWorld_size]; omega, fun k hk => bytesWorld_at_old w e s k hk⟩
  have hr := Go.Lib.run_convert_string_bytes w src dst e s hs hd he
  have e1 : (execOp a.eval o).run P w = .ok (.value (.slice (some ⟨w.heap.size, 0, none⟩) s.size (grownCap w s.size 0 e))) (bytesWorld w e s) := by
    unfold execOp
    simp only [ho, hx]
    rw [Sem.run_bind, hr]
    rfl
  unfold Oper.wp
  rw [e1, Oper.upon_value]
  exact hK _ _ main
end Go.Proofs.Ytahbnjnpkhehdaa

/- The law ShaSteps, and what the laws of layer 16 share. -/
import Derived.Test.YthnackakgglhbaaGreatSm
import Derived.Test.YthnackakgglhbaaGreatR2
namespace Go.Proofs.YthnackakgglhbaaGreat
open Go.RowKit
set_option maxRecDepth 100000
set_option linter.unusedSimpArgs false
set_option linter.unusedVariables false
attribute [local go_sem] evR_tmp evR_const evR_global evR_func
theorem abc_sum : (sumText ⟨#[97, 98, 99]⟩).toList = [186, 120, 22, 191, 143, 1, 207, 234, 65, 65, 64, 222, 93, 174, 34, 35, 176, 3, 97, 163, 150, 23, 122, 156, 180, 16, 255, 97, 242, 0, 21, 173] := by decide +kernel
/-- The first n words, noughts behind. -/
theorem pad_take_set (m : Nat) (h : List W32) (hm : h.length = m) (n : Nat) (hn : n < m) : (padTo m (h.take n)).set n (at32 h n) = padTo m (h.take (n + 1)) := by
  have := padTo_set m (h.take n) (at32 h n) (by simp; omega)
  rw [show (h.take n).length = n by simp; omega] at this
  rw [this, List.take_succ_eq_append_getElem (show n < h.length by omega)]
  simp [at32, hm, hn]
theorem pad_take_len (m : Nat) (h : List W32) (hm : h.length = m) (n : Nat) (hn : n ≤ m) : (padTo m (h.take n)).length = m := padTo_length _ _ (by simp; omega)
theorem pad_take_end (m : Nat) (h : List W32) (hm : h.length = m) : padTo m (h.take m) = h := by
  rw [List.take_of_length_le (by omega), padTo_full _ _ hm]
end Go.Proofs.YthnackakgglhbaaGreat

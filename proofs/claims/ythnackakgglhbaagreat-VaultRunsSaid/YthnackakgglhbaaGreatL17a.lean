/- What the laws of layer 17 share: awake, list; texts of a slice that came in. -/
import Derived.Test.YthnackakgglhbaaGreatHx
namespace Go.Proofs.YthnackakgglhbaaGreat
open Go.RowKit Go.Lib
set_option maxRecDepth 100000
set_option linter.unusedSimpArgs false
set_option linter.unusedVariables false
attribute [local go_sem] evR_tmp evR_const evR_global evR_func
theorem jefe_sum : refBytes (macw [74, 101, 102, 101] [119, 104, 97, 116, 32, 100, 111, 32, 121, 97, 32, 119, 97, 110, 116, 32, 102, 111, 114, 32, 110, 111, 116, 104, 105, 110, 103, 63]) = [91, 220, 193, 70, 191, 96, 117, 78, 106, 4, 36, 38, 8, 149, 117, 199, 90, 0, 63, 8, 157, 39, 57, 131, 157, 236, 88, 185, 100, 236, 56, 67] := by decide +kernel
theorem jefe_text : macText ⟨#[74, 101, 102, 101]⟩ ⟨#[119, 104, 97, 116, 32, 100, 111, 32, 121, 97, 32, 119, 97, 110, 116, 32, 102, 111, 114, 32, 110, 111, 116, 104, 105, 110, 103, 63]⟩ = ⟨#[91, 220, 193, 70, 191, 96, 117, 78, 106, 4, 36, 38, 8, 149, 117, 199, 90, 0, 63, 8, 157, 39, 57, 131, 157, 236, 88, 185, 100, 236, 56, 67]⟩ := by
  unfold macText
  rw [jefe_sum]
/-- Bytes as words, with something above. -/
def abv (bs : List UInt8) (ab : W32) : List W32 := bs.map fun b => kw b.toNat ||| shlI ab 8
theorem abv_length (bs : List UInt8) (ab : W32) : (abv bs ab).length = bs.length := by rw [abv, List.length_map]
theorem abv_at (bs : List UInt8) (ab : W32) (k : Nat) (h : k < bs.length) : bits .or .u32 ((bs[k].toNat : Int) % 4294967296) (iw ab * 256 % 4294967296) = iw (at32 (abv bs ab) k) := by
  have hb := bs[k].toNat_lt
  rw [conv_kw _ (by omega), shl8, or_iw]
  simp [at32, abv, h]
theorem shl8_low (x : W32) : shlI x 8 &&& kw 255 = 0#32 := by
  apply BitVec.eq_of_toNat_eq
  rw [BitVec.toNat_and, kw_nat 255 (by omega), show (255 : Nat) = 2 ^ 8 - 1 from rfl, Nat.and_two_pow_sub_one_eq_mod]
  unfold shlI
  rw [BitVec.toNat_shiftLeft, Nat.shiftLeft_eq]
  simp
theorem low_abv (bs : List UInt8) (ab : W32) : lowB (abv bs ab) = bs := by
  unfold lowB abv
  rw [List.map_map]
  conv => rhs; rw [← List.map_id bs]
  apply List.map_congr_left
  intro b _
  refine byteOf_same ?_
  show (kw b.toNat ||| shlI ab 8) &&& kw 255 = kw b.toNat
  rw [BitVec.and_comm, BitVec.and_or_distrib_left, BitVec.and_comm _ (shlI ab 8), shl8_low, BitVec.or_zero, BitVec.and_comm, low_byte]
def ListRet (xs : List W32) (w : World) (x : Ending) (w' : World) : Prop := ∃ sv, x = .returned sv ∧ OwnW w' w.heap.size sv xs ∧ Below w.heap.size w w'
end Go.Proofs.YthnackakgglhbaaGreat

/- Vault without program: streams, seals, what is opened. -/
import Derived.Test.YthnackakgglhbaaGreatVx
import Derived.Test.YthnackakgglhbaaGreatSb
namespace Go.Proofs.YthnackakgglhbaaGreat
set_option maxRecDepth 100000
set_option linter.unusedSimpArgs false
set_option linter.unusedVariables false
def strK : ByteArray := ⟨#[115, 116, 114, 101, 97, 109, 0]⟩
def selK : ByteArray := ⟨#[115, 101, 97, 108, 0]⟩
def zro : ByteArray := ⟨#[0]⟩
def cntB (k : Nat) : ByteArray := ⟨#[0, 0, UInt8.ofNat (k / 256), UInt8.ofNat k]⟩
/-- A block of a stream. -/
def blkS (k l : ByteArray) (q : Nat) : ByteArray := macText k (strK ++ l ++ zro ++ cntB q)
theorem macText_size (k t : ByteArray) : (macText k t).size = 32 := by
  simp only [macText, ByteArray.size, List.size_toArray]
  exact refBytes_length _ (macK_length _ _)
def strB (k l : ByteArray) : Nat → List UInt8
  | 0 => []
  | q + 1 => strB k l q ++ (blkS k l q).data.toList
theorem strB_length (k l : ByteArray) : ∀ q, (strB k l q).length = 32 * q
  | 0 => rfl
  | q + 1 => by
    have := macText_size k (strK ++ l ++ zro ++ cntB q)
    rw [strB, List.length_append, strB_length k l q, Array.length_toList]
    rw [blkS]
    simp only [ByteArray.size] at this
    omega
def strA (k l : ByteArray) (q : Nat) : ByteArray := ⟨(strB k l q).toArray⟩
theorem strA_size (k l : ByteArray) (q : Nat) : (strA k l q).size = 32 * q := by simp [strA, ByteArray.size, strB_length]
theorem strA_succ (k l : ByteArray) (q : Nat) : strA k l (q + 1) = strA k l q ++ blkS k l q := by
  apply ByteArray.ext
  simp [strA, strB]
/-- So many bytes of a stream. -/
def strT (k l : ByteArray) (n : Nat) : ByteArray := (strA k l ((n + 31) / 32)).extract 0 n
theorem strT_size (k l : ByteArray) (n : Nat) : (strT k l n).size = n := by
  rw [strT, ByteArray.size_extract, strA_size]
  omega
def xorS (a b : ByteArray) : ByteArray := ⟨(xorB a.data.toList b.data.toList).toArray⟩
theorem xorS_size (a b : ByteArray) : (xorS a b).size = min a.size b.size := by
  show (xorB a.data.toList b.data.toList).toArray.size = _
  rw [List.size_toArray, xorB_length, Array.length_toList, Array.length_toList]
  rfl
/-- A text under its stream. -/
def outS (k l t : ByteArray) : ByteArray := xorS t (strT k l t.size)
theorem outS_size (k l t : ByteArray) : (outS k l t).size = t.size := by rw [outS, xorS_size, strT_size]; omega
theorem xorB_back : ∀ (a b : List UInt8), a.length ≤ b.length → xorB (xorB a b) b = a
  | [], b, _ => by simp [xorB]
  | x :: a, [], h => by simp at h
  | x :: a, y :: b, h => by
    have := xorB_back a b (by simpa using h)
    simp only [xorB, List.zipWith_cons_cons, List.cons.injEq] at this ⊢
    refine ⟨?_, this⟩
    rw [UInt8.xor_assoc, UInt8.xor_self, UInt8.xor_zero]
theorem outS_back (k l t : ByteArray) : outS k l (outS k l t) = t := by
  have hs := outS_size k l t
  have hn := strT_size k l t.size
  unfold outS at hs ⊢
  rw [hs]
  apply ByteArray.ext
  simp only [xorS]
  rw [List.toList_toArray]
  rw [xorB_back _ _ (by rw [Array.length_toList, Array.length_toList]; exact Nat.le_of_eq hn.symm)]
/-- A seal. -/
def sumS (k l t : ByteArray) : ByteArray := (macText k (selK ++ l ++ zro ++ t)).extract 0 16
theorem sumS_size (k l t : ByteArray) : (sumS k l t).size = 16 := by rw [sumS, ByteArray.size_extract, macText_size]; omega
def sealS (k l t : ByteArray) : ByteArray := outS k l t ++ sumS k l (outS k l t)
theorem sealS_size (k l t : ByteArray) : (sealS k l t).size = t.size + 16 := by rw [sealS, ByteArray.size_append, outS_size, sumS_size]
theorem seal_head (k l t : ByteArray) : (sealS k l t).extract 0 t.size = outS k l t := by
  have h := outS_size k l t
  rw [sealS, ← h, ByteArray.extract_append_eq_left rfl]
theorem seal_tail (k l t : ByteArray) : (sealS k l t).extract t.size (sealS k l t).size = sumS k l (outS k l t) := by
  rw [sealS_size]
  have h := outS_size k l t
  rw [sealS, ByteArray.extract_append_eq_right h.symm (by rw [sumS_size, h])]
/-- What a sealed text is. -/
def openS (k l s : ByteArray) : Option ByteArray := if s.size < 16 ∨ 2000 < s.size - 16 ∨ sumS k l (s.extract 0 (s.size - 16)) ≠ s.extract (s.size - 16) s.size then none else some (outS k l (s.extract 0 (s.size - 16)))
theorem open_seal (k l t : ByteArray) (ht : t.size ≤ 2000) : openS k l (sealS k l t) = some t := by
  have h1 := seal_head k l t
  have h2 := seal_tail k l t
  have h3 := sealS_size k l t
  have h4 : (sealS k l t).size - 16 = t.size := by omega
  unfold openS
  rw [h4, h1, h2, if_neg, outS_back]
  rintro (h | h | h)
  · omega
  · omega
  · exact h rfl
/-- May it be a label? -/
def labB (l : ByteArray) : Bool := decide (1 ≤ l.size) && decide (l.size ≤ 64) && !l.data.toList.contains 0
end Go.Proofs.YthnackakgglhbaaGreat

/- UTF-8 without program: the document's points and the library's answer are one. -/
import Derived.Test.YtjigckibbjfkmaaGreatDoorBp
import Derived.Lib.ValidLaws
namespace Go.Proofs.YtjigckibbjfkmaaGreatDoor
open Go.Lib
set_option maxRecDepth 100000
set_option linter.unusedSimpArgs false
set_option linter.unusedVariables false
def lowP (b0 : Nat) : Nat := if b0 = 224 then 160 else if b0 = 240 then 144 else 128
def highP (b0 : Nat) : Nat := if b0 = 237 then 159 else if b0 = 244 then 143 else 191
/-- How many bytes the first point has; 0: there is none. -/
def pointN (n b0 b1 b2 b3 : Nat) : Nat :=
  if b0 ≤ 127 then 1
  else if 194 ≤ b0 ∧ b0 ≤ 223 then (if 1 < n ∧ lowP b0 ≤ b1 ∧ b1 ≤ highP b0 then 2 else 0)
  else if 224 ≤ b0 ∧ b0 ≤ 239 then (if 2 < n ∧ (lowP b0 ≤ b1 ∧ b1 ≤ highP b0) ∧ (128 ≤ b2 ∧ b2 ≤ 191) then 3 else 0)
  else if 240 ≤ b0 ∧ b0 ≤ 244 then (if 3 < n ∧ (lowP b0 ≤ b1 ∧ b1 ≤ highP b0) ∧ (128 ≤ b2 ∧ b2 ≤ 191) ∧ (128 ≤ b3 ∧ b3 ≤ 191) then 4 else 0)
  else 0
set_option maxHeartbeats 8000000 in
theorem point_decode (n b0 b1 b2 b3 : Nat) (h0 : b0 < 256) (h1 : b1 < 256) (h2 : b2 < 256) (h3 : b3 < 256) : pointN n b0 b1 b2 b3 = if (decodeN n b0 b1 b2 b3).1 = 65533 ∧ (decodeN n b0 b1 b2 b3).2 = 1 then 0 else (decodeN n b0 b1 b2 b3).2 := by
  have fin : ∀ v k, decodeN n b0 b1 b2 b3 = (v, k) → (v = 65533 ∧ k = 1 → pointN n b0 b1 b2 b3 = 0) → (¬ (v = 65533 ∧ k = 1) → pointN n b0 b1 b2 b3 = k) → pointN n b0 b1 b2 b3 = if (decodeN n b0 b1 b2 b3).1 = 65533 ∧ (decodeN n b0 b1 b2 b3).2 = 1 then 0 else (decodeN n b0 b1 b2 b3).2 := fun v k e p1 p2 => by
    rw [e]
    by_cases q : v = 65533 ∧ k = 1
    · rw [if_pos q]; exact p1 q
    · rw [if_neg q]; exact p2 q
  have lo : (b0 ≠ 224 ∨ lowP b0 = 160) ∧ (b0 ≠ 240 ∨ lowP b0 = 144) ∧ (b0 = 224 ∨ b0 = 240 ∨ lowP b0 = 128) := by
    unfold lowP
    split
    · omega
    · split <;> omega
  have hi : (b0 ≠ 237 ∨ highP b0 = 159) ∧ (b0 ≠ 244 ∨ highP b0 = 143) ∧ (b0 = 237 ∨ b0 = 244 ∨ highP b0 = 191) := by
    unfold highP
    split
    · omega
    · split <;> omega
  obtain ⟨lo1, lo2, lo3⟩ := lo
  obtain ⟨hi1, hi2, hi3⟩ := hi
  by_cases c1 : b0 < 128
  · refine fin b0 1 ?_ (fun q => by omega) (fun _ => ?_)
    · unfold decodeN; rw [if_pos c1]
    · unfold pointN; rw [if_pos (by omega)]
  by_cases c2 : 194 ≤ b0 ∧ b0 ≤ 223 ∧ 1 < n ∧ 128 ≤ b1 ∧ b1 ≤ 191
  · refine fin (b0 % 32 * 64 + b1 % 64) 2 ?_ (fun q => by omega) (fun _ => ?_)
    · unfold decodeN
      rw [if_neg c1, if_pos (by omega), if_pos (by omega)]
    · unfold pointN
      rw [if_neg (by omega), if_pos (by omega), if_pos (by omega)]
  by_cases c3 : 224 ≤ b0 ∧ b0 ≤ 239 ∧ 2 < n ∧ 128 ≤ b1 ∧ b1 ≤ 191 ∧ 128 ≤ b2 ∧ b2 ≤ 191 ∧ (b0 ≠ 224 ∨ 160 ≤ b1) ∧ (b0 ≠ 237 ∨ b1 ≤ 159)
  · refine fin (b0 % 16 * 4096 + b1 % 64 * 64 + b2 % 64) 3 ?_ (fun q => by omega) (fun _ => ?_)
    · unfold decodeN
      rw [if_neg c1, if_neg (by omega), if_pos (by omega), if_pos (by omega)]
    · unfold pointN
      rw [if_neg (by omega), if_neg (by omega), if_pos (by omega), if_pos (by omega)]
  by_cases c4 : 240 ≤ b0 ∧ b0 ≤ 244 ∧ 3 < n ∧ 128 ≤ b1 ∧ b1 ≤ 191 ∧ 128 ≤ b2 ∧ b2 ≤ 191 ∧ 128 ≤ b3 ∧ b3 ≤ 191 ∧ (b0 ≠ 240 ∨ 144 ≤ b1) ∧ (b0 ≠ 244 ∨ b1 ≤ 143)
  · refine fin (b0 % 8 * 262144 + b1 % 64 * 4096 + b2 % 64 * 64 + b3 % 64) 4 ?_ (fun q => by omega) (fun _ => ?_)
    · unfold decodeN
      rw [if_neg c1, if_neg (by omega), if_neg (by omega), if_pos (by omega), if_pos (by omega)]
    · unfold pointN
      rw [if_neg (by omega), if_neg (by omega), if_neg (by omega), if_pos (by omega), if_pos (by omega)]
  refine fin 65533 1 ?_ (fun _ => ?_) (fun q => absurd ⟨rfl, rfl⟩ q)
  · unfold decodeN
    rw [if_neg c1]
    by_cases d2 : b0 / 32 = 6 ∧ 1 < n ∧ b1 / 64 = 2
    · rw [if_pos d2, if_neg (by omega)]
    rw [if_neg d2]
    by_cases d3 : b0 / 16 = 14 ∧ (1 < n ∧ b1 / 64 = 2) ∧ 2 < n ∧ b2 / 64 = 2
    · rw [if_pos d3, if_neg (by omega)]
    rw [if_neg d3]
    by_cases d4 : b0 / 8 = 30 ∧ (1 < n ∧ b1 / 64 = 2) ∧ (2 < n ∧ b2 / 64 = 2) ∧ 3 < n ∧ b3 / 64 = 2
    · rw [if_pos d4, if_neg (by omega)]
    rw [if_neg d4]
  · unfold pointN
    rw [if_neg (by omega)]
    by_cases d2 : 194 ≤ b0 ∧ b0 ≤ 223
    · rw [if_pos d2, if_neg (by omega)]
    rw [if_neg d2]
    by_cases d3 : 224 ≤ b0 ∧ b0 ≤ 239
    · rw [if_pos d3, if_neg (by omega)]
    rw [if_neg d3]
    by_cases d4 : 240 ≤ b0 ∧ b0 ≤ 244
    · rw [if_pos d4, if_neg (by omega)]
    rw [if_neg d4]
/-- The same of bytes. -/
def pointL (l : List UInt8) : Nat := if l = [] then 0 else pointN l.length (l.getD 0 0).toNat (l.getD 1 0).toNat (l.getD 2 0).toNat (l.getD 3 0).toNat
def pointsN : Nat → List UInt8 → Bool
  | _, [] => true
  | 0, _ :: _ => false
  | n + 1, b :: r => if pointL (b :: r) = 0 then false else pointsN n ((b :: r).drop (pointL (b :: r)))
def pointsL (l : List UInt8) : Bool := pointsN l.length l
end Go.Proofs.YtjigckibbjfkmaaGreatDoor

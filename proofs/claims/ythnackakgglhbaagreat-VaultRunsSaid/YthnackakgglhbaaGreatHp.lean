/- Sums under a key, without program: a key's block, the two states, what is run behind a state. -/
import Derived.Test.YthnackakgglhbaaGreatL16b
namespace Go.Proofs.YthnackakgglhbaaGreat
open Go.RowKit
set_option maxRecDepth 100000
set_option linter.unusedSimpArgs false
set_option linter.unusedVariables false
/-- Bytes, each with a byte. -/
def withB (c : UInt8) (kb : List UInt8) : List UInt8 := kb.map (· ^^^ c)
theorem withB_length (c : UInt8) (kb : List UInt8) : (withB c kb).length = kb.length := by simp [withB]
def shortK (ks : List UInt8) : List UInt8 := if 64 < ks.length then refBytes (refSum ks) else ks
/-- A key's block. -/
def keyB (ks : List UInt8) : List UInt8 := shortK ks ++ List.replicate (64 - (shortK ks).length) 0
theorem refSum_length (bs : List UInt8) : (refSum bs).length = 8 := refSumAt_length _ _
theorem refBytes_length (h : List W32) (hh : h.length = 8) : (refBytes h).length = 32 := by unfold refBytes; rw [quads_length, hh]
theorem shortK_le (ks : List UInt8) : (shortK ks).length ≤ 64 := by
  unfold shortK
  split
  · rw [refBytes_length _ (refSum_length _)]; omega
  · omega
theorem keyB_length (ks : List UInt8) : (keyB ks).length = 64 := by
  have := shortK_le ks
  unfold keyB
  rw [List.length_append, List.length_replicate]; omega
/-- A state: two sums behind a block. -/
def stateW (kb : List UInt8) : List W32 := stepw h0 (rblockTo (withB 54 kb) 0 64) ++ stepw h0 (rblockTo (withB 92 kb) 0 64)
theorem stateW_length (kb : List UInt8) : (stateW kb).length = 16 := by
  unfold stateW; rw [List.length_append, stepw_length _ _ rfl, stepw_length _ _ rfl]
def zeros64 : List UInt8 := List.replicate 64 0
def tailP (tb : List UInt8) : List UInt8 := padded (zeros64 ++ tb)
def runAt (h : List W32) (p : List UInt8) : Nat → List W32
  | 0 => h
  | n + 1 => stepw (runAt h p n) (rblockTo p (64 * (n + 1)) 64)
/-- What is run behind a state. -/
def runw (h : List W32) (tb : List UInt8) : List W32 := runAt h (tailP tb) (lastAt (64 + tb.length))
theorem runAt_length (h : List W32) (hh : h.length = 8) (p : List UInt8) : ∀ n, (runAt h p n).length = 8
  | 0 => hh
  | n + 1 => stepw_length _ _ (runAt_length h hh p n)
theorem runw_length (h : List W32) (hh : h.length = 8) (tb : List UInt8) : (runw h tb).length = 8 := runAt_length h hh _ _
def behindP (n : Nat) (tb : List UInt8) : List UInt8 := tb ++ ([128] ++ (List.replicate (64 * lastAt (n + tb.length) + 56 - (n + tb.length + 1)) 0 ++ lenBytes (n + tb.length) 8))
theorem padded_app (kb tb : List UInt8) : padded (kb ++ tb) = kb ++ behindP kb.length tb := by
  simp [padded, padB, behindP]
theorem byteAt_behind (kb kb' tb : List UInt8) (hk : kb.length = kb'.length) (j : Nat) (hj : kb.length ≤ j) : byteAt (padded (kb ++ tb)) j = byteAt (padded (kb' ++ tb)) j := by
  unfold byteAt
  rw [padded_app, padded_app, gD_right _ _ _ hj, gD_right _ _ _ (by omega), hk]
theorem byteAt_ahead (kb tb : List UInt8) (j : Nat) (hj : j < kb.length) : byteAt (padded (kb ++ tb)) j = byteAt kb j := by
  unfold byteAt
  rw [padded_app, gD_left _ _ _ hj]
theorem rblock_same (p q : List UInt8) (a b i : Nat) (hi : i ≤ 64) (h : ∀ j, j < i → byteAt p (a + j) = byteAt q (b + j)) : rblockTo p a i = rblockTo q b i := by
  unfold rblockTo
  apply List.map_congr_left
  intro k hk
  congr 1
  apply List.map_congr_left
  intro j hj
  have hj' := List.mem_range.1 hj
  have := h (4 * k + j) (by omega)
  rw [Nat.add_assoc, Nat.add_assoc]
  exact this
theorem run_is (kb tb : List UInt8) (hk : kb.length = 64) : runw (stepw h0 (rblockTo kb 0 64)) tb = refSum (kb ++ tb) := by
  have key : ∀ n, refSumAt (padded (kb ++ tb)) (n + 1) = runAt (stepw h0 (rblockTo kb 0 64)) (tailP tb) n := by
    intro n
    induction n with
    | zero =>
      show stepw h0 (rblockTo (padded (kb ++ tb)) (64 * 0) 64) = stepw h0 (rblockTo kb 0 64)
      rw [rblock_same (padded (kb ++ tb)) kb (64 * 0) 0 64 (by omega) fun j hj => byteAt_ahead kb tb _ (by omega)]
    | succ n ih =>
      show stepw (refSumAt (padded (kb ++ tb)) (n + 1)) (rblockTo (padded (kb ++ tb)) (64 * (n + 1)) 64) = stepw (runAt (stepw h0 (rblockTo kb 0 64)) (tailP tb) n) (rblockTo (tailP tb) (64 * (n + 1)) 64)
      rw [ih]
      unfold tailP
      rw [rblock_same (padded (kb ++ tb)) (padded (zeros64 ++ tb)) (64 * (n + 1)) (64 * (n + 1)) 64 (by omega) fun j hj => byteAt_behind kb zeros64 tb (by rw [hk]; rfl) _ (by omega)]
  unfold runw refSum
  rw [List.length_append, hk, key]
/-- A sum under a key's block. -/
def macK (kb tb : List UInt8) : List W32 := refSum (withB 92 kb ++ refBytes (refSum (withB 54 kb ++ tb)))
def macw (ks tb : List UInt8) : List W32 := macK (keyB ks) tb
theorem macK_length (kb tb : List UInt8) : (macK kb tb).length = 8 := refSum_length _
theorem macK_is (kb tb : List UInt8) (hk : kb.length = 64) : runw (stepw h0 (rblockTo (withB 92 kb) 0 64)) (refBytes (runw (stepw h0 (rblockTo (withB 54 kb) 0 64)) tb)) = macK kb tb := by
  rw [run_is _ _ (by rw [withB_length, hk]), run_is _ _ (by rw [withB_length, hk])]
  rfl
/-- A word's low byte with a byte. -/
theorem xor_byte (x : W32) (c : UInt8) : (x &&& kw 255) ^^^ kw c.toNat = kw ((byteOf x) ^^^ c).toNat := by
  have h1 : x &&& kw 255 = kw (byteOf x).toNat := by
    apply BitVec.eq_of_toNat_eq
    have hb := (byteOf x).toNat_lt
    rw [BitVec.toNat_and, kw_nat 255 (by omega), kw_nat _ (by omega), show (255 : Nat) = 2 ^ 8 - 1 from rfl, Nat.and_two_pow_sub_one_eq_mod]
    unfold byteOf
    rw [UInt8.toNat_ofNat']
  rw [h1]
  apply BitVec.eq_of_toNat_eq
  have h2 := (byteOf x).toNat_lt
  have h3 := c.toNat_lt
  have h4 := ((byteOf x) ^^^ c).toNat_lt
  rw [BitVec.toNat_xor, kw_nat _ (by omega), kw_nat _ (by omega), kw_nat _ (by omega), UInt8.toNat_xor]
/-- Words as bytes. -/
def lowB (l : List W32) : List UInt8 := l.map byteOf
theorem lowB_length (l : List W32) : (lowB l).length = l.length := by simp [lowB]
theorem with_at (l : List W32) (c : UInt8) (i : Nat) (h : i < l.length) : (at32 l i &&& kw 255) ^^^ kw c.toNat = byteAt (withB c (lowB l)) i := by
  rw [xor_byte]
  unfold byteAt withB lowB at32
  simp [h]
theorem low_at (l : List W32) (i : Nat) (h : i < l.length) : at32 l i &&& kw 255 = byteAt (lowB l) i := by
  unfold byteAt lowB at32
  have h1 : ∀ x : W32, x &&& kw 255 = kw (byteOf x).toNat := fun x => by
    have := xor_byte x 0
    rw [show kw (0 : UInt8).toNat = 0#32 from rfl, BitVec.xor_zero, UInt8.xor_zero] at this
    exact this
  rw [h1]
  simp [h]
theorem joinw_low (xs : List W32) (hs : xs.length ≤ 500000) : joinw xs = refSum (lowB xs) := by
  have hl : xs.length = (lowB xs).length := (lowB_length xs).symm
  unfold joinw
  conv => lhs; rw [hl]
  exact hash_is _ _ _ (Nat.le_refl _) (by omega) fun i hi => low_at xs i (by omega)
end Go.Proofs.YthnackakgglhbaaGreat

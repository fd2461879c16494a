/- What hmac's key and its tail come to, without program. -/
import Derived.Test.YthnackakgglhbaaGreatHe
namespace Go.Proofs.YthnackakgglhbaaGreat
open Go.RowKit
set_option maxRecDepth 100000
set_option linter.unusedSimpArgs false
set_option linter.unusedVariables false
theorem byteOf_kw (b : UInt8) : byteOf (kw b.toNat) = b := by
  unfold byteOf
  have := b.toNat_lt
  rw [kw_nat _ (by omega)]
  simp
theorem byteOf_same {x : W32} {b : UInt8} (h : x &&& kw 255 = kw b.toNat) : byteOf x = b := by rw [← byte_and, h, byteOf_kw]
theorem keyB_at (ks : List UInt8) (i : Nat) (hi : i < 64) : (keyB ks)[i]? = some ((shortK ks).getD i 0) := by
  have hs := shortK_le ks
  unfold keyB
  by_cases h : i < (shortK ks).length
  · rw [List.getElem?_append_left h]; simp [h]
  · rw [List.getElem?_append_right (by omega), List.getElem?_replicate, if_pos (by omega)]
    simp [List.getElem?_eq_none (show (shortK ks).length ≤ i by omega)]
theorem digAt_byte (h : List W32) (hh : h.length = 8) (i : Nat) : byteOf (digAt (bytesw h) i) = (refBytes h).getD i 0 := by
  have hl := bytesw_length h hh
  have hr := refBytes_length h hh
  unfold digAt
  split
  · next q =>
    rw [← bytes_eq h]
    simp [at32, hl, q]
  · next q =>
    simp [List.getElem?_eq_none (show (refBytes h).length ≤ i by omega)]
    rfl
/-- The words of a key read as its block. -/
theorem either_is (ks : List UInt8) (n : Nat) (bs : Nat → W32) (hm : ks.length ≤ n) (hn : n ≤ 1000000) (hf : ∀ i, i < ks.length → bs i &&& kw 255 = byteAt ks i) :
    lowB (eitherL n (kw ks.length) bs (bytesw (refSum ks))) = keyB ks := by
  apply List.ext_getElem?
  intro i
  by_cases hi : i < 64
  · rw [keyB_at ks i hi]
    have e : (lowB (eitherL n (kw ks.length) bs (bytesw (refSum ks))))[i]? = some (byteOf (selw (longW (kw ks.length)) (digAt (bytesw (refSum ks)) i) (at32 (firstL (kw ks.length) bs n) i))) := by
      simp [lowB, eitherL, secondL, hi]
    rw [e]
    congr 1
    have hlt : ltw (kw 64) (kw ks.length) = decide (64 < ks.length) := by rw [ltw_kw _ _ (by omega) (by omega)]
    have hfi : at32 (firstL (kw ks.length) bs n) i = if i < n then mk (ltw (kw i) (kw ks.length)) &&& bs i else 0#32 := by simp [at32, firstL, hi]
    unfold longW
    rw [hlt, hfi]
    by_cases h64 : 64 < ks.length
    · rw [decide_eq_true h64, sel_true, digAt_byte _ (refSum_length _)]
      unfold shortK
      rw [if_pos h64]
    · rw [decide_eq_false h64, sel_false]
      unfold shortK
      rw [if_neg h64]
      rw [ltw_kw _ _ (by omega) (by omega)]
      by_cases hik : i < ks.length
      · rw [if_pos (by omega), decide_eq_true hik, mk_true_and]
        exact byteOf_same (hf i hik)
      · rw [decide_eq_false hik, mk_false_and]
        simp [List.getElem?_eq_none (show ks.length ≤ i by omega)]
        rfl
  · rw [List.getElem?_eq_none (by rw [lowB_length]; unfold eitherL; rw [secondL_length]; omega), List.getElem?_eq_none (by rw [keyB_length]; omega)]
/-! The tail. -/
/-- A block's words of a text with the mark behind it. -/
def rawBlk (tb : List UInt8) (i n : Nat) : List W32 := rblockTo (tb ++ [128]) (64 * i) n
def rawCells (tb : List UInt8) (k : Nat) : List Value := (List.range k).flatMap fun i => (cw (rawBlk tb i 64)).toList
def endBlk (tb : List UInt8) (i : Nat) : List W32 := rblockTo (tailP tb) (64 * (i + 1)) 64
def endCells (tb : List UInt8) (k : Nat) : List Value := (List.range k).flatMap fun i => (cw (endBlk tb i)).toList
/-- How many blocks a tail has. -/
def tails (tb : List UInt8) : Nat := lastAt (64 + tb.length)
theorem cw_list_length (xs : List W32) : (cw xs).toList.length = xs.length := by simp [cw]
theorem rawCells_length (tb : List UInt8) (k : Nat) : (rawCells tb k).length = k * 16 := by
  induction k with
  | zero => rfl
  | succ k ih =>
    unfold rawCells at ih ⊢
    rw [List.range_succ, List.flatMap_append, List.length_append, ih]
    simp only [List.flatMap_cons, List.flatMap_nil, List.append_nil, cw_list_length]
    unfold rawBlk
    rw [rblockTo_length]; omega
theorem rawCells_snoc (tb : List UInt8) (k : Nat) : rawCells tb (k + 1) = rawCells tb k ++ (cw (rawBlk tb k 64)).toList := by
  unfold rawCells
  rw [List.range_succ, List.flatMap_append]; simp
theorem tails_pos (tb : List UInt8) : 1 ≤ tails tb := by unfold tails lastAt; omega
theorem tail_low (tb : List UInt8) (hn : tb.length ≤ 500000) (i : Nat) (hi : i < 64 * (tails tb - 1) + 56) : byteAt (tailP tb) (64 + i) = byteAt (tb ++ [128]) i := by
  have hp := tails_pos tb
  have hlz : (zeros64 ++ tb).length = 64 + tb.length := by rw [List.length_append]; rfl
  unfold tailP
  rw [byte_low (zeros64 ++ tb) (64 + tb.length) _ rfl hlz _ (by unfold tails at hi hp; omega)]
  unfold byteAt
  rw [List.append_assoc, gD_right zeros64 _ _ (by show 64 ≤ 64 + i; omega)]
  congr 3
  show 64 + i - 64 = i
  omega
theorem endBlk_mid (tb : List UInt8) (hn : tb.length ≤ 500000) (i : Nat) (hi : i + 1 < tails tb) : endBlk tb i = rawBlk tb i 64 := by
  unfold endBlk rawBlk
  refine rblock_same _ _ _ _ 64 (by omega) fun j hj => ?_
  have := tail_low tb hn (64 * i + j) (by omega)
  rw [← this]
  congr 1
  omega
theorem high_words (bs : List UInt8) (hn : bs.length ≤ 1000000) (k : Nat) (h1 : 14 ≤ k) (h2 : k < 16) : at32 (rblockTo (padded bs) (64 * lastAt bs.length) 64) k = if k = 15 then kw (bs.length * 8) else 0#32 := by
  rw [rblockTo_at _ _ _ _ h2, show min 4 (64 - 4 * k) = 4 by omega, four_of]
  have hb : ∀ j, j < 4 → byteAt (padded bs) (64 * lastAt bs.length + 4 * k + j) = kw (bs.length * 8 / 2 ^ (56 - 8 * (4 * (k - 14) + j)) % 256) := fun j hj => by
    rw [← byte_high bs bs.length _ rfl rfl (4 * (k - 14) + j) (by omega)]
    congr 1
    omega
  rw [hb 0 (by omega), hb 1 (by omega), hb 2 (by omega), hb 3 (by omega), word4 _ _ _ _ (by omega) (by omega) (by omega) (by omega)]
  rcases (show k = 14 ∨ k = 15 by omega) with rfl | rfl
  · rw [if_neg (by omega)]
    show kw _ = kw 0
    congr 1
    simp only [Nat.reduceSub, Nat.reduceMul, Nat.reduceAdd, Nat.reducePow]
    omega
  · rw [if_pos rfl]
    congr 1
    simp only [Nat.reduceSub, Nat.reduceMul, Nat.reduceAdd, Nat.reducePow]
    omega
theorem endBlk_last (tb : List UInt8) (hn : tb.length ≤ 500000) : endBlk tb (tails tb - 1) = ((rawBlk tb (tails tb - 1) 64).set 15 (kw (8 * (64 + tb.length)))).set 14 0#32 := by
  have hp := tails_pos tb
  have hlz : (zeros64 ++ tb).length = 64 + tb.length := by rw [List.length_append]; rfl
  refine ext16 _ _ (rblockTo_length _ _ _) (by rw [List.length_set, List.length_set]; exact rblockTo_length _ _ _) fun k hk => ?_
  have e : 64 * (tails tb - 1 + 1) = 64 * lastAt (zeros64 ++ tb).length := by rw [hlz]; unfold tails at hp ⊢; omega
  have hl : (rawBlk tb (tails tb - 1) 64).length = 16 := rblockTo_length _ _ _
  by_cases h14 : 14 ≤ k
  · have := high_words (zeros64 ++ tb) (by omega) k h14 hk
    unfold endBlk
    rw [e]
    show at32 (rblockTo (padded (zeros64 ++ tb)) _ 64) k = _
    rw [this, hlz]
    rcases (show k = 14 ∨ k = 15 by omega) with rfl | rfl
    · rw [if_neg (by omega)]
      simp [at32, hl]
    · rw [if_pos rfl]
      simp [at32, hl, Nat.mul_comm]
  · have e2 : at32 (((rawBlk tb (tails tb - 1) 64).set 15 (kw (8 * (64 + tb.length)))).set 14 0#32) k = at32 (rawBlk tb (tails tb - 1) 64) k := by
      unfold at32
      rw [List.getD_eq_getElem?_getD, List.getD_eq_getElem?_getD, List.getElem?_set_ne (by omega), List.getElem?_set_ne (by omega)]
    rw [e2]
    unfold endBlk rawBlk
    rw [rblockTo_at _ _ _ _ hk, rblockTo_at _ _ _ _ hk]
    congr 1
    apply List.map_congr_left
    intro j hj
    have hj' := List.mem_range.1 hj
    have := tail_low tb hn (64 * (tails tb - 1) + 4 * k + j) (by omega)
    rw [← this]
    congr 1
    omega
theorem endCells_is (tb : List UInt8) (hn : tb.length ≤ 500000) : endCells tb (tails tb) = ((rawCells tb (tails tb)).set ((tails tb - 1) * 16 + 15) (sec (kw (8 * (64 + tb.length))))).set ((tails tb - 1) * 16 + 14) (sec 0#32) := by
  have hp := tails_pos tb
  have hl := endBlk_last tb hn
  have hlen := rawCells_length tb (tails tb - 1)
  have e1 : endCells tb (tails tb) = rawCells tb (tails tb - 1) ++ (cw (endBlk tb (tails tb - 1))).toList := by
    conv => lhs; rw [show tails tb = (tails tb - 1) + 1 by omega]
    unfold endCells rawCells
    rw [List.range_succ, List.flatMap_append]
    simp only [List.flatMap_cons, List.flatMap_nil, List.append_nil]
    congr 1
    unfold List.flatMap
    congr 1
    apply List.map_congr_left
    intro i hi
    have hi' := List.mem_range.1 hi
    rw [endBlk_mid tb hn i (by omega)]
  have e2 : rawCells tb (tails tb) = rawCells tb (tails tb - 1) ++ (cw (rawBlk tb (tails tb - 1) 64)).toList := by
    conv => lhs; rw [show tails tb = (tails tb - 1) + 1 by omega]
    exact rawCells_snoc tb _
  rw [e1, e2, hl]
  rw [List.set_append_right _ _ (by omega), List.set_append_right _ _ (by omega), hlen]
  congr 1
  simp only [cw, List.map_set, Nat.add_sub_cancel_left]
  rfl
theorem endCells_at (tb : List UInt8) (n k : Nat) (hk : k < n) (j : Nat) (hj : j < 16) : (endCells tb n)[k * 16 + j]? = (cw (endBlk tb k)).toList[j]? := by
  induction n with
  | zero => omega
  | succ n ih =>
    have e : endCells tb (n + 1) = endCells tb n ++ (cw (endBlk tb n)).toList := by
      unfold endCells
      rw [List.range_succ, List.flatMap_append]; simp
    have hl : ∀ n, (endCells tb n).length = n * 16 := fun n => by
      induction n with
      | zero => rfl
      | succ n ih =>
        unfold endCells at ih ⊢
        rw [List.range_succ, List.flatMap_append, List.length_append, ih]
        simp only [List.flatMap_cons, List.flatMap_nil, List.append_nil, cw_list_length]
        unfold endBlk
        rw [rblockTo_length]; omega
    rw [e]
    by_cases q : k = n
    · subst q
      rw [List.getElem?_append_right (by rw [hl]; omega), hl, Nat.add_sub_cancel_left]
    · rw [List.getElem?_append_left (by rw [hl]; omega)]
      exact ih (by omega)
theorem runAt_step (h : List W32) (tb : List UInt8) (k : Nat) : stepw (runAt h (tailP tb) k) (endBlk tb k) = runAt h (tailP tb) (k + 1) := rfl
end Go.Proofs.YthnackakgglhbaaGreat

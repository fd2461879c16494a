/- The program's sum is the document's: pure words. -/
import Derived.Test.YthnackakgglhbaaGreatRs
namespace Go.Proofs.YthnackakgglhbaaGreat
open Go.RowKit
set_option linter.unusedSimpArgs false
set_option maxRecDepth 10000
theorem gD_left (l r : List UInt8) (i : Nat) (h : i < l.length) : (l ++ r).getD i 0 = l.getD i 0 := by rw [List.getD_eq_getElem?_getD, List.getD_eq_getElem?_getD, List.getElem?_append_left h]
theorem gD_right (l r : List UInt8) (i : Nat) (h : l.length ≤ i) : (l ++ r).getD i 0 = r.getD (i - l.length) 0 := by rw [List.getD_eq_getElem?_getD, List.getD_eq_getElem?_getD, List.getElem?_append_right h]
theorem gD_none (l : List UInt8) (i : Nat) (h : l.length ≤ i) : l.getD i 0 = 0 := by rw [List.getD_eq_getElem?_getD, List.getElem?_eq_none h]; rfl
theorem kw_nat (x : Nat) (h : x < 4294967296) : (kw x).toNat = x := by unfold kw; rw [BitVec.toNat_ofNat]; omega
theorem kw_add (a b : Nat) : kw a + kw b = kw (a + b) := by unfold kw; rw [BitVec.ofNat_add]
theorem shr_kw (x k : Nat) (h : x < 4294967296) : shrI (kw x) (k : Int) = kw (x / 2 ^ k) := by
  apply BitVec.eq_of_toNat_eq
  unfold shrI
  rw [BitVec.toNat_ushiftRight, Int.toNat_natCast, kw_nat x h, Nat.shiftRight_eq_div_pow, kw_nat]
  exact Nat.lt_of_le_of_lt (Nat.div_le_self _ _) h
theorem shl_kw (x k : Nat) : shlI (kw x) (k : Int) = kw (x * 2 ^ k) := by
  apply BitVec.eq_of_toNat_eq
  unfold shlI kw
  rw [BitVec.toNat_shiftLeft, Int.toNat_natCast, BitVec.toNat_ofNat, BitVec.toNat_ofNat, Nat.shiftLeft_eq, Nat.mod_mul_mod]
theorem eqw_kw (a b : Nat) (ha : a < 4294967296) (hb : b < 4294967296) : eqw (kw a) (kw b) = decide (a = b) := by
  unfold eqw
  rw [Bool.eq_iff_iff, beq_iff_eq, decide_eq_true_iff]
  refine ⟨fun h => ?_, fun h => by rw [h]⟩
  have := congrArg BitVec.toNat h
  rwa [kw_nat a ha, kw_nat b hb] at this
theorem ltw_kw (a b : Nat) (ha : a < 4294967296) (hb : b < 4294967296) : ltw (kw a) (kw b) = decide (a < b) := by
  unfold ltw; rw [kw_nat a ha, kw_nat b hb]
theorem mk_true_and (x : W32) : mk true &&& x = x := by
  show 4294967295#32 &&& x = x
  have : (4294967295#32 : BitVec 32) = BitVec.allOnes 32 := by decide
  rw [this, BitVec.allOnes_and]
theorem mk_false_and (x : W32) : mk false &&& x = 0#32 := by show 0#32 &&& x = 0#32; simp
theorem sel_true (a b : W32) : selw (mk true) a b = a := by
  unfold selw; rw [mk_true_and, ← BitVec.xor_assoc, BitVec.xor_comm b a, BitVec.xor_assoc, BitVec.xor_self, BitVec.xor_zero]
theorem sel_false (a b : W32) : selw (mk false) a b = b := by unfold selw; rw [mk_false_and, BitVec.xor_zero]
theorem selAt_true : ∀ h o : List W32, h.length = o.length → selAt (mk true) h o = h
  | [], [], _ => rfl
  | a :: h, b :: o, e => by
    have := selAt_true h o (by simpa using e)
    unfold selAt at this ⊢
    rw [List.zipWith_cons_cons, sel_true, this]
  | [], _ :: _, e => by simp at e
  | _ :: _, [], e => by simp at e
theorem selAt_false : ∀ h o : List W32, h.length = o.length → selAt (mk false) h o = o
  | [], [], _ => rfl
  | a :: h, b :: o, e => by
    have := selAt_false h o (by simpa using e)
    unfold selAt at this ⊢
    rw [List.zipWith_cons_cons, sel_false, this]
  | [], _ :: _, e => by simp at e
  | _ :: _, [], e => by simp at e
section
variable (bs : List UInt8) (n : Nat) (f : Nat → W32)
/-- Which block is the last one. -/
theorem last_is (m b : Nat) (hm : m ≤ 1000000) (hb : b ≤ 1000000) : lastw b (kw m) = mk (decide (b = lastAt m)) := by
  unfold lastw lastAt
  rw [kw_add, show (6 : Int) = ((6 : Nat) : Int) from rfl, shr_kw _ _ (by omega), eqw_kw _ _ (by omega) (by omega)]
theorem pad_is (hm : bs.length ≤ n) (hn : n ≤ 1000000) (hf : ∀ i, i < bs.length → f i &&& kw 255 = byteAt bs i) (i : Nat) (hi : i ≤ 2000000) : padw (bytew n f i) i (kw bs.length) = byteAt (bs ++ [128]) i := by
  unfold padw
  rw [ltw_kw _ _ (by omega) (by omega), eqw_kw _ _ (by omega) (by omega)]
  rcases Nat.lt_trichotomy i bs.length with q | q | q
  · rw [decide_eq_true q, decide_eq_false (by omega), mk_true_and, mk_false_and, BitVec.or_zero]
    unfold bytew
    rw [if_pos (by omega), hf i q]
    unfold byteAt
    rw [gD_left _ _ _ q]
  · rw [decide_eq_false (by omega), decide_eq_true q, mk_false_and, mk_true_and, BitVec.zero_or]
    subst q
    simp [byteAt]
  · rw [decide_eq_false (by omega), decide_eq_false (by omega), mk_false_and, mk_false_and]
    unfold byteAt
    rw [gD_none _ _ (by simp; omega)]
    rfl
theorem byte_low (m : Nat) (p : List UInt8) (hp : p = padded bs) (hm : bs.length = m) (i : Nat) (hi : i < 64 * lastAt m + 56) : byteAt p i = byteAt (bs ++ [128]) i := by
  subst hp; subst hm
  unfold byteAt padded
  rw [gD_left _ _ _ (by rw [padB_length _ _ (by unfold lastAt; omega)]; exact hi)]
  unfold padB
  by_cases h : i < (bs ++ [128]).length
  · rw [gD_left _ _ _ h]
  · rw [gD_right _ _ _ (by omega), gD_none (bs ++ [128]) _ (by omega)]
    rw [List.getD_eq_getElem?_getD, List.getElem?_replicate]
    split <;> rfl
theorem byte_high (m : Nat) (p : List UInt8) (hp : p = padded bs) (hm : bs.length = m) (j : Nat) (hj : j < 8) : byteAt p (64 * lastAt m + 56 + j) = kw (m * 8 / 2 ^ (56 - 8 * j) % 256) := by
  subst hp; subst hm
  unfold byteAt padded
  have hl := padB_length bs (64 * lastAt bs.length + 56) (by unfold lastAt; omega)
  rw [gD_right _ _ _ (by rw [hl]; omega), hl, Nat.add_sub_cancel_left]
  unfold lenBytes
  rw [List.getD_eq_getElem?_getD, List.getElem?_map, List.getElem?_range hj]
  simp only [Option.map_some, Option.getD_some]
  rw [UInt8.toNat_ofNat']
theorem shl_or (a b : Nat) (ha : a < 16777216) (hb : b < 256) : shlI (kw a) 8 ||| kw b = kw (a * 256 + b) := by
  rw [show (8 : Int) = ((8 : Nat) : Int) from rfl, shl_kw]
  apply BitVec.eq_of_toNat_eq
  rw [BitVec.toNat_or, kw_nat _ (by omega), kw_nat _ (by omega), kw_nat _ (by omega)]
  have := Nat.shiftLeft_add_eq_or_of_lt (i := 8) (show b < 2 ^ 8 from hb) a
  rw [Nat.shiftLeft_eq] at this
  rw [show a * 2 ^ 8 = a * 256 by omega] at this ⊢
  exact this.symm
theorem word4 (a b c d : Nat) (ha : a < 256) (hb : b < 256) (hc : c < 256) (hd : d < 256) : wordw [kw a, kw b, kw c, kw d] = kw (((a * 256 + b) * 256 + c) * 256 + d) := by
  unfold wordw
  simp only [List.foldl_cons, List.foldl_nil]
  rw [show (0#32 : BitVec 32) = kw 0 from rfl, shl_or 0 a (by omega) ha, shl_or _ b (by omega) hb, shl_or _ c (by omega) hc, shl_or _ d (by omega) hd, Nat.zero_mul, Nat.zero_add]
theorem four_of (g : Nat → W32) : (List.range 4).map g = [g 0, g 1, g 2, g 3] := rfl
/-- A word of a block that lies ahead of the length. -/
theorem word_same (hm : bs.length ≤ n) (hn : n ≤ 1000000) (hf : ∀ i, i < bs.length → f i &&& kw 255 = byteAt bs i) (b k : Nat) (hk : k < 16) (hb : 64 * b + 4 * k + 4 ≤ 64 * lastAt bs.length + 56) :
    wordw (fourw n (kw bs.length) f b k 4) = at32 (rblockTo (padded bs) (64 * b) 64) k := by
  rw [rblockTo_at _ _ _ _ hk, show min 4 (64 - 4 * k) = 4 by omega]
  have hle : 64 * lastAt bs.length ≤ 1000064 := by unfold lastAt; omega
  congr 1
  unfold fourw
  apply List.map_congr_left
  intro j hj
  have hj' : j < 4 := List.mem_range.1 hj
  rw [pad_is bs n f hm hn hf _ (by omega), byte_low bs bs.length _ rfl rfl _ (by omega)]
  congr 1
  omega
theorem block_at (b m k : Nat) (len : W32) (hk : k < m) : at32 (blockw n len f b m) k = wordw (fourw n len f b k 4) := by
  simp [at32, blockw, hk]
theorem ext16 (xs ys : List W32) (hx : xs.length = 16) (hy : ys.length = 16) (h : ∀ k, k < 16 → at32 xs k = at32 ys k) : xs = ys := by
  apply List.ext_getElem (by omega)
  intro k h1 h2
  have := h k (by omega)
  simpa [at32, h1, h2] using this
theorem block_mid (hm : bs.length ≤ n) (hn : n ≤ 1000000) (hf : ∀ i, i < bs.length → f i &&& kw 255 = byteAt bs i) (b : Nat) (hb : b < lastAt bs.length) :
    lastBlock (blockw n (kw bs.length) f b 16) b (kw bs.length) = rblockTo (padded bs) (64 * b) 64 := by
  have hle : lastAt bs.length ≤ 1000000 := by unfold lastAt; omega
  unfold lastBlock
  rw [last_is _ _ (by omega) (by omega), decide_eq_false (by omega), mk_false_and, BitVec.or_zero]
  refine ext16 _ _ (by simp [blockw_length]) (rblockTo_length _ _ _) fun k hk => ?_
  have e : (blockw n (kw bs.length) f b 16).set 15 (at32 (blockw n (kw bs.length) f b 16) 15) = blockw n (kw bs.length) f b 16 := by
    refine ext16 _ _ (by simp [blockw_length]) (blockw_length _ _ _ _ _) fun k hk => ?_
    by_cases q : k = 15
    · subst q; simp [at32, blockw_length]
    · simp [at32, List.getElem?_set_ne (Ne.symm q)]
  rw [e, block_at n f b 16 k _ hk, word_same bs n f hm hn hf b k hk (by omega)]
theorem block_last (hm : bs.length ≤ n) (hn : n ≤ 1000000) (hf : ∀ i, i < bs.length → f i &&& kw 255 = byteAt bs i) :
    lastBlock (blockw n (kw bs.length) f (lastAt bs.length) 16) (lastAt bs.length) (kw bs.length) = rblockTo (padded bs) (64 * lastAt bs.length) 64 := by
  have hle : lastAt bs.length ≤ 1000000 := by unfold lastAt; omega
  have hlo : bs.length < 64 * lastAt bs.length + 56 := by unfold lastAt; omega
  unfold lastBlock
  rw [last_is _ _ (by omega) (by omega), decide_eq_true rfl, mk_true_and]
  have zero : ∀ k, 14 ≤ k → k < 16 → wordw (fourw n (kw bs.length) f (lastAt bs.length) k 4) = 0#32 := fun k h1 h2 => by
    have e : fourw n (kw bs.length) f (lastAt bs.length) k 4 = [0#32, 0#32, 0#32, 0#32] := by
      unfold fourw
      have z : ∀ j, j < 4 → padw (bytew n f (lastAt bs.length * 64 + 4 * k + j)) (lastAt bs.length * 64 + 4 * k + j) (kw bs.length) = 0#32 := fun j hj => by
        rw [pad_is bs n f hm hn hf _ (by unfold lastAt; omega)]
        unfold byteAt
        rw [gD_none _ _ (by simp; omega)]
        rfl
      rw [four_of, z 0 (by omega), z 1 (by omega), z 2 (by omega), z 3 (by omega)]
    rw [e]; rfl
  have hi : ∀ k, 14 ≤ k → k < 16 → at32 (rblockTo (padded bs) (64 * lastAt bs.length) 64) k = if k = 15 then kw (bs.length * 8) else 0#32 := fun k h1 h2 => by
    rw [rblockTo_at _ _ _ _ h2, show min 4 (64 - 4 * k) = 4 by omega, four_of]
    have hb : ∀ j, j < 4 → byteAt (padded bs) (64 * lastAt bs.length + 4 * k + j) = kw (bs.length * 8 / 2 ^ (56 - 8 * (4 * (k - 14) + j)) % 256) := fun j hj => by
      rw [← byte_high bs bs.length _ rfl rfl (4 * (k - 14) + j) (by omega)]
      congr 1
      omega
    rw [hb 0 (by omega), hb 1 (by omega), hb 2 (by omega), hb 3 (by omega), word4 _ _ _ _ (by omega) (by omega) (by omega) (by omega)]
    rcases (show k = 14 ∨ k = 15 by omega) with rfl | rfl
    · rw [if_neg (by omega)]
      show kw _ = kw 0
      congr 1
      simp only [Nat.reduceSub, Nat.reduceMul, Nat.reduceAdd, Nat.reducePow]
      omega
    · rw [if_pos rfl]
      congr 1
      simp only [Nat.reduceSub, Nat.reduceMul, Nat.reduceAdd, Nat.reducePow]
      omega
  refine ext16 _ _ (by simp [blockw_length]) (rblockTo_length _ _ _) fun k hk => ?_
  by_cases q : k = 15
  · subst q
    rw [hi 15 (by omega) (by omega), if_pos rfl]
    rw [block_at n f _ 16 15 _ (by omega), zero 15 (by omega) (by omega)]
    simp only [at32, List.getD_eq_getElem?_getD]
    rw [List.getElem?_set_self (by rw [blockw_length]; omega)]
    rw [show (3 : Int) = ((3 : Nat) : Int) from rfl, shl_kw]
    simp
  · have e : at32 ((blockw n (kw bs.length) f (lastAt bs.length) 16).set 15 (at32 (blockw n (kw bs.length) f (lastAt bs.length) 16) 15 ||| shlI (kw bs.length) 3)) k = at32 (blockw n (kw bs.length) f (lastAt bs.length) 16) k := by
      simp only [at32, List.getD_eq_getElem?_getD]
      rw [List.getElem?_set_ne (Ne.symm q)]
    rw [e, block_at n f _ 16 k _ hk]
    by_cases h14 : k = 14
    · subst h14
      rw [zero 14 (by omega) (by omega), hi 14 (by omega) (by omega), if_neg (by omega)]
    · exact word_same bs n f hm hn hf _ k hk (by omega)
theorem at_low (hm : bs.length ≤ n) (hn : n ≤ 1000000) (hf : ∀ i, i < bs.length → f i &&& kw 255 = byteAt bs i) : ∀ b, b ≤ lastAt bs.length → (hashAt n (kw bs.length) f b).1 = refSumAt (padded bs) b
  | 0, _ => rfl
  | b + 1, hb => by
    show stepw (hashAt n (kw bs.length) f b).1 (lastBlock (blockw n (kw bs.length) f b 16) b (kw bs.length)) = stepw (refSumAt (padded bs) b) (rblockTo (padded bs) (64 * b) 64)
    rw [at_low hm hn hf b (by omega), block_mid bs n f hm hn hf b (by omega)]
theorem at_high (hm : bs.length ≤ n) (hn : n ≤ 1000000) (hf : ∀ i, i < bs.length → f i &&& kw 255 = byteAt bs i) : ∀ d, lastAt bs.length + d ≤ 1000000 → (hashAt n (kw bs.length) f (lastAt bs.length + 1 + d)).2 = refSum bs
  | 0, _ => by
    have hle : lastAt bs.length ≤ 1000000 := by unfold lastAt; omega
    show selAt (lastw (lastAt bs.length) (kw bs.length)) (stepw (hashAt n (kw bs.length) f (lastAt bs.length)).1 (lastBlock (blockw n (kw bs.length) f (lastAt bs.length) 16) (lastAt bs.length) (kw bs.length))) (hashAt n (kw bs.length) f (lastAt bs.length)).2 = _
    have hl := hashAt_length n (kw bs.length) f (lastAt bs.length)
    rw [last_is _ _ (by omega) (by omega), decide_eq_true rfl, selAt_true _ _ (by rw [stepw_length _ _ hl.1, hl.2]), at_low bs n f hm hn hf _ (Nat.le_refl _), block_last bs n f hm hn hf]
    rfl
  | d + 1, hd => by
    show selAt (lastw (lastAt bs.length + 1 + d) (kw bs.length)) (stepw (hashAt n (kw bs.length) f (lastAt bs.length + 1 + d)).1 _) (hashAt n (kw bs.length) f (lastAt bs.length + 1 + d)).2 = _
    have hl := hashAt_length n (kw bs.length) f (lastAt bs.length + 1 + d)
    rw [last_is _ _ (by omega) (by omega), decide_eq_false (by omega), selAt_false _ _ (by rw [stepw_length _ _ hl.1, hl.2])]
    exact at_high hm hn hf d (by omega)
/-- **The program's sum is the document's.** -/
theorem hash_is (hm : bs.length ≤ n) (hn : n ≤ 1000000) (hf : ∀ i, i < bs.length → f i &&& kw 255 = byteAt bs i) : hashw n (kw bs.length) f = refSum bs := by
  have h1 : lastAt bs.length + 1 ≤ blocksN n := by unfold lastAt blocksN; omega
  have h2 : blocksN n ≤ 100000 := by unfold blocksN; omega
  have := at_high bs n f hm hn hf (blocksN n - (lastAt bs.length + 1)) (by omega)
  rw [show lastAt bs.length + 1 + (blocksN n - (lastAt bs.length + 1)) = blocksN n by omega] at this
  exact this
end
end Go.Proofs.YthnackakgglhbaaGreat

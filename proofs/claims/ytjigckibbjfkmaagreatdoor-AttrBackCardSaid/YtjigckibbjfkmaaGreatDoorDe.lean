/- Decimal numerals without program: what Itoa writes and Atoi reads. -/
import Derived.Test.YtjigckibbjfkmaaGreatDoorSpl
import Derived.Lib.ItoaLen
import Derived.Lib.AtoiAllCases
namespace Go.Proofs.YtjigckibbjfkmaaGreatDoor
open Go.Lib
set_option maxRecDepth 100000
set_option linter.unusedSimpArgs false
set_option linter.unusedVariables false
/-! ### Decimal numerals -/
def isD (b : UInt8) : Bool := decide (48 ≤ b.toNat ∧ b.toNat ≤ 57)
def valD (l : List UInt8) : Nat := l.foldl (fun v b => v * 10 + (b.toNat - 48)) 0
theorem valD_snoc (l : List UInt8) (b : UInt8) : valD (l ++ [b]) = valD l * 10 + (b.toNat - 48) := by simp [valD]
theorem dig_back (b : UInt8) (h : isD b = true) : UInt8.ofNat (48 + (b.toNat - 48)) = b := by
  simp only [isD, decide_eq_true_eq] at h
  rw [show 48 + (b.toNat - 48) = b.toNat by omega]
  simp
theorem rev_ind {P : List UInt8 → Prop} (h0 : P []) (hs : ∀ l b, P l → P (l ++ [b])) : ∀ l, P l := fun l => by
  have : ∀ r : List UInt8, P r.reverse := fun r => by
    induction r with
    | nil => exact h0
    | cons b r ih => rw [List.reverse_cons]; exact hs _ _ ih
  have h := this l.reverse
  rwa [List.reverse_reverse] at h
theorem canon : ∀ l : List UInt8, l ≠ [] → l.all isD = true → l.head? ≠ some 48 → decDigits (valD l) = l ∧ 1 ≤ valD l := by
  refine rev_ind ?_ ?_
  · intro h; exact absurd rfl h
  · intro l b ih _ hd hh
    rw [List.all_append, Bool.and_eq_true] at hd
    have hb : isD b = true := by simpa using hd.2
    have hb2 := hb
    simp only [isD, decide_eq_true_eq] at hb2
    cases l with
    | nil =>
      have h48 : b ≠ 48 := fun e => hh (by simp [e])
      have h9 : b.toNat ≠ 48 := fun e => h48 (by rw [← UInt8.toNat_inj]; exact e)
      have e : valD ([] ++ [b]) = b.toNat - 48 := by simp [valD]
      rw [e, decDigits_one (by omega), dig_back b hb]
      exact ⟨rfl, by omega⟩
    | cons x r =>
      have hx : (x :: r).head? ≠ some 48 := by simpa using hh
      obtain ⟨i1, i2⟩ := ih (by simp) hd.1 hx
      rw [valD_snoc]
      have h10 : ¬ valD (x :: r) * 10 + (b.toNat - 48) < 10 := by omega
      rw [decDigits, dif_neg h10]
      have e1 : (valD (x :: r) * 10 + (b.toNat - 48)) / 10 = valD (x :: r) := by omega
      have e2 : (valD (x :: r) * 10 + (b.toNat - 48)) % 10 = b.toNat - 48 := by omega
      rw [e1, e2, i1, dig_back b hb]
      exact ⟨rfl, by omega⟩
theorem dig_byte (d : Nat) (h : d < 10) : isD (UInt8.ofNat (48 + d)) = true ∧ (UInt8.ofNat (48 + d)).toNat = 48 + d := by
  have e : (UInt8.ofNat (48 + d)).toNat = 48 + d := by rw [UInt8.toNat_ofNat']; omega
  refine ⟨?_, e⟩
  simp only [isD, e, decide_eq_true_eq]
  omega
theorem dec_all (u : Nat) : (decDigits u).all isD = true ∧ valD (decDigits u) = u ∧ (1 ≤ u → (decDigits u).head? ≠ some 48) ∧ decDigits u ≠ [] := by
  induction u using Nat.strongRecOn with
  | _ u ih =>
    by_cases h : u < 10
    · obtain ⟨h1, h2⟩ := dig_byte u h
      rw [decDigits, dif_pos h]
      refine ⟨by rw [List.all_cons, h1]; rfl, by show 0 * 10 + ((UInt8.ofNat (48 + u)).toNat - 48) = u; rw [h2]; omega, fun hu e => ?_, by simp⟩
      have e2 : UInt8.ofNat (48 + u) = 48 := Option.some.inj e
      have e3 := congrArg UInt8.toNat e2
      rw [h2] at e3
      have : (48 : UInt8).toNat = 48 := rfl
      omega
    · obtain ⟨i1, i2, i3, i4⟩ := ih (u / 10) (by omega)
      obtain ⟨h1, h2⟩ := dig_byte (u % 10) (by omega)
      rw [decDigits, dif_neg h]
      refine ⟨by rw [List.all_append, i1, List.all_cons, h1]; rfl, by rw [valD_snoc, i2, h2]; omega, fun hu => ?_, by simp⟩
      cases hd : decDigits (u / 10) with
      | nil => exact absurd hd i4
      | cons x r =>
        have := i3 (by omega)
        rw [hd] at this
        simpa using this
theorem dec_len : ∀ n m : Nat, m < 10 ^ (n + 1) → (decDigits m).length ≤ n + 1
  | 0, m, h => by
    have : m < 10 := by simpa using h
    rw [decDigits, dif_pos this]; simp
  | n + 1, m, h => by
    by_cases h0 : m < 10
    · rw [decDigits, dif_pos h0]; simp
    · rw [decDigits, dif_neg h0, List.length_append]
      have := dec_len n (m / 10) (by rw [Nat.pow_succ] at h; omega)
      simp; omega
theorem dec0 : decDigits 0 = [48] := by rw [decDigits, dif_pos (by decide)]; rfl
/-- What a number is read as, as the document says. -/
def refN (l : List UInt8) : Option Int :=
  match l with
  | [] => none
  | c :: r =>
    if c = 45 then (if r ≠ [] ∧ r.length ≤ 19 ∧ r.head? ≠ some 48 ∧ r.all isD = true ∧ valD r ≤ 9223372036854775808 then some (-(valD r : Int)) else none)
    else if (c :: r).length ≤ 19 ∧ (c = 48 → r = []) ∧ (c :: r).all isD = true ∧ valD (c :: r) ≤ 9223372036854775807 then some (valD (c :: r) : Int) else none
theorem refN_is (l : List UInt8) (v : Int) (h : refN l = some v) : itoa v = l ∧ -9223372036854775808 ≤ v ∧ v ≤ 9223372036854775807 := by
  cases l with
  | nil => cases h
  | cons c r =>
    simp only [refN] at h
    by_cases hc : c = 45
    · rw [if_pos hc] at h
      split at h
      · rename_i q
        obtain ⟨q1, q2, q3, q4, q5⟩ := q
        obtain rfl := Option.some.inj h
        obtain ⟨e1, e2⟩ := canon r q1 q4 q3
        rw [itoa, if_pos (by omega), show (-(valD r : Int)).natAbs = valD r by omega, e1, hc]
        exact ⟨rfl, by omega, by omega⟩
      · cases h
    · rw [if_neg hc] at h
      split at h
      · rename_i q
        obtain ⟨q2, q3, q4, q5⟩ := q
        obtain rfl := Option.some.inj h
        rw [itoa, if_neg (by omega), Int.toNat_natCast]
        refine ⟨?_, by omega, by omega⟩
        by_cases h48 : c = 48
        · obtain rfl := q3 h48
          subst h48
          exact dec0
        · exact (canon (c :: r) (by simp) q4 (by simpa using h48)).1
      · cases h
theorem refN_itoa (v : Int) (h1 : -9223372036854775808 ≤ v) (h2 : v ≤ 9223372036854775807) : refN (itoa v) = some v := by
  by_cases hn : v < 0
  · obtain ⟨i1, i2, i3, i4⟩ := dec_all v.natAbs
    rw [itoa, if_pos hn, refN, if_pos rfl, if_pos ⟨i4, dec_len 18 _ (by omega), i3 (by omega), i1, by rw [i2]; omega⟩, i2]
    congr 1
    omega
  · obtain ⟨i1, i2, i3, i4⟩ := dec_all v.toNat
    rw [itoa, if_neg hn]
    have hl := dec_len 18 v.toNat (by omega)
    have h0 : v.toNat = 0 → decDigits v.toNat = [48] := fun q => by rw [q]; exact dec0
    cases hd : decDigits v.toNat with
    | nil => exact absurd hd i4
    | cons c r =>
      rw [hd] at i1 i2 i3 hl h0
      have hc : c ≠ 45 := by
        rintro rfl
        rw [List.all_cons] at i1
        exact absurd i1 (by simp [isD])
      simp only [refN]
      have h48 : c = 48 → r = [] := fun q => by
        rcases Nat.eq_zero_or_pos v.toNat with z | z
        · have := h0 z
          simp at this
          exact this.2
        · exact absurd (by simp [q]) (i3 z)
      rw [if_neg hc, if_pos ⟨hl, h48, i1, by rw [i2]; omega⟩, i2]
      exact congrArg some (by omega)
theorem parse_val : ∀ (l : List UInt8) (acc : Nat), l.all isD = true → l.foldl (fun v b => v * 10 + (b.toNat - 48)) acc ≤ 9223372036854775808 → parseUint10 acc l = .ok (l.foldl (fun v b => v * 10 + (b.toNat - 48)) acc)
  | [], acc, _, _ => rfl
  | b :: r, acc, h, hv => by
    rw [List.all_cons, Bool.and_eq_true] at h
    have hb := h.1
    simp only [isD, decide_eq_true_eq] at hb
    rw [List.foldl_cons] at hv ⊢
    have hge : ∀ (l : List UInt8) (a : Nat), a ≤ l.foldl (fun v b => v * 10 + (b.toNat - 48)) a := fun l => by
      induction l with
      | nil => intro a; exact Nat.le_refl _
      | cons x t ih => intro a; rw [List.foldl_cons]; have := ih (a * 10 + (x.toNat - 48)); omega
    have hg := hge r (acc * 10 + (b.toNat - 48))
    simp only [parseUint10]
    rw [if_pos hb, if_neg (by omega), if_neg (by omega)]
    exact parse_val r _ h.2 hv
theorem atoi_itoa (v : Int) (h1 : -9223372036854775808 ≤ v) (h2 : v ≤ 9223372036854775807) : atoiAll (itoa v) = .ok v := by
  by_cases hn : v < 0
  · obtain ⟨i1, i2, i3, i4⟩ := dec_all v.natAbs
    rw [itoa, if_pos hn, atoiAll_minus, parseMag, if_neg i4, parse_val _ 0 i1 (by show valD _ ≤ _; rw [i2]; omega)]
    show signed (.ok (valD _)) = _
    rw [i2, signed, if_neg (by omega)]
    congr 1
    omega
  · obtain ⟨i1, i2, i3, i4⟩ := dec_all v.toNat
    rw [itoa, if_neg hn]
    cases hd : decDigits v.toNat with
    | nil => exact absurd hd i4
    | cons c r =>
      rw [hd] at i1 i2
      have hc : 48 ≤ c.toNat := by
        rw [List.all_cons, Bool.and_eq_true] at i1
        have := i1.1
        simp only [isD, decide_eq_true_eq] at this
        exact this.1
      rw [atoiAll_plain c r (by omega) (by omega), parseMag, if_neg (by simp), parse_val _ 0 i1 (by show valD _ ≤ _; rw [i2]; omega)]
      show signless (.ok (valD _)) = _
      rw [i2, signless, if_neg (by omega)]
      congr 1
      omega
/-- What a word is read as: a number whose text it is. -/
def numA (l : List UInt8) : Option Int := match atoiAll l with
  | .ok v => if itoa v = l then some v else none
  | _ => none
theorem numA_some (l : List UInt8) (v : Int) (h : numA l = some v) : itoa v = l ∧ -9223372036854775808 ≤ v ∧ v ≤ 9223372036854775807 := by
  unfold numA at h
  split at h
  · rename_i u hu
    split at h
    · rename_i hi
      obtain rfl := Option.some.inj h
      exact ⟨hi, atoiAll_bounds hu⟩
    · cases h
  · cases h
theorem numA_itoa (v : Int) (h1 : -9223372036854775808 ≤ v) (h2 : v ≤ 9223372036854775807) : numA (itoa v) = some v := by
  unfold numA
  rw [atoi_itoa v h1 h2]
  simp
theorem numA_ref (l : List UInt8) : refN l = numA l := by
  cases h : refN l with
  | some v =>
    obtain ⟨e, b1, b2⟩ := refN_is l v h
    rw [← e, numA_itoa v b1 b2]
  | none =>
    cases h2 : numA l with
    | none => rfl
    | some v =>
      obtain ⟨e, b1, b2⟩ := numA_some l v h2
      rw [← e, refN_itoa v b1 b2] at h
      cases h
end Go.Proofs.YtjigckibbjfkmaaGreatDoor

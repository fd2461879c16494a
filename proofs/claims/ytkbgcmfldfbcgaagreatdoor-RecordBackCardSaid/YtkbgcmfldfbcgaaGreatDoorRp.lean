/- Records without program: their texts, and what a text is read as. -/
import Derived.Test.YtkbgcmfldfbcgaaGreatDoorBp
import Derived.Test.YtkbgcmfldfbcgaaGreatDoorSpl
import Derived.Lib.ItoaLen
namespace Go.Proofs.YtkbgcmfldfbcgaaGreatDoor
open Go.Lib
set_option maxRecDepth 100000
set_option linter.unusedSimpArgs false
set_option linter.unusedVariables false
/-! ### Decimal numerals -/
def isD (b : UInt8) : Bool := decide (48 ≤ b.toNat ∧ b.toNat ≤ 57)
def valD (l : List UInt8) : Nat := l.foldl (fun v b => v * 10 + (b.toNat - 48)) 0
theorem valD_snoc (l : List UInt8) (b : UInt8) : valD (l ++ [b]) = valD l * 10 + (b.toNat - 48) := by simp [valD]
theorem dig_back (b : UInt8) (h : isD b = true) : UInt8.ofNat (48 + (b.toNat - 48)) = b := by
  simp only [isD, decide_eq_true_eq] at h
  rw [show 48 + (b.toNat - 48) = b.toNat by omega]
  simp
theorem rev_ind {P : List UInt8 → Prop} (h0 : P []) (hs : ∀ l b, P l → P (l ++ [b])) : ∀ l, P l := fun l => by
  have : ∀ r : List UInt8, P r.reverse := fun r => by
    induction r with
    | nil => exact h0
    | cons b r ih => rw [List.reverse_cons]; exact hs _ _ ih
  have h := this l.reverse
  rwa [List.reverse_reverse] at h
theorem canon : ∀ l : List UInt8, l ≠ [] → l.all isD = true → l.head? ≠ some 48 → decDigits (valD l) = l ∧ 1 ≤ valD l := by
  refine rev_ind ?_ ?_
  · intro h; exact absurd rfl h
  · intro l b ih _ hd hh
    rw [List.all_append, Bool.and_eq_true] at hd
    have hb : isD b = true := by simpa using hd.2
    have hb2 := hb
    simp only [isD, decide_eq_true_eq] at hb2
    cases l with
    | nil =>
      have h48 : b ≠ 48 := fun e => hh (by simp [e])
      have h9 : b.toNat ≠ 48 := fun e => h48 (by rw [← UInt8.toNat_inj]; exact e)
      have e : valD ([] ++ [b]) = b.toNat - 48 := by simp [valD]
      rw [e, decDigits_one (by omega), dig_back b hb]
      exact ⟨rfl, by omega⟩
    | cons x r =>
      have hx : (x :: r).head? ≠ some 48 := by simpa using hh
      obtain ⟨i1, i2⟩ := ih (by simp) hd.1 hx
      rw [valD_snoc]
      have h10 : ¬ valD (x :: r) * 10 + (b.toNat - 48) < 10 := by omega
      rw [decDigits, dif_neg h10]
      have e1 : (valD (x :: r) * 10 + (b.toNat - 48)) / 10 = valD (x :: r) := by omega
      have e2 : (valD (x :: r) * 10 + (b.toNat - 48)) % 10 = b.toNat - 48 := by omega
      rw [e1, e2, i1, dig_back b hb]
      exact ⟨rfl, by omega⟩
theorem dig_byte (d : Nat) (h : d < 10) : isD (UInt8.ofNat (48 + d)) = true ∧ (UInt8.ofNat (48 + d)).toNat = 48 + d := by
  have e : (UInt8.ofNat (48 + d)).toNat = 48 + d := by rw [UInt8.toNat_ofNat']; omega
  refine ⟨?_, e⟩
  simp only [isD, e, decide_eq_true_eq]
  omega
theorem dec_all (u : Nat) : (decDigits u).all isD = true ∧ valD (decDigits u) = u ∧ (1 ≤ u → (decDigits u).head? ≠ some 48) ∧ decDigits u ≠ [] := by
  induction u using Nat.strongRecOn with
  | _ u ih =>
    by_cases h : u < 10
    · obtain ⟨h1, h2⟩ := dig_byte u h
      rw [decDigits, dif_pos h]
      refine ⟨by rw [List.all_cons, h1]; rfl, by show 0 * 10 + ((UInt8.ofNat (48 + u)).toNat - 48) = u; rw [h2]; omega, fun hu e => ?_, by simp⟩
      have e2 : UInt8.ofNat (48 + u) = 48 := Option.some.inj e
      have e3 := congrArg UInt8.toNat e2
      rw [h2] at e3
      have : (48 : UInt8).toNat = 48 := rfl
      omega
    · obtain ⟨i1, i2, i3, i4⟩ := ih (u / 10) (by omega)
      obtain ⟨h1, h2⟩ := dig_byte (u % 10) (by omega)
      rw [decDigits, dif_neg h]
      refine ⟨by rw [List.all_append, i1, List.all_cons, h1]; rfl, by rw [valD_snoc, i2, h2]; omega, fun hu => ?_, by simp⟩
      cases hd : decDigits (u / 10) with
      | nil => exact absurd hd i4
      | cons x r =>
        have := i3 (by omega)
        rw [hd] at this
        simpa using this
/-- What a number of iterations is read as. -/
def numR (l : List UInt8) : Option Nat := if l ≠ [] ∧ l.head? ≠ some 48 ∧ l.all isD = true ∧ l.length ≤ 9 ∧ valD l ≤ 16777216 then some (valD l) else none
theorem nDigits_small8 (u : Nat) (h : u ≤ 16777216) : nDigits u ≤ 8 := by
  have h1 := Nat.lt_or_ge (nDigits u) 9
  rcases h1 with h1 | h1
  · omega
  · exfalso
    have : 10 ^ 8 ≤ u := by
      rcases Nat.lt_or_ge u (10 ^ 8) with h2 | h2
      · have h3 : ∀ k, k ≤ 7 → ∀ v, v < 10 ^ (k + 1) → nDigits v ≤ k + 1 := fun k => by
          induction k with
          | zero => intro _ v hv; rw [nDigits_small (by simpa using hv)]; omega
          | succ k ih =>
            intro hk v hv
            by_cases h10 : v < 10
            · rw [nDigits_small h10]; omega
            · rw [nDigits_big h10]
              have := ih (by omega) (v / 10) (by rw [Nat.pow_succ] at hv; omega)
              omega
        have := h3 7 (by omega) u h2
        omega
      · exact h2
    omega
theorem numR_itoa (n : Nat) (h1 : 1 ≤ n) (h2 : n ≤ 16777216) : numR (itoa (n : Int)) = some n := by
  have e : itoa (n : Int) = decDigits n := by rw [itoa, if_neg (by omega), Int.toNat_natCast]
  obtain ⟨i1, i2, i3, i4⟩ := dec_all n
  rw [e, numR, if_pos ⟨i4, i3 h1, i1, by rw [decDigits_length]; have := nDigits_small8 n h2; omega, by rw [i2]; exact h2⟩, i2]
theorem itoa_numR (l : List UInt8) (n : Nat) (h : numR l = some n) : itoa (n : Int) = l ∧ 1 ≤ n ∧ n ≤ 16777216 := by
  unfold numR at h
  split at h
  · rename_i hc
    obtain ⟨c1, c2, c3, c4, c5⟩ := hc
    obtain rfl := Option.some.inj h
    obtain ⟨e1, e2⟩ := canon l c1 c3 c2
    exact ⟨by rw [itoa, if_neg (by omega), Int.toNat_natCast, e1], e2, c5⟩
  · cases h
/-! ### Records -/
def sabS : ByteArray := ⟨#[115, 97, 98]⟩
def pn1 : ByteArray := ⟨#[115, 116, 111, 114, 101, 100]⟩
def pn2 : ByteArray := ⟨#[113, 117, 101, 114, 121]⟩
def pn3 : ByteArray := ⟨#[111, 112, 97, 113, 117, 101]⟩
def pn4 : ByteArray := ⟨#[109, 97, 112, 112, 101, 100]⟩
def pn5 : ByteArray := ⟨#[107, 101, 112, 116]⟩
def proN (n : Int) : ByteArray := if n = 1 then pn1 else if n = 2 then pn2 else if n = 3 then pn3 else if n = 4 then pn4 else if n = 5 then pn5 else ⟨#[]⟩
def proI (s : ByteArray) : Nat := if s = pn1 then 1 else if s = pn2 then 2 else if s = pn3 then 3 else if s = pn4 then 4 else if s = pn5 then 5 else 0
theorem proI_N (n : Int) (h1 : 1 ≤ n) (h2 : n ≤ 5) : (proI (proN n) : Int) = n := by
  have : n = 1 ∨ n = 2 ∨ n = 3 ∨ n = 4 ∨ n = 5 := by omega
  rcases this with rfl | rfl | rfl | rfl | rfl <;> decide
theorem proN_I (s : ByteArray) (h : proI s ≠ 0) : proN (proI s) = s ∧ proI s ≤ 5 := by
  unfold proI at h ⊢
  split
  · rename_i e; exact ⟨e.symm, by decide⟩
  split
  · rename_i e; exact ⟨e.symm, by decide⟩
  split
  · rename_i e; exact ⟨e.symm, by decide⟩
  split
  · rename_i e; exact ⟨e.symm, by decide⟩
  split
  · rename_i e; exact ⟨e.symm, by decide⟩
  · rename_i h1 h2 h3 h4 h5
    rw [if_neg h1, if_neg h2, if_neg h3, if_neg h4, if_neg h5] at h
    exact absurd rfl h
structure Rcd where
  p : Int
  n : Int
  a : ByteArray
  b : ByteArray
  c : ByteArray
/-- A record's first error; 0. -/
def chkR (r : Rcd) : Int := if ¬ (1 ≤ r.p ∧ r.p ≤ 5) then 9 else if ¬ (1 ≤ r.n ∧ r.n ≤ 16777216) then 7 else if ¬ (1 ≤ r.a.size ∧ r.a.size ≤ 64) then 6 else if r.b.size ≠ 32 then 4 else if r.c.size ≠ 32 then 4 else 0
def encS (s : ByteArray) : List UInt8 := encL s.data.toList
def decS (s : ByteArray) : Option ByteArray := (decL s.data.toList).map fun l => ⟨l.toArray⟩
/-- A record's parts. -/
def partsR (r : Rcd) : List (List UInt8) := [sabS.data.toList, (proN r.p).data.toList, itoa r.n, encS r.a, encS r.b, encS r.c]
def textR (r : Rcd) : ByteArray := ⟨(joinL 36 (partsR r)).toArray⟩
inductive DR where
  | ok (r : Rcd)
  | bad (e : Int)
def decR (s : ByteArray) : DR :=
  if 2000 < s.size then .bad 4 else
  match splitS 36 s with
  | [h, p, n, a, b, c] =>
    if h ≠ sabS then .bad 4 else
    if proI p = 0 then .bad 9 else
    match numR n.data.toList with
    | none => .bad 7
    | some k =>
      match decS a with
      | none => .bad 5
      | some sa =>
        if ¬ (1 ≤ sa.size ∧ sa.size ≤ 64) then .bad 6 else
        match decS b with
        | none => .bad 5
        | some sb =>
          if sb.size ≠ 32 then .bad 4 else
          match decS c with
          | none => .bad 5
          | some sc => if sc.size ≠ 32 then .bad 4 else .ok ⟨(proI p : Int), (k : Int), sa, sb, sc⟩
  | _ => .bad 4
end Go.Proofs.YtkbgcmfldfbcgaaGreatDoor

/- Base64 without program: texts of signs, both ways. -/
namespace Go.Proofs.YtjigckibbjfkmaaGreatDoor
set_option linter.unusedSimpArgs false
set_option linter.unusedVariables false
set_option maxRecDepth 100000
/-- The signs. -/
def sgT : List UInt8 := [65, 66, 67, 68, 69, 70, 71, 72, 73, 74, 75, 76, 77, 78, 79, 80, 81, 82, 83, 84, 85, 86, 87, 88, 89, 90, 97, 98, 99, 100, 101, 102, 103, 104, 105, 106, 107, 108, 109, 110, 111, 112, 113, 114, 115, 116, 117, 118, 119, 120, 121, 122, 48, 49, 50, 51, 52, 53, 54, 55, 56, 57, 43, 47]
def sg (n : Nat) : UInt8 := sgT.getD n 0
/-- A sign's number. -/
def un (c : UInt8) : Option Nat := if c ∈ sgT then some (sgT.idxOf c) else none
theorem un_sg (n : Nat) (h : n < 64) : un (sg n) = some n := by
  have : ∀ x : Fin 64, un (sg x.val) = some x.val := by decide +kernel
  exact this ⟨n, h⟩
theorem un_eq : un 61 = none := by decide +kernel
theorem sg_un (c : UInt8) (n : Nat) (h : un c = some n) : sg n = c ∧ n < 64 := by
  have : ∀ x : Fin 256, ∀ y : Fin 64, un (UInt8.ofNat x.val) = some y.val → sg y.val = UInt8.ofNat x.val := by decide +kernel
  have hlt : n < 64 := by
    unfold un at h
    split at h
    · rename_i hm
      have : sgT.idxOf c < sgT.length := List.idxOf_lt_length_of_mem hm
      have e : sgT.idxOf c = n := Option.some.inj h
      rw [e] at this; exact this
    · cases h
  have h2 := this ⟨c.toNat, c.toNat_lt⟩ ⟨n, hlt⟩
  simp only [UInt8.ofNat_toNat] at h2
  exact ⟨h2 h, hlt⟩
theorem sg_ne (n : Nat) (h : n < 64) : sg n ≠ 61 := by
  intro e
  have := un_sg n h
  rw [e, un_eq] at this; cases this
/-- Bytes as signs. -/
def encL : List UInt8 → List UInt8
  | [] => []
  | [a] => [sg (a.toNat / 4), sg (a.toNat % 4 * 16), 61, 61]
  | [a, b] => [sg (a.toNat / 4), sg (a.toNat % 4 * 16 + b.toNat / 16), sg (b.toNat % 16 * 4), 61]
  | a :: b :: c :: r => sg (a.toNat / 4) :: sg (a.toNat % 4 * 16 + b.toNat / 16) :: sg (b.toNat % 16 * 4 + c.toNat / 64) :: sg (c.toNat % 64) :: encL r
theorem encL_length : ∀ s : List UInt8, (encL s).length = (s.length + 2) / 3 * 4
  | [] => rfl
  | [a] => by simp [encL]
  | [a, b] => by simp [encL]
  | a :: b :: c :: r => by
    simp only [encL, List.length_cons, encL_length r]; omega
/-- Four signs as n bytes: n is three, but where the text ends. -/
def quadN (n : Nat) (a b c d : UInt8) : Option Nat :=
  match un a, un b with
  | some x, some y =>
    if n = 1 then (if y % 16 = 0 then some (x * 262144 + y * 4096) else none)
    else match un c with
      | some z => if n = 2 then (if z % 4 = 0 then some (x * 262144 + y * 4096 + z * 64) else none)
        else match un d with
          | some u => some (x * 262144 + y * 4096 + z * 64 + u)
          | none => none
      | none => none
  | _, _ => none
def outN (n v : Nat) : List UInt8 := (List.range n).map fun k => UInt8.ofNat (v / 2 ^ (8 * (2 - k)))
/-- How many bytes the last four signs are: 0: none. -/
def lastN (a b c d : UInt8) : Nat := if d = 61 then (if c = 61 then (if b = 61 then 0 else 1) else 2) else 3
def decL : List UInt8 → Option (List UInt8)
  | [] => some []
  | [a, b, c, d] => if lastN a b c d = 0 then none else (quadN (lastN a b c d) a b c d).map (outN (lastN a b c d))
  | a :: b :: c :: d :: r => match quadN 3 a b c d, decL r with
    | some v, some t => some (outN 3 v ++ t)
    | _, _ => none
  | _ => none
theorem out3 (v : Nat) : outN 3 v = [UInt8.ofNat (v / 65536), UInt8.ofNat (v / 256), UInt8.ofNat v] := by simp [outN, List.range_succ]
theorem out2 (v : Nat) : outN 2 v = [UInt8.ofNat (v / 65536), UInt8.ofNat (v / 256)] := by simp [outN, List.range_succ]
theorem out1 (v : Nat) : outN 1 v = [UInt8.ofNat (v / 65536)] := by simp [outN, List.range_succ]
theorem of_byte (n : Nat) (a : UInt8) (h : n % 256 = a.toNat) : UInt8.ofNat n = a := by
  apply UInt8.toNat_inj.1
  rw [UInt8.toNat_ofNat']; exact h
/-- What is encoded is decoded. -/
theorem dec_enc : ∀ t : List UInt8, decL (encL t) = some t
  | [] => rfl
  | [a] => by
    have ha := a.toNat_lt
    have h1 := un_sg (a.toNat / 4) (by omega)
    have h2 := un_sg (a.toNat % 4 * 16) (by omega)
    have n2 := sg_ne (a.toNat % 4 * 16) (by omega)
    simp only [encL, decL, lastN, if_true, n2, if_false, quadN, h1, h2]
    rw [if_neg (by decide), if_pos (by omega), Option.map_some, out1, of_byte _ a (by omega)]
  | [a, b] => by
    have ha := a.toNat_lt
    have hb := b.toNat_lt
    have h1 := un_sg (a.toNat / 4) (by omega)
    have h2 := un_sg (a.toNat % 4 * 16 + b.toNat / 16) (by omega)
    have h3 := un_sg (b.toNat % 16 * 4) (by omega)
    have n3 := sg_ne (b.toNat % 16 * 4) (by omega)
    simp only [encL, decL, lastN, if_true, n3, if_false, quadN, h1, h2, h3]
    rw [if_neg (by decide), if_neg (by decide), if_pos (by omega), Option.map_some, out2, of_byte _ a (by omega), of_byte _ b (by omega)]
  | a :: b :: c :: r => by
    have ha := a.toNat_lt
    have hb := b.toNat_lt
    have hc := c.toNat_lt
    have h1 := un_sg (a.toNat / 4) (by omega)
    have h2 := un_sg (a.toNat % 4 * 16 + b.toNat / 16) (by omega)
    have h3 := un_sg (b.toNat % 16 * 4 + c.toNat / 64) (by omega)
    have h4 := un_sg (c.toNat % 64) (by omega)
    have n4 := sg_ne (c.toNat % 64) (by omega)
    have hr := dec_enc r
    have hv : outN 3 (a.toNat / 4 * 262144 + (a.toNat % 4 * 16 + b.toNat / 16) * 4096 + (b.toNat % 16 * 4 + c.toNat / 64) * 64 + c.toNat % 64) = [a, b, c] := by
      rw [out3, of_byte _ a (by omega), of_byte _ b (by omega), of_byte _ c (by omega)]
    have hq : quadN 3 (sg (a.toNat / 4)) (sg (a.toNat % 4 * 16 + b.toNat / 16)) (sg (b.toNat % 16 * 4 + c.toNat / 64)) (sg (c.toNat % 64)) = some (a.toNat / 4 * 262144 + (a.toNat % 4 * 16 + b.toNat / 16) * 4096 + (b.toNat % 16 * 4 + c.toNat / 64) * 64 + c.toNat % 64) := by
      simp only [quadN, h1, h2, h3, h4]; rfl
    cases hr0 : encL r with
    | nil =>
      have : r = [] := by
        have := encL_length r
        rw [hr0] at this
        simp at this
        exact List.eq_nil_of_length_eq_zero (by omega)
      subst this
      simp only [encL, decL, lastN, n4, if_false]
      rw [if_neg (by decide), hq, Option.map_some, hv]
    | cons x l =>
      rw [encL, hr0, decL, hq, ← hr0, hr]
      · simp only [hv]; rfl
      · intro q; cases q
/-- What is decoded has just these signs. -/
theorem enc_dec : ∀ (s t : List UInt8), decL s = some t → encL t = s
  | [], t, h => by simp only [decL, Option.some.injEq] at h; subst h; rfl
  | [a, b, c, d], t, h => by
    simp only [decL] at h
    split at h
    · cases h
    · rename_i h0
      simp only [lastN] at h h0
      by_cases hd : d = 61
      · by_cases hc : c = 61
        · by_cases hb : b = 61
          · simp [hd, hc, hb] at h0
          · simp only [hd, hc, hb, if_true, if_false] at h
            simp only [quadN, if_true] at h
            cases hx : un a with
            | none => simp [hx] at h
            | some x =>
              cases hy : un b with
              | none => simp [hx, hy] at h
              | some y =>
                simp only [hx, hy] at h
                obtain ⟨ea, la⟩ := sg_un a x hx
                obtain ⟨eb, lb⟩ := sg_un b y hy
                split at h
                · rename_i hm
                  simp only [Option.map_some, Option.some.injEq, out1] at h
                  subst h
                  have e1 : (UInt8.ofNat ((x * 262144 + y * 4096) / 65536)).toNat = x * 4 + y / 16 := by rw [UInt8.toNat_ofNat']; omega
                  simp only [encL, e1, hd, hc]
                  rw [show (x * 4 + y / 16) / 4 = x by omega, show (x * 4 + y / 16) % 4 * 16 = y by omega, ea, eb]
                · cases h
        · simp only [hd, hc, if_true, if_false] at h
          simp only [quadN] at h
          cases hx : un a with
          | none => simp [hx] at h
          | some x =>
            cases hy : un b with
            | none => simp [hx, hy] at h
            | some y =>
              cases hz : un c with
              | none => simp [hx, hy, hz] at h
              | some z =>
                simp only [hx, hy, hz, if_true] at h
                obtain ⟨ea, la⟩ := sg_un a x hx
                obtain ⟨eb, lb⟩ := sg_un b y hy
                obtain ⟨ec, lc⟩ := sg_un c z hz
                rw [if_neg (by decide)] at h
                split at h
                · rename_i hm
                  simp only [Option.map_some, Option.some.injEq, out2] at h
                  subst h
                  have e1 : (UInt8.ofNat ((x * 262144 + y * 4096 + z * 64) / 65536)).toNat = x * 4 + y / 16 := by rw [UInt8.toNat_ofNat']; omega
                  have e2 : (UInt8.ofNat ((x * 262144 + y * 4096 + z * 64) / 256)).toNat = y % 16 * 16 + z / 4 := by rw [UInt8.toNat_ofNat']; omega
                  simp only [encL, e1, e2, hd]
                  rw [show (x * 4 + y / 16) / 4 = x by omega, show (x * 4 + y / 16) % 4 * 16 + (y % 16 * 16 + z / 4) / 16 = y by omega, show (y % 16 * 16 + z / 4) % 16 * 4 = z by omega, ea, eb, ec]
                · cases h
      · simp only [hd, if_false] at h
        have hq := h
        simp only [quadN] at h
        cases hx : un a with
        | none => simp [hx] at h
        | some x =>
          cases hy : un b with
          | none => simp [hx, hy] at h
          | some y =>
            cases hz : un c with
            | none => simp [hx, hy, hz] at h
            | some z =>
              cases hu : un d with
              | none => simp [hx, hy, hz, hu] at h
              | some u =>
                simp only [hx, hy, hz, hu] at h
                obtain ⟨ea, la⟩ := sg_un a x hx
                obtain ⟨eb, lb⟩ := sg_un b y hy
                obtain ⟨ec, lc⟩ := sg_un c z hz
                obtain ⟨ed, ld⟩ := sg_un d u hu
                rw [if_neg (by decide), if_neg (by decide)] at h
                simp only [Option.map_some, Option.some.injEq, out3] at h
                subst h
                have e1 : (UInt8.ofNat ((x * 262144 + y * 4096 + z * 64 + u) / 65536)).toNat = x * 4 + y / 16 := by rw [UInt8.toNat_ofNat']; omega
                have e2 : (UInt8.ofNat ((x * 262144 + y * 4096 + z * 64 + u) / 256)).toNat = y % 16 * 16 + z / 4 := by rw [UInt8.toNat_ofNat']; omega
                have e3 : (UInt8.ofNat (x * 262144 + y * 4096 + z * 64 + u)).toNat = z % 4 * 64 + u := by rw [UInt8.toNat_ofNat']; omega
                simp only [encL, e1, e2, e3]
                rw [show (x * 4 + y / 16) / 4 = x by omega, show (x * 4 + y / 16) % 4 * 16 + (y % 16 * 16 + z / 4) / 16 = y by omega, show (y % 16 * 16 + z / 4) % 16 * 4 + (z % 4 * 64 + u) / 64 = z by omega, show (z % 4 * 64 + u) % 64 = u by omega, ea, eb, ec, ed]
  | a :: b :: c :: d :: e :: r, t, h => by
    rw [decL] at h
    · split at h
      · rename_i v t' hv ht
        have ih := enc_dec (e :: r) t' ht
        simp only [Option.some.injEq] at h
        subst h
        simp only [quadN] at hv
        cases hx : un a with
        | none => simp [hx] at hv
        | some x =>
          cases hy : un b with
          | none => simp [hx, hy] at hv
          | some y =>
            cases hz : un c with
            | none => simp [hx, hy, hz] at hv
            | some z =>
              cases hu : un d with
              | none => simp [hx, hy, hz, hu] at hv
              | some u =>
                simp only [hx, hy, hz, hu] at hv
                obtain ⟨ea, la⟩ := sg_un a x hx
                obtain ⟨eb, lb⟩ := sg_un b y hy
                obtain ⟨ec, lc⟩ := sg_un c z hz
                obtain ⟨ed, ld⟩ := sg_un d u hu
                rw [if_neg (by decide), if_neg (by decide)] at hv
                simp only [Option.some.injEq] at hv
                subst hv
                rw [out3]
                have e1 : (UInt8.ofNat ((x * 262144 + y * 4096 + z * 64 + u) / 65536)).toNat = x * 4 + y / 16 := by rw [UInt8.toNat_ofNat']; omega
                have e2 : (UInt8.ofNat ((x * 262144 + y * 4096 + z * 64 + u) / 256)).toNat = y % 16 * 16 + z / 4 := by rw [UInt8.toNat_ofNat']; omega
                have e3 : (UInt8.ofNat (x * 262144 + y * 4096 + z * 64 + u)).toNat = z % 4 * 64 + u := by rw [UInt8.toNat_ofNat']; omega
                simp only [List.cons_append, List.nil_append, encL, e1, e2, e3, ih]
                rw [show (x * 4 + y / 16) / 4 = x by omega, show (x * 4 + y / 16) % 4 * 16 + (y % 16 * 16 + z / 4) / 16 = y by omega, show (y % 16 * 16 + z / 4) % 16 * 4 + (z % 4 * 64 + u) / 64 = z by omega, show (z % 4 * 64 + u) % 64 = u by omega, ea, eb, ec, ed]
      · cases h
    · intro q; cases q
  | [_], _, h => by simp [decL] at h
  | [_, _], _, h => by simp [decL] at h
  | [_, _, _], _, h => by simp [decL] at h
/-! The document's way: bit by bit. -/
def bits8 (b : UInt8) : List Nat := [b.toNat / 128 % 2, b.toNat / 64 % 2, b.toNat / 32 % 2, b.toNat / 16 % 2, b.toNat / 8 % 2, b.toNat / 4 % 2, b.toNat / 2 % 2, b.toNat % 2]
def bitsL (s : List UInt8) : List Nat := s.flatMap bits8
def pad6 (l : List Nat) : List Nat := l ++ List.replicate ((6 - l.length % 6) % 6) 0
def val6 (a b c d e f : Nat) : Nat := ((((a * 2 + b) * 2 + c) * 2 + d) * 2 + e) * 2 + f
def ch6 : List Nat → List UInt8
  | a :: b :: c :: d :: e :: f :: r => sg (val6 a b c d e f) :: ch6 r
  | _ => []
def pad4 (l : List UInt8) : List UInt8 := l ++ List.replicate ((4 - l.length % 4) % 4) 61
def refEnc (s : List UInt8) : List UInt8 := pad4 (ch6 (pad6 (bitsL s)))
theorem pad6_app (a l : List Nat) (h : a.length % 6 = 0) : pad6 (a ++ l) = a ++ pad6 l := by
  unfold pad6
  rw [List.length_append, show (a.length + l.length) % 6 = l.length % 6 by omega, List.append_assoc]
theorem pad4_app (a l : List UInt8) (h : a.length % 4 = 0) : pad4 (a ++ l) = a ++ pad4 l := by
  unfold pad4
  rw [List.length_append, show (a.length + l.length) % 4 = l.length % 4 by omega, List.append_assoc]
theorem ref_enc : ∀ s : List UInt8, refEnc s = encL s
  | [] => rfl
  | [a] => by
    have ha := a.toNat_lt
    have e : pad6 (bitsL [a]) = [a.toNat / 128 % 2, a.toNat / 64 % 2, a.toNat / 32 % 2, a.toNat / 16 % 2, a.toNat / 8 % 2, a.toNat / 4 % 2, a.toNat / 2 % 2, a.toNat % 2, 0, 0, 0, 0] := by simp [pad6, bitsL, bits8, List.replicate]
    unfold refEnc
    rw [e]
    simp only [ch6, encL, pad4, List.length_cons, List.length_nil, val6]
    rw [show ((((a.toNat / 128 % 2 * 2 + a.toNat / 64 % 2) * 2 + a.toNat / 32 % 2) * 2 + a.toNat / 16 % 2) * 2 + a.toNat / 8 % 2) * 2 + a.toNat / 4 % 2 = a.toNat / 4 by omega, show ((((a.toNat / 2 % 2 * 2 + a.toNat % 2) * 2 + 0) * 2 + 0) * 2 + 0) * 2 + 0 = a.toNat % 4 * 16 by omega]
    rfl
  | [a, b] => by
    have ha := a.toNat_lt
    have hb := b.toNat_lt
    have e : pad6 (bitsL [a, b]) = [a.toNat / 128 % 2, a.toNat / 64 % 2, a.toNat / 32 % 2, a.toNat / 16 % 2, a.toNat / 8 % 2, a.toNat / 4 % 2, a.toNat / 2 % 2, a.toNat % 2, b.toNat / 128 % 2, b.toNat / 64 % 2, b.toNat / 32 % 2, b.toNat / 16 % 2, b.toNat / 8 % 2, b.toNat / 4 % 2, b.toNat / 2 % 2, b.toNat % 2, 0, 0] := by simp [pad6, bitsL, bits8, List.replicate]
    unfold refEnc
    rw [e]
    simp only [ch6, encL, pad4, List.length_cons, List.length_nil, val6]
    rw [show ((((a.toNat / 128 % 2 * 2 + a.toNat / 64 % 2) * 2 + a.toNat / 32 % 2) * 2 + a.toNat / 16 % 2) * 2 + a.toNat / 8 % 2) * 2 + a.toNat / 4 % 2 = a.toNat / 4 by omega, show ((((a.toNat / 2 % 2 * 2 + a.toNat % 2) * 2 + b.toNat / 128 % 2) * 2 + b.toNat / 64 % 2) * 2 + b.toNat / 32 % 2) * 2 + b.toNat / 16 % 2 = a.toNat % 4 * 16 + b.toNat / 16 by omega, show ((((b.toNat / 8 % 2 * 2 + b.toNat / 4 % 2) * 2 + b.toNat / 2 % 2) * 2 + b.toNat % 2) * 2 + 0) * 2 + 0 = b.toNat % 16 * 4 by omega]
    rfl
  | a :: b :: c :: r => by
    have ha := a.toNat_lt
    have hb := b.toNat_lt
    have hc := c.toNat_lt
    have ih := ref_enc r
    unfold refEnc at ih ⊢
    have e : bitsL (a :: b :: c :: r) = (bits8 a ++ bits8 b ++ bits8 c) ++ bitsL r := by simp [bitsL]
    rw [e, pad6_app _ _ (by simp [bits8])]
    simp only [bits8, List.cons_append, List.nil_append, ch6, encL, val6]
    rw [show ((((a.toNat / 128 % 2 * 2 + a.toNat / 64 % 2) * 2 + a.toNat / 32 % 2) * 2 + a.toNat / 16 % 2) * 2 + a.toNat / 8 % 2) * 2 + a.toNat / 4 % 2 = a.toNat / 4 by omega, show ((((a.toNat / 2 % 2 * 2 + a.toNat % 2) * 2 + b.toNat / 128 % 2) * 2 + b.toNat / 64 % 2) * 2 + b.toNat / 32 % 2) * 2 + b.toNat / 16 % 2 = a.toNat % 4 * 16 + b.toNat / 16 by omega, show ((((b.toNat / 8 % 2 * 2 + b.toNat / 4 % 2) * 2 + b.toNat / 2 % 2) * 2 + b.toNat % 2) * 2 + c.toNat / 128 % 2) * 2 + c.toNat / 64 % 2 = b.toNat % 16 * 4 + c.toNat / 64 by omega, show ((((c.toNat / 32 % 2 * 2 + c.toNat / 16 % 2) * 2 + c.toNat / 8 % 2) * 2 + c.toNat / 4 % 2) * 2 + c.toNat / 2 % 2) * 2 + c.toNat % 2 = c.toNat % 64 by omega]
    generalize ch6 (pad6 (bitsL r)) = l at ih ⊢
    rw [← ih]
    exact pad4_app [_, _, _, _] l (by simp)
def bits6 (n : Nat) : List Nat := [n / 32 % 2, n / 16 % 2, n / 8 % 2, n / 4 % 2, n / 2 % 2, n % 2]
/-- The bits of the signs ahead of the first that is none. -/
def refB : List UInt8 → List Nat
  | [] => []
  | c :: r => match un c with
    | some n => bits6 n ++ refB r
    | none => []
def oct8 : List Nat → List UInt8
  | a :: b :: c :: d :: e :: f :: g :: h :: r => UInt8.ofNat (((((((a * 2 + b) * 2 + c) * 2 + d) * 2 + e) * 2 + f) * 2 + g) * 2 + h) :: oct8 r
  | _ => []
theorem oct_a (x y : Nat) (hx : x < 64) (hy : y < 64) : ((((((x / 32 % 2 * 2 + x / 16 % 2) * 2 + x / 8 % 2) * 2 + x / 4 % 2) * 2 + x / 2 % 2) * 2 + x % 2) * 2 + y / 32 % 2) * 2 + y / 16 % 2 = x * 4 + y / 16 := by omega
theorem oct_b (y z : Nat) (hy : y < 64) (hz : z < 64) : ((((((y / 8 % 2 * 2 + y / 4 % 2) * 2 + y / 2 % 2) * 2 + y % 2) * 2 + z / 32 % 2) * 2 + z / 16 % 2) * 2 + z / 8 % 2) * 2 + z / 4 % 2 = y % 16 * 16 + z / 4 := by omega
theorem oct_c (z u : Nat) (hz : z < 64) (hu : u < 64) : ((((((z / 2 % 2 * 2 + z % 2) * 2 + u / 32 % 2) * 2 + u / 16 % 2) * 2 + u / 8 % 2) * 2 + u / 4 % 2) * 2 + u / 2 % 2) * 2 + u % 2 = z % 4 * 64 + u := by omega
theorem ref_dec : ∀ t : List UInt8, oct8 (refB (encL t)) = t
  | [] => rfl
  | [a] => by
    have ha := a.toNat_lt
    have h1 := un_sg (a.toNat / 4) (by omega)
    have h2 := un_sg (a.toNat % 4 * 16) (by omega)
    simp only [encL, refB, h1, h2, un_eq, bits6, List.cons_append, List.nil_append, List.append_nil, oct8]
    rw [oct_a _ _ (by omega) (by omega), of_byte _ a (by omega)]
  | [a, b] => by
    have ha := a.toNat_lt
    have hb := b.toNat_lt
    have h1 := un_sg (a.toNat / 4) (by omega)
    have h2 := un_sg (a.toNat % 4 * 16 + b.toNat / 16) (by omega)
    have h3 := un_sg (b.toNat % 16 * 4) (by omega)
    simp only [encL, refB, h1, h2, h3, un_eq, bits6, List.cons_append, List.nil_append, List.append_nil, oct8]
    rw [oct_a _ _ (by omega) (by omega), oct_b _ _ (by omega) (by omega), of_byte _ a (by omega), of_byte _ b (by omega)]
  | a :: b :: c :: r => by
    have ha := a.toNat_lt
    have hb := b.toNat_lt
    have hc := c.toNat_lt
    have h1 := un_sg (a.toNat / 4) (by omega)
    have h2 := un_sg (a.toNat % 4 * 16 + b.toNat / 16) (by omega)
    have h3 := un_sg (b.toNat % 16 * 4 + c.toNat / 64) (by omega)
    have h4 := un_sg (c.toNat % 64) (by omega)
    simp only [encL, refB, h1, h2, h3, h4, bits6, List.cons_append, List.nil_append, oct8]
    rw [oct_a _ _ (by omega) (by omega), oct_b _ _ (by omega) (by omega), oct_c _ _ (by omega) (by omega), of_byte _ a (by omega), of_byte _ b (by omega), of_byte _ c (by omega), ref_dec r]
def refDec (s : List UInt8) : Option (List UInt8) := if encL (oct8 (refB s)) = s then some (oct8 (refB s)) else none
/-- Both ways of decoding are one. -/
theorem dec_ref (s : List UInt8) : decL s = refDec s := by
  unfold refDec
  split
  · rename_i h
    have := dec_enc (oct8 (refB s))
    rw [h] at this; exact this
  · rename_i h
    cases hd : decL s with
    | none => rfl
    | some t =>
      have e := enc_dec s t hd
      have := ref_dec t
      rw [e] at this
      rw [this] at h
      exact absurd e h
end Go.Proofs.YtjigckibbjfkmaaGreatDoor

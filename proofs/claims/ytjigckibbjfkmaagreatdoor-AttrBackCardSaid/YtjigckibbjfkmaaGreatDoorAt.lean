/- Messages without program: their texts, and what a text is read as. -/
import Derived.Test.YtjigckibbjfkmaaGreatDoorBp
import Derived.Test.YtjigckibbjfkmaaGreatDoorDe
import Derived.Lib.ValidU
import Derived.Lib.Strings
import Derived.Lib.AtoiTie
namespace Go.Proofs.YtjigckibbjfkmaaGreatDoor
open Go.Lib
set_option maxRecDepth 100000
set_option linter.unusedSimpArgs false
set_option linter.unusedVariables false
/-! ### Names -/
def escB (b : UInt8) : List UInt8 := if b = 44 then [61, 50, 67] else if b = 61 then [61, 51, 68] else [b]
def escL (l : List UInt8) : List UInt8 := l.flatMap escB
/-- A sign told by three, and what stands behind it. -/
def three (r : List UInt8) : Option (UInt8 × List UInt8) := match r with
  | 50 :: 67 :: t => some (44, t)
  | 51 :: 68 :: t => some (61, t)
  | _ => none
theorem three_short {r t : List UInt8} {c : UInt8} (h : three r = some (c, t)) : t.length + 2 = r.length ∧ escB c = 61 :: r.take 2 ∧ r = r.take 2 ++ t := by
  unfold three at h
  split at h
  · obtain ⟨rfl, rfl⟩ := Prod.mk.inj (Option.some.inj h)
    exact ⟨by simp, rfl, rfl⟩
  · obtain ⟨rfl, rfl⟩ := Prod.mk.inj (Option.some.inj h)
    exact ⟨by simp, rfl, rfl⟩
  · cases h
def unescN : Nat → List UInt8 → Option (List UInt8)
  | _, [] => some []
  | 0, _ :: _ => none
  | n + 1, b :: r =>
    if b = 44 then none
    else if b = 61 then (match three r with
      | some (c, t) => (unescN n t).map (c :: ·)
      | none => none)
    else (unescN n r).map (b :: ·)
def unescR (l : List UInt8) : Option (List UInt8) := unescN l.length l
theorem unescN_fuel : ∀ (n m : Nat) (l : List UInt8), l.length ≤ n → l.length ≤ m → unescN n l = unescN m l
  | n, m, [], _, _ => by cases n <;> cases m <;> rfl
  | 0, _, b :: r, h, _ => by simp at h
  | _, 0, b :: r, _, h => by simp at h
  | n + 1, m + 1, b :: r, h1, h2 => by
    simp only [List.length_cons] at h1 h2
    simp only [unescN]
    rw [unescN_fuel n m r (by omega) (by omega)]
    cases h3 : three r with
    | none => rfl
    | some x =>
      obtain ⟨c, t⟩ := x
      have := (three_short h3).1
      simp only []
      rw [unescN_fuel n m t (by omega) (by omega)]
theorem unesc_comma (r : List UInt8) : unescR (44 :: r) = none := by
  unfold unescR
  simp [unescN]
theorem unesc_eq (r : List UInt8) : unescR (61 :: r) = match three r with
    | some (c, t) => (unescR t).map (c :: ·)
    | none => none := by
  unfold unescR
  simp only [List.length_cons, unescN]
  rw [if_neg (by decide), if_pos trivial]
  cases h3 : three r with
  | none => rfl
  | some x =>
    obtain ⟨c, t⟩ := x
    have := (three_short h3).1
    simp only []
    rw [unescN_fuel r.length t.length t (by omega) (Nat.le_refl _)]
theorem unesc_two (t : List UInt8) : unescR (61 :: 50 :: 67 :: t) = (unescR t).map (44 :: ·) := unesc_eq _
theorem unesc_three (t : List UInt8) : unescR (61 :: 51 :: 68 :: t) = (unescR t).map (61 :: ·) := unesc_eq _
theorem unesc_plain (b : UInt8) (t : List UInt8) (h1 : b ≠ 44) (h2 : b ≠ 61) : unescR (b :: t) = (unescR t).map (b :: ·) := by
  unfold unescR
  simp only [List.length_cons, unescN]
  rw [if_neg h1, if_neg h2]
theorem unesc_esc : ∀ l : List UInt8, unescR (escL l) = some l
  | [] => rfl
  | b :: r => by
    have ih := unesc_esc r
    show unescR (escB b ++ escL r) = _
    unfold escB
    by_cases h1 : b = 44
    · rw [if_pos h1]
      show unescR (61 :: 50 :: 67 :: escL r) = _
      rw [unesc_two, ih, h1]; rfl
    · rw [if_neg h1]
      by_cases h2 : b = 61
      · rw [if_pos h2]
        show unescR (61 :: 51 :: 68 :: escL r) = _
        rw [unesc_three, ih, h2]; rfl
      · rw [if_neg h2]
        show unescR (b :: escL r) = _
        rw [unesc_plain b _ h1 h2, ih]; rfl
theorem esc_unesc : ∀ (n : Nat) (s x : List UInt8), s.length ≤ n → unescR s = some x → escL x = s
  | 0, s, x, hn, h => by
    have : s = [] := List.length_eq_zero_iff.1 (by omega)
    subst this
    obtain rfl := Option.some.inj h
    rfl
  | n + 1, [], x, _, h => by
    obtain rfl := Option.some.inj h
    rfl
  | n + 1, b :: r, x, hn, h => by
    simp only [List.length_cons] at hn
    by_cases h1 : b = 44
    · rw [h1, unesc_comma] at h; cases h
    by_cases h2 : b = 61
    · rw [h2, unesc_eq] at h
      rw [h2]
      cases h3 : three r with
      | none => rw [h3] at h; cases h
      | some y =>
        obtain ⟨c, t⟩ := y
        obtain ⟨t1, t2, t3⟩ := three_short h3
        rw [h3] at h
        simp only at h
        cases hu : unescR t with
        | none => rw [hu] at h; cases h
        | some y =>
          rw [hu] at h
          obtain rfl := Option.some.inj h
          have := esc_unesc n t y (by omega) hu
          show escB c ++ escL y = _
          rw [this, t2]
          conv => rhs; rw [t3]
          rfl
    · rw [unesc_plain b r h1 h2] at h
      cases hu : unescR r with
      | none => rw [hu] at h; cases h
      | some y =>
        rw [hu] at h
        obtain rfl := Option.some.inj h
        have := esc_unesc n r y (by omega) hu
        show escB b ++ escL y = _
        rw [this]
        unfold escB
        rw [if_neg h1, if_neg h2]; rfl
theorem esc_no44 (l : List UInt8) : 44 ∉ escL l := by
  intro h
  obtain ⟨b, _, hb⟩ := List.mem_flatMap.1 h
  unfold escB at hb
  split at hb
  · revert hb; decide
  · split at hb
    · revert hb; decide
    · rename_i h1 _
      rw [List.mem_singleton] at hb
      exact h1 hb.symm
/-! ### Messages -/
structure Msg where
  k : Int
  u : List UInt8
  n : List UInt8
  s : List UInt8
  i : Int
  p : List UInt8
  g : List UInt8
  f : List UInt8
def nonceOk (l : List UInt8) : Bool := l.all (fun b => decide (33 ≤ b.toNat ∧ b.toNat ≤ 126 ∧ b ≠ 44)) && decide (1 ≤ l.length ∧ l.length ≤ 200)
def failOk (l : List UInt8) : Bool := l.all (fun b => decide ((97 ≤ b.toNat ∧ b.toNat ≤ 122) ∨ b = 45)) && decide (1 ≤ l.length ∧ l.length ≤ 100)
def nameOk (l : List UInt8) : Bool := validD l && decide (1 ≤ l.length ∧ l.length ≤ 200) && decide (0 ∉ l)
def rightM (m : Msg) : Prop :=
  (m.k = 1 ∧ m.s = [] ∧ m.i = 0 ∧ m.p = [] ∧ m.g = [] ∧ m.f = [] ∧ nameOk m.u = true ∧ nonceOk m.n = true) ∨
  (m.k = 2 ∧ m.u = [] ∧ m.p = [] ∧ m.g = [] ∧ m.f = [] ∧ nonceOk m.n = true ∧ (1 ≤ m.s.length ∧ m.s.length ≤ 64) ∧ 1 ≤ m.i ∧ m.i ≤ 16777216) ∨
  (m.k = 3 ∧ m.u = [] ∧ m.s = [] ∧ m.i = 0 ∧ m.g = [] ∧ m.f = [] ∧ nonceOk m.n = true ∧ m.p.length = 32) ∨
  (m.k = 4 ∧ m.u = [] ∧ m.n = [] ∧ m.s = [] ∧ m.i = 0 ∧ m.p = [] ∧ ((m.g.length = 32 ∧ m.f = []) ∨ (m.g = [] ∧ failOk m.f = true)))
instance (m : Msg) : Decidable (rightM m) := by unfold rightM; infer_instance
def textM (m : Msg) : List UInt8 :=
  if m.k = 1 then joinL 44 [[110], [], 110 :: 61 :: escL m.u, 114 :: 61 :: m.n]
  else if m.k = 2 then joinL 44 [114 :: 61 :: m.n, 115 :: 61 :: encL m.s, 105 :: 61 :: itoa m.i]
  else if m.k = 3 then joinL 44 [[99, 61, 98, 105, 119, 115], 114 :: 61 :: m.n, 112 :: 61 :: encL m.p]
  else if m.f ≠ [] then 101 :: 61 :: m.f
  else 118 :: 61 :: encL m.g
/-- What stands behind a letter and '='. -/
def partC (c : UInt8) : List UInt8 → Option (List UInt8)
  | a :: 61 :: r => if a = c then some r else none
  | _ => none
theorem partC_yes (c : UInt8) (r : List UInt8) : partC c (c :: 61 :: r) = some r := by simp [partC]
theorem partC_some (c : UInt8) (l r : List UInt8) (h : partC c l = some r) : l = c :: 61 :: r := by
  unfold partC at h
  split at h
  · split at h
    · rename_i hc
      obtain rfl := Option.some.inj h
      rw [hc]
    · cases h
  · cases h
def okM (m : Msg) : Option Msg := if rightM m then some m else none
/-- A number of up to eight digits, no nought ahead; 0. -/
def digN (l : List UInt8) : Int := if l ≠ [] ∧ l.length ≤ 8 ∧ l.head? ≠ some 48 ∧ l.all isD = true then (valD l : Int) else 0
def decM (k : Int) (s : List UInt8) : Option Msg :=
  if k = 1 then match splitL 44 s with
    | [a, b, c, d] => if a = [110] ∧ b = [] then match partC 110 c, partC 114 d with
      | some c', some d' => match unescR c' with
        | some u => okM ⟨1, u, d', [], 0, [], [], []⟩
        | none => none
      | _, _ => none
      else none
    | _ => none
  else if k = 2 then match splitL 44 s with
    | [a, b, c] => match partC 114 a, partC 115 b, partC 105 c with
      | some a', some b', some c' => match decL b' with
        | some x => okM ⟨2, [], a', x, digN c', [], [], []⟩
        | none => none
      | _, _, _ => none
    | _ => none
  else if k = 3 then match splitL 44 s with
    | [a, b, c] => if a = [99, 61, 98, 105, 119, 115] then match partC 114 b, partC 112 c with
      | some b', some c' => match decL c' with
        | some x => okM ⟨3, [], b', [], 0, x, [], []⟩
        | none => none
      | _, _ => none
      else none
    | _ => none
  else if k = 4 then match splitL 44 s with
    | [_] => match partC 101 s with
      | some f => okM ⟨4, [], [], [], 0, [], [], f⟩
      | none => match partC 118 s with
        | some v => match decL v with
          | some x => okM ⟨4, [], [], [], 0, [], x, []⟩
          | none => none
        | none => none
    | _ => none
  else none
/-! ### What is read has just this text -/
theorem dig_itoa (n : Nat) (h1 : 1 ≤ n) (h2 : n ≤ 16777216) : digN (itoa (n : Int)) = (n : Int) := by
  obtain ⟨i1, i2, i3, i4⟩ := dec_all n
  have hl := dec_len 7 n (by omega)
  rw [itoa, if_neg (by omega), Int.toNat_natCast, digN, if_pos ⟨i4, by omega, i3 h1, i1⟩, i2]
theorem itoa_dig (l : List UInt8) (h : 1 ≤ digN l) : itoa (digN l) = l := by
  unfold digN at h ⊢
  split
  · rename_i hc
    obtain ⟨c1, c2, c3, c4⟩ := hc
    rw [itoa, if_neg (by omega), Int.toNat_natCast]
    exact (canon l c1 c4 c3).1
  · rename_i hc
    rw [if_neg hc] at h
    omega
theorem okM_some {m x : Msg} (h : okM m = some x) : x = m ∧ rightM m := by
  unfold okM at h
  split at h
  · rename_i hr
    exact ⟨(Option.some.inj h).symm, hr⟩
  · cases h
theorem decM_right (k : Int) (s : List UInt8) (m : Msg) (h : decM k s = some m) : rightM m ∧ textM m = s ∧ m.k = k := by
  unfold decM at h
  have hj := join_split 44 s
  split at h
  · rename_i hk
    split at h
    · rename_i a b c d hs
      rw [hs] at hj
      split at h
      · rename_i hab
        split at h
        · rename_i c' d' hc hd
          split at h
          · rename_i u hu
            obtain ⟨rfl, hr⟩ := okM_some h
            refine ⟨hr, ?_, hk.symm⟩
            unfold textM
            simp only [if_true]
            rw [esc_unesc c'.length c' u (Nat.le_refl _) hu, ← partC_some _ _ _ hc, ← partC_some _ _ _ hd, ← hab.1]
            rw [hab.2] at hj
            exact hj
          · cases h
        · cases h
      · cases h
    · cases h
  split at h
  · rename_i hk1 hk
    split at h
    · rename_i a b c hs
      rw [hs] at hj
      split at h
      · rename_i a' b' c' ha hb hc
        split at h
        · rename_i x hx
          obtain ⟨rfl, hr⟩ := okM_some h
          refine ⟨hr, ?_, hk.symm⟩
          have hi : 1 ≤ digN c' := by
            rcases hr with q | q | q | q
            · exact absurd q.1 (by simp)
            · exact q.2.2.2.2.2.2.2.1
            · exact absurd q.1 (by simp)
            · exact absurd q.1 (by simp)
          unfold textM
          rw [if_neg (by simp), if_pos rfl]
          simp only
          rw [enc_dec _ _ hx, itoa_dig c' hi, ← partC_some _ _ _ ha, ← partC_some _ _ _ hb, ← partC_some _ _ _ hc]
          exact hj
        · cases h
      · cases h
    · cases h
  split at h
  · rename_i hk1 hk2 hk
    split at h
    · rename_i a b c hs
      rw [hs] at hj
      split at h
      · rename_i hab
        split at h
        · rename_i b' c' hb hc
          split at h
          · rename_i x hx
            obtain ⟨rfl, hr⟩ := okM_some h
            refine ⟨hr, ?_, hk.symm⟩
            unfold textM
            rw [if_neg (by simp), if_neg (by simp), if_pos rfl]
            simp only
            rw [enc_dec _ _ hx, ← partC_some _ _ _ hb, ← partC_some _ _ _ hc, ← hab]
            exact hj
          · cases h
        · cases h
      · cases h
    · cases h
  split at h
  · rename_i hk1 hk2 hk3 hk
    split at h
    · split at h
      · rename_i f hf
        obtain ⟨rfl, hr⟩ := okM_some h
        refine ⟨hr, ?_, hk.symm⟩
        have hne : f ≠ [] := by
          rcases hr with q | q | q | q
          · exact absurd q.1 (by simp)
          · exact absurd q.1 (by simp)
          · exact absurd q.1 (by simp)
          · rcases q.2.2.2.2.2.2 with q | q
            · have := q.1; simp at this
            · intro e
              have := q.2
              rw [e] at this
              revert this
              decide
        unfold textM
        rw [if_neg (by simp), if_neg (by simp), if_neg (by simp), if_pos hne]
        exact (partC_some _ _ _ hf).symm
      · split at h
        · rename_i v hv
          split at h
          · rename_i x hx
            obtain ⟨rfl, hr⟩ := okM_some h
            refine ⟨hr, ?_, hk.symm⟩
            unfold textM
            rw [if_neg (by simp), if_neg (by simp), if_neg (by simp), if_neg (by simp)]
            simp only
            rw [enc_dec _ _ hx]
            exact (partC_some _ _ _ hv).symm
          · cases h
        · cases h
    · cases h
  · cases h
theorem okM_yes {m : Msg} (h : rightM m) : okM m = some m := by unfold okM; rw [if_pos h]
/-! ### A message's text is read as that message -/
theorem headM (m : Msg) (h : rightM m) : (m.k = 1 ∧ (textM m).head? = some 110) ∨ (m.k = 2 ∧ (textM m).head? = some 114) ∨ (m.k = 3 ∧ (textM m).head? = some 99) ∨ (m.k = 4 ∧ ((textM m).head? = some 101 ∨ (textM m).head? = some 118)) := by
  rcases h with q | q | q | q
  · refine .inl ⟨q.1, ?_⟩
    unfold textM
    rw [if_pos q.1]
    rfl
  · refine .inr (.inl ⟨q.1, ?_⟩)
    unfold textM
    rw [if_neg (by rw [q.1]; decide), if_pos q.1]
    rfl
  · refine .inr (.inr (.inl ⟨q.1, ?_⟩))
    unfold textM
    rw [if_neg (by rw [q.1]; decide), if_neg (by rw [q.1]; decide), if_pos q.1]
    rfl
  · refine .inr (.inr (.inr ⟨q.1, ?_⟩))
    unfold textM
    rw [if_neg (by rw [q.1]; decide), if_neg (by rw [q.1]; decide), if_neg (by rw [q.1]; decide)]
    split
    · exact .inl rfl
    · exact .inr rfl
theorem text_kind (m x : Msg) (hm : rightM m) (hx : rightM x) (h : textM x = textM m) : x.k = m.k := by
  have h1 := headM m hm
  have h2 := headM x hx
  rw [h] at h2
  rcases h1 with ⟨a1, a2⟩ | ⟨a1, a2⟩ | ⟨a1, a2⟩ | ⟨a1, a2 | a2⟩ <;> rcases h2 with ⟨b1, b2⟩ | ⟨b1, b2⟩ | ⟨b1, b2⟩ | ⟨b1, b2 | b2⟩ <;> first
    | exact b1.trans a1.symm
    | (rw [a2] at b2; exact absurd (Option.some.inj b2) (by decide))
theorem nonce_no44 {l : List UInt8} (h : nonceOk l = true) : 44 ∉ l := by
  intro hm
  unfold nonceOk at h
  rw [Bool.and_eq_true] at h
  have := List.all_eq_true.1 h.1 44 hm
  revert this
  decide
theorem fail_no44 {l : List UInt8} (h : failOk l = true) : 44 ∉ l := by
  intro hm
  unfold failOk at h
  rw [Bool.and_eq_true] at h
  have := List.all_eq_true.1 h.1 44 hm
  revert this
  decide
theorem itoa_no44 (n : Int) : 44 ∉ itoa n := by
  intro h
  have hd : ∀ u, 44 ∉ decDigits u := fun u hu => by
    have := List.all_eq_true.1 (dec_all u).1 44 hu
    revert this
    decide
  unfold itoa at h
  split at h
  · rcases List.mem_cons.1 h with q | q
    · revert q; decide
    · exact hd _ q
  · exact hd _ h
theorem cons_no44 {c : UInt8} {l : List UInt8} (hc : c ≠ 44) (h : 44 ∉ l) : 44 ∉ c :: 61 :: l := by
  intro q
  rcases List.mem_cons.1 q with q | q
  · exact hc q.symm
  rcases List.mem_cons.1 q with q | q
  · revert q; decide
  · exact h q
theorem sg_ne44 (n : Nat) : sg n ≠ 44 := by
  by_cases h : n < 64
  · have : ∀ k : Fin 64, sg k.val ≠ 44 := by decide +kernel
    exact this ⟨n, h⟩
  · have : sg n = 0 := by
      unfold sg
      rw [List.getD_eq_getElem?_getD, List.getElem?_eq_none (by simp [sgT]; omega)]
      rfl
    rw [this]; decide
theorem enc_no44 : ∀ t : List UInt8, (44 : UInt8) ∉ encL t := by
  intro t
  induction t using encL.induct with
  | case1 => simp [encL]
  | case2 a => rw [encL]; simp [Ne.symm (sg_ne44 _)]
  | case3 a b => rw [encL]; simp [Ne.symm (sg_ne44 _)]
  | case4 a b c r ih => rw [encL]; simp [Ne.symm (sg_ne44 _), ih]
theorem decM_own (m : Msg) (h : rightM m) : decM m.k (textM m) = some m := by
  have hr := okM_yes h
  obtain ⟨k, u, n, s, i, p, g, f⟩ := m
  rcases h with q | q | q | q
  · obtain ⟨q1, q2, q3, q4, q5, q6, q7, q8⟩ := q
    simp only at q1 q2 q3 q4 q5 q6 q7 q8 hr ⊢
    subst q1 q2 q3 q4 q5 q6
    have ht : textM ⟨1, u, n, [], 0, [], [], []⟩ = joinL 44 [[110], [], 110 :: 61 :: escL u, 114 :: 61 :: n] := rfl
    have hs := split_join 44 [[110], [], 110 :: 61 :: escL u, 114 :: 61 :: n] (by simp) (fun x hx => by
      simp only [List.mem_cons, List.not_mem_nil, or_false] at hx
      rcases hx with rfl | rfl | rfl | rfl
      · decide
      · decide
      · exact cons_no44 (by decide) (esc_no44 u)
      · exact cons_no44 (by decide) (nonce_no44 q8))
    rw [ht]
    unfold decM
    rw [if_pos rfl, hs]
    simp only [and_self, if_true, partC_yes, unesc_esc]
    exact hr
  · obtain ⟨q1, q2, q3, q4, q5, q6, q7, q8, q9⟩ := q
    simp only at q1 q2 q3 q4 q5 q6 q7 q8 q9 hr ⊢
    subst q1 q2 q3 q4 q5
    have ht : textM ⟨2, [], n, s, i, [], [], []⟩ = joinL 44 [114 :: 61 :: n, 115 :: 61 :: encL s, 105 :: 61 :: itoa i] := rfl
    have hs := split_join 44 [114 :: 61 :: n, 115 :: 61 :: encL s, 105 :: 61 :: itoa i] (by simp) (fun x hx => by
      simp only [List.mem_cons, List.not_mem_nil, or_false] at hx
      rcases hx with rfl | rfl | rfl
      · exact cons_no44 (by decide) (nonce_no44 q6)
      · exact cons_no44 (by decide) (enc_no44 s)
      · exact cons_no44 (by decide) (itoa_no44 i))
    have hd : digN (itoa i) = i := by
      have := dig_itoa i.toNat (by omega) (by omega)
      rw [show ((i.toNat : Nat) : Int) = i by omega] at this
      exact this
    rw [ht]
    unfold decM
    rw [if_neg (by decide), if_pos rfl, hs]
    simp only [partC_yes, dec_enc, hd]
    exact hr
  · obtain ⟨q1, q2, q3, q4, q5, q6, q7, q8⟩ := q
    simp only at q1 q2 q3 q4 q5 q6 q7 q8 hr ⊢
    subst q1 q2 q3 q4 q5 q6
    have ht : textM ⟨3, [], n, [], 0, p, [], []⟩ = joinL 44 [[99, 61, 98, 105, 119, 115], 114 :: 61 :: n, 112 :: 61 :: encL p] := rfl
    have hs := split_join 44 [[99, 61, 98, 105, 119, 115], 114 :: 61 :: n, 112 :: 61 :: encL p] (by simp) (fun x hx => by
      simp only [List.mem_cons, List.not_mem_nil, or_false] at hx
      rcases hx with rfl | rfl | rfl
      · decide
      · exact cons_no44 (by decide) (nonce_no44 q7)
      · exact cons_no44 (by decide) (enc_no44 p))
    rw [ht]
    unfold decM
    rw [if_neg (by decide), if_neg (by decide), if_pos rfl, hs]
    simp only [if_true, partC_yes, dec_enc]
    exact hr
  · obtain ⟨q1, q2, q3, q4, q5, q6, q7⟩ := q
    simp only at q1 q2 q3 q4 q5 q6 q7 hr ⊢
    subst q1 q2 q3 q4 q5 q6
    rcases q7 with ⟨g1, g2⟩ | ⟨g1, g2⟩
    · subst g2
      have ht : textM ⟨4, [], [], [], 0, [], g, []⟩ = 118 :: 61 :: encL g := rfl
      have hs : splitL 44 (118 :: 61 :: encL g) = [118 :: 61 :: encL g] := splitL_no 44 _ (cons_no44 (by decide) (enc_no44 g))
      have hp : partC 101 (118 :: 61 :: encL g) = none := by simp [partC]
      rw [ht]
      unfold decM
      rw [if_neg (by decide), if_neg (by decide), if_neg (by decide), if_pos rfl, hs]
      simp only [hp, partC_yes, dec_enc]
      exact hr
    · subst g1
      have hne : f ≠ [] := by rintro rfl; revert g2; decide
      have ht : textM ⟨4, [], [], [], 0, [], [], f⟩ = 101 :: 61 :: f := by
        unfold textM
        rw [if_neg (by simp), if_neg (by simp), if_neg (by simp), if_pos hne]
      have hs : splitL 44 (101 :: 61 :: f) = [101 :: 61 :: f] := splitL_no 44 _ (cons_no44 (by decide) (fail_no44 g2))
      rw [ht]
      unfold decM
      rw [if_neg (by decide), if_neg (by decide), if_neg (by decide), if_pos rfl, hs]
      simp only [partC_yes]
      exact hr
theorem decM_text (k : Int) (m : Msg) (h : rightM m) : decM k (textM m) = if k = m.k then some m else none := by
  by_cases hk : k = m.k
  · rw [if_pos hk, hk]
    exact decM_own m h
  · rw [if_neg hk]
    cases hd : decM k (textM m) with
    | none => rfl
    | some x =>
      obtain ⟨h1, h2, h3⟩ := decM_right k _ x hd
      exact absurd (h3.symm.trans (text_kind m x h h1 h2)) hk
/-! ### What the program reads -/
/-- Parts behind their letters, as many as there are. -/
def valsC : List UInt8 → List (List UInt8) → Option (List (List UInt8))
  | [], [] => some []
  | c :: cs, p :: ps => match partC c p, valsC cs ps with
    | some a, some r => some (a :: r)
    | _, _ => none
  | _, _ => none
def valsM (cs : List UInt8) (s : List UInt8) : Option (List (List UInt8)) := valsC cs (splitL 44 s)
def b64 (s : List UInt8) : List UInt8 := (decL s).getD []
/-- A number that a word of up to nine signs is read as, or nought: the sign that Atoi answers of such a one. -/
def atoi9 (l : List UInt8) : Int := (atoi l).getD 0
def readM (k : Int) (s : List UInt8) : Option Msg :=
  if k = 1 then match valsM [110, 114] (s.drop 3) with
    | some [a, b] => some ⟨1, (unescR a).getD [], b, [], 0, [], [], []⟩
    | _ => none
  else if k = 2 then match valsM [114, 115, 105] s with
    | some [a, b, c] => if 9 < c.length then none else some ⟨2, [], a, b64 b, atoi9 c, [], [], []⟩
    | _ => none
  else if k = 3 then match valsM [99, 114, 112] s with
    | some [_, b, c] => some ⟨3, [], b, [], 0, b64 c, [], []⟩
    | _ => none
  else some ⟨k, [], [], [], 0, [], (match valsM [118] s with | some [a] => b64 a | _ => []), (match valsM [101] s with | some [a] => a | _ => [])⟩
theorem readM_kind (k : Int) (s : List UInt8) (m : Msg) (h : readM k s = some m) : m.k = k := by
  unfold readM at h
  split at h
  · rename_i hk
    split at h
    · obtain rfl := Option.some.inj h; exact hk.symm
    · cases h
  split at h
  · rename_i hk
    split at h
    · split at h
      · cases h
      · obtain rfl := Option.some.inj h; exact hk.symm
    · cases h
  split at h
  · rename_i hk
    split at h
    · obtain rfl := Option.some.inj h; exact hk.symm
    · cases h
  · obtain rfl := Option.some.inj h; rfl
theorem atoi9_itoa (i : Int) (h1 : 1 ≤ i) (h2 : i ≤ 16777216) : atoi9 (itoa i) = i ∧ (itoa i).length ≤ 8 := by
  have hl : (itoa i).length ≤ 8 := by
    rw [itoa, if_neg (by omega)]
    exact dec_len 7 i.toNat (by omega)
  have h := atoi_itoa i (by omega) (by omega)
  rw [atoiAll_short _ (by omega)] at h
  refine ⟨?_, hl⟩
  unfold atoi9
  cases ha : atoi (itoa i) with
  | none => rw [ha] at h; cases h
  | some v =>
    rw [ha] at h
    simpa [NumEnd.ofOption] using h
theorem readM_own (m : Msg) (h : rightM m) : readM m.k (textM m) = some m := by
  obtain ⟨k, u, n, s, i, p, g, f⟩ := m
  rcases h with q | q | q | q
  · obtain ⟨q1, q2, q3, q4, q5, q6, q7, q8⟩ := q
    simp only at q1 q2 q3 q4 q5 q6 q7 q8 ⊢
    subst q1 q2 q3 q4 q5 q6
    have ht : (textM ⟨1, u, n, [], 0, [], [], []⟩).drop 3 = joinL 44 [110 :: 61 :: escL u, 114 :: 61 :: n] := rfl
    have hs := split_join 44 [110 :: 61 :: escL u, 114 :: 61 :: n] (by simp) (fun x hx => by
      simp only [List.mem_cons, List.not_mem_nil, or_false] at hx
      rcases hx with rfl | rfl
      · exact cons_no44 (by decide) (esc_no44 u)
      · exact cons_no44 (by decide) (nonce_no44 q8))
    unfold readM valsM
    rw [if_pos rfl, ht, hs]
    simp only [valsC, partC_yes, unesc_esc, Option.getD_some]
  · obtain ⟨q1, q2, q3, q4, q5, q6, q7, q8, q9⟩ := q
    simp only at q1 q2 q3 q4 q5 q6 q7 q8 q9 ⊢
    subst q1 q2 q3 q4 q5
    have ht : textM ⟨2, [], n, s, i, [], [], []⟩ = joinL 44 [114 :: 61 :: n, 115 :: 61 :: encL s, 105 :: 61 :: itoa i] := rfl
    have hs := split_join 44 [114 :: 61 :: n, 115 :: 61 :: encL s, 105 :: 61 :: itoa i] (by simp) (fun x hx => by
      simp only [List.mem_cons, List.not_mem_nil, or_false] at hx
      rcases hx with rfl | rfl | rfl
      · exact cons_no44 (by decide) (nonce_no44 q6)
      · exact cons_no44 (by decide) (enc_no44 s)
      · exact cons_no44 (by decide) (itoa_no44 i))
    obtain ⟨a1, a2⟩ := atoi9_itoa i q8 q9
    unfold readM valsM
    rw [if_neg (by decide), if_pos rfl, ht, hs]
    simp only [valsC, partC_yes]
    rw [if_neg (by omega), a1]
    unfold b64
    rw [dec_enc]
    rfl
  · obtain ⟨q1, q2, q3, q4, q5, q6, q7, q8⟩ := q
    simp only at q1 q2 q3 q4 q5 q6 q7 q8 ⊢
    subst q1 q2 q3 q4 q5 q6
    have ht : textM ⟨3, [], n, [], 0, p, [], []⟩ = joinL 44 [99 :: 61 :: [98, 105, 119, 115], 114 :: 61 :: n, 112 :: 61 :: encL p] := rfl
    have hs := split_join 44 [99 :: 61 :: [98, 105, 119, 115], 114 :: 61 :: n, 112 :: 61 :: encL p] (by simp) (fun x hx => by
      simp only [List.mem_cons, List.not_mem_nil, or_false] at hx
      rcases hx with rfl | rfl | rfl
      · decide
      · exact cons_no44 (by decide) (nonce_no44 q7)
      · exact cons_no44 (by decide) (enc_no44 p))
    unfold readM valsM
    rw [if_neg (by decide), if_neg (by decide), if_pos rfl, ht, hs]
    simp only [valsC, partC_yes]
    unfold b64
    rw [dec_enc]
    rfl
  · obtain ⟨q1, q2, q3, q4, q5, q6, q7⟩ := q
    simp only at q1 q2 q3 q4 q5 q6 q7 ⊢
    subst q1 q2 q3 q4 q5 q6
    rcases q7 with ⟨g1, g2⟩ | ⟨g1, g2⟩
    · subst g2
      have ht : textM ⟨4, [], [], [], 0, [], g, []⟩ = 118 :: 61 :: encL g := rfl
      have hs : splitL 44 (118 :: 61 :: encL g) = [118 :: 61 :: encL g] := splitL_no 44 _ (cons_no44 (by decide) (enc_no44 g))
      have hp : partC 101 (118 :: 61 :: encL g) = none := by simp [partC]
      unfold readM valsM
      rw [if_neg (by decide), if_neg (by decide), if_neg (by decide), ht, hs]
      simp only [valsC, hp, partC_yes]
      unfold b64
      rw [dec_enc]
      rfl
    · subst g1
      have hne : f ≠ [] := by rintro rfl; revert g2; decide
      have ht : textM ⟨4, [], [], [], 0, [], [], f⟩ = 101 :: 61 :: f := by
        unfold textM
        rw [if_neg (by simp), if_neg (by simp), if_neg (by simp), if_pos hne]
      have hs : splitL 44 (101 :: 61 :: f) = [101 :: 61 :: f] := splitL_no 44 _ (cons_no44 (by decide) (fail_no44 g2))
      have hp : partC 118 (101 :: 61 :: f) = none := by simp [partC]
      unfold readM valsM
      rw [if_neg (by decide), if_neg (by decide), if_neg (by decide), ht, hs]
      simp only [valsC, hp, partC_yes]
/-- What the program's Decode answers. -/
def progM (k : Int) (s : List UInt8) : Option Msg := match readM k s with
  | some m => if rightM m ∧ textM m = s then some m else none
  | none => none
theorem prog_dec (k : Int) (s : List UInt8) : progM k s = decM k s := by
  cases hd : decM k s with
  | some m =>
    obtain ⟨h1, h2, h3⟩ := decM_right k s m hd
    have hr := readM_own m h1
    rw [h2, h3] at hr
    unfold progM
    rw [hr]
    simp only []
    rw [if_pos ⟨h1, h2⟩]
  | none =>
    unfold progM
    cases hr : readM k s with
    | none => rfl
    | some m =>
      simp only []
      split
      · rename_i hc
        exfalso
        have ho := decM_own m hc.1
        rw [hc.2, readM_kind k s m hr, hd] at ho
        cases ho
      · rfl
end Go.Proofs.YtjigckibbjfkmaaGreatDoor

/- Reference 09: Point, Points. -/
import Derived.Test.YtjigckibbjfkmaaGreatDoorAq
import Derived.Test.YtjigckibbjfkmaaGreatDoorMb
import Derived.Lib.TrimUEq
namespace Go.Proofs.YtjigckibbjfkmaaGreatDoor
open Go.RowKit
set_option maxRecDepth 100000
set_option linter.unusedSimpArgs false
set_option linter.unusedVariables false
theorem pointL_step (l : List UInt8) (hne : l ≠ []) : pointL l = if (Lib.decodeL l).1 = 65533 ∧ (Lib.decodeL l).2 = 1 then 0 else (Lib.decodeL l).2 := by
  unfold pointL
  rw [if_neg hne]
  rw [Lib.decodeL_N]
  exact point_decode _ _ _ _ _ (UInt8.toNat_lt _) (UInt8.toNat_lt _) (UInt8.toNat_lt _) (UInt8.toNat_lt _)
theorem pointL_le (l : List UInt8) (hne : l ≠ []) : pointL l ≤ l.length := by
  have h0 : 0 < l.length := List.length_pos_iff.2 hne
  unfold pointL
  rw [if_neg hne]
  unfold pointN
  repeat' split
  all_goals omega
theorem pointsN_fuel : ∀ (n m : Nat) (l : List UInt8), l.length ≤ n → l.length ≤ m → pointsN n l = pointsN m l
  | n, m, [], _, _ => by cases n <;> cases m <;> rfl
  | 0, _, b :: r, h, _ => by simp at h
  | _, 0, b :: r, _, h => by simp at h
  | n + 1, m + 1, b :: r, h1, h2 => by
    simp only [pointsN]
    by_cases h : pointL (b :: r) = 0
    · rw [if_pos h, if_pos h]
    · rw [if_neg h, if_neg h]
      apply pointsN_fuel n m _
      · rw [List.length_drop]; omega
      · rw [List.length_drop]; omega
theorem pointsL_nil : pointsL [] = true := rfl
theorem pointsL_step (l : List UInt8) (hne : l ≠ []) : pointsL l = if pointL l = 0 then false else pointsL (l.drop (pointL l)) := by
  match l, hne with
  | b :: r, _ =>
    show pointsN (r.length + 1) (b :: r) = _
    rw [pointsN]
    by_cases h : pointL (b :: r) = 0
    · rw [if_pos h, if_pos h]
    · rw [if_neg h, if_neg h]
      apply pointsN_fuel
      · rw [List.length_drop]; simp only [List.length_cons]; omega
      · exact Nat.le_refl _
theorem points_valid : ∀ (n : Nat) (l : List UInt8), l.length ≤ n → pointsL l = Lib.validD l
  | 0, l, h => by
    obtain rfl : l = [] := List.length_eq_zero_iff.1 (by omega)
    rfl
  | n + 1, l, h => by
    by_cases hne : l = []
    · subst hne; rfl
    · rw [pointsL_step l hne, Lib.validD_step l hne]
      have hp := pointL_step l hne
      by_cases hb : (Lib.decodeL l).1 = 65533 ∧ (Lib.decodeL l).2 = 1
      · rw [if_pos hb] at hp
        rw [if_pos hp, if_pos hb]
      · rw [if_neg hb] at hp
        by_cases h0 : pointL l = 0
        · exfalso
          have h1 : 0 < l.length := List.length_pos_iff.2 hne
          have h2 : (Lib.decodeL l).2 ≠ 0 := by have := Lib.decodeL_width l; omega
          omega
        · rw [if_neg h0, if_neg hb, hp]
          apply points_valid n
          rw [List.length_drop]
          omega
/-- The bounds of a byte. -/
def loP (L j : Nat) : Nat := if j = 1 then L else 128
def hiP (H j : Nat) : Nat := if j = 1 then H else 191
def inP (bs : List UInt8) (L H j : Nat) : Prop := loP L j ≤ (bs.getD j 0).toNat ∧ (bs.getD j 0).toNat ≤ hiP H j
def ClsP (c m L H : Nat) : Prop := (m = 1 ∧ L = 128 ∧ H = 191 ∧ 194 ≤ c ∧ c ≤ 223) ∨ (m = 2 ∧ 224 ≤ c ∧ c ≤ 239 ∧ L = lowP c ∧ H = highP c) ∨ (m = 3 ∧ 240 ≤ c ∧ c ≤ 244 ∧ L = lowP c ∧ H = highP c)
theorem pt_yes (bs : List UInt8) (hn : 0 < bs.length) (m L H : Nat) (h : ClsP (bs.getD 0 0).toNat m L H) (h1 : m < bs.length) (h2 : ∀ j, 1 ≤ j → j ≤ m → inP bs L H j) : pointL bs = m + 1 := by
  have hne : bs ≠ [] := List.length_pos_iff.1 hn
  unfold pointL
  rw [if_neg hne]
  unfold pointN
  unfold inP loP hiP at h2
  rcases h with ⟨rfl, rfl, rfl, c1, c2⟩ | ⟨rfl, c1, c2, rfl, rfl⟩ | ⟨rfl, c1, c2, rfl, rfl⟩
  · have g1 := h2 1 (by omega) (by omega)
    rw [if_pos rfl, if_pos rfl] at g1
    have l1 : lowP (bs.getD 0 0).toNat = 128 := by unfold lowP; rw [if_neg (by omega), if_neg (by omega)]
    have l2 : highP (bs.getD 0 0).toNat = 191 := by unfold highP; rw [if_neg (by omega), if_neg (by omega)]
    rw [if_neg (by omega), if_pos (by omega), l1, l2, if_pos (by omega)]
  · have g1 := h2 1 (by omega) (by omega)
    have g2 := h2 2 (by omega) (by omega)
    rw [if_pos rfl, if_pos rfl] at g1
    rw [if_neg (by decide), if_neg (by decide)] at g2
    rw [if_neg (by omega), if_neg (by omega), if_pos (by omega), if_pos ⟨h1, g1, g2⟩]
  · have g1 := h2 1 (by omega) (by omega)
    have g2 := h2 2 (by omega) (by omega)
    have g3 := h2 3 (by omega) (by omega)
    rw [if_pos rfl, if_pos rfl] at g1
    rw [if_neg (by decide), if_neg (by decide)] at g2 g3
    rw [if_neg (by omega), if_neg (by omega), if_neg (by omega), if_pos (by omega), if_pos ⟨h1, g1, g2, g3⟩]
theorem pt_no (bs : List UInt8) (hn : 0 < bs.length) (m L H : Nat) (h : ClsP (bs.getD 0 0).toNat m L H) (h1 : ¬ m < bs.length ∨ ∃ j, 1 ≤ j ∧ j ≤ m ∧ ¬ inP bs L H j) : pointL bs = 0 := by
  have hne : bs ≠ [] := List.length_pos_iff.1 hn
  unfold pointL
  rw [if_neg hne]
  unfold pointN
  unfold inP loP hiP at h1
  rcases h with ⟨rfl, rfl, rfl, c1, c2⟩ | ⟨rfl, c1, c2, rfl, rfl⟩ | ⟨rfl, c1, c2, rfl, rfl⟩
  · have l1 : lowP (bs.getD 0 0).toNat = 128 := by unfold lowP; rw [if_neg (by omega), if_neg (by omega)]
    have l2 : highP (bs.getD 0 0).toNat = 191 := by unfold highP; rw [if_neg (by omega), if_neg (by omega)]
    rw [if_neg (by omega), if_pos (by omega), l1, l2, if_neg]
    rintro ⟨d1, d2, d3⟩
    rcases h1 with h1 | ⟨j, j1, j2, j3⟩
    · exact h1 d1
    · obtain rfl : j = 1 := by omega
      rw [if_pos rfl, if_pos rfl] at j3
      exact j3 ⟨d2, d3⟩
  · rw [if_neg (by omega), if_neg (by omega), if_pos (by omega), if_neg]
    rintro ⟨d1, d2, d3⟩
    rcases h1 with h1 | ⟨j, j1, j2, j3⟩
    · exact h1 d1
    · rcases (show j = 1 ∨ j = 2 by omega) with rfl | rfl
      · rw [if_pos rfl, if_pos rfl] at j3; exact j3 d2
      · rw [if_neg (by decide), if_neg (by decide)] at j3; exact j3 d3
  · rw [if_neg (by omega), if_neg (by omega), if_neg (by omega), if_pos (by omega), if_neg]
    rintro ⟨d1, d2, d3, d4⟩
    rcases h1 with h1 | ⟨j, j1, j2, j3⟩
    · exact h1 d1
    · rcases (show j = 1 ∨ j = 2 ∨ j = 3 by omega) with rfl | rfl | rfl
      · rw [if_pos rfl, if_pos rfl] at j3; exact j3 d2
      · rw [if_neg (by decide), if_neg (by decide)] at j3; exact j3 d3
      · rw [if_neg (by decide), if_neg (by decide)] at j3; exact j3 d4
theorem row_getD {w : World} {g off : Nat} {bs : List UInt8} (h : RowAt w g off bs) (k : Nat) (hk : k < bs.length) : w.cell? ⟨g, off + k, none⟩ = some (.int .u8 ((bs.getD k 0).toNat : Int)) := by
  rw [h k hk, List.getD_eq_getElem?_getD, List.getElem?_eq_getElem hk]; rfl
/-- What Point answers. -/
def PtR (bs : List UInt8) (e : Ending) : Prop := ∃ v : Int, e = .returned (.tuple #[.int .u32 v, .int .i64 ((pointL bs : Nat) : Int)])

set_option maxHeartbeats 4000000 in
theorem point_B (bs : List UInt8) (g off cap : Nat) (hn : 0 < bs.length) (c : Nat) (hc : (bs.getD 0 0).toNat = c) (r1 : 194 ≤ c) (r2 : c ≤ 223) (w : World) (hk : RowAt w g off bs) : Calls Tryz.prog 71 #[.slice (some ⟨g, off, none⟩) bs.length cap] w fun e w' => PtR bs e ∧ w' = w := by
  have hcl : ClsP (bs.getD 0 0).toNat 1 128 191 := by
    rw [hc]
    exact .inl ⟨rfl, rfl, rfl, by omega, by omega⟩
  have hyes := pt_yes bs hn 1 128 191 hcl
  have hno := pt_no bs hn 1 128 191 hcl
  have hc0 := row_getD hk 0 hn
  rw [hc, Nat.add_zero] at hc0
  have p0 : ¬ ((c : Nat) : Int) ≤ 127 := by omega
  have p1 : ((c : Nat) : Int) ≤ 223 := by omega
  have p2 : ((c : Nat) : Int) ≤ 239 := by omega
  have p3 : ((c : Nat) : Int) ≤ 244 := by omega
  have p4 : 194 ≤ ((c : Nat) : Int) := by omega
  have p5 : ¬ 224 ≤ ((c : Nat) : Int) := by omega
  have p6 : ¬ 240 ≤ ((c : Nat) : Int) := by omega
  have p7 : ¬ ((c : Nat) : Int) = 224 := by omega
  have p8 : (((c : Nat) : Int) == 224) = false := beq_eq_false_iff_ne.2 p7
  have p9 : ¬ ((c : Nat) : Int) = 237 := by omega
  have p10 : (((c : Nat) : Int) == 237) = false := beq_eq_false_iff_ne.2 p9
  have p11 : ¬ ((c : Nat) : Int) = 240 := by omega
  have p12 : (((c : Nat) : Int) == 240) = false := beq_eq_false_iff_ne.2 p11
  have p13 : ¬ ((c : Nat) : Int) = 244 := by omega
  have p14 : (((c : Nat) : Int) == 244) = false := beq_eq_false_iff_ne.2 p13
  have hrow := Lib.hid (row_getD hk)
  unfold PtR
  obtain ⟨X, hX⟩ : ∃ X, X = pointL bs := ⟨_, rfl⟩
  rw [← hX] at hyes hno ⊢
  obtain ⟨n, hnl⟩ : ∃ n, n = bs.length := ⟨_, rfl⟩
  rw [← hnl] at hyes hno hn hrow ⊢
  clear hX hcl hk hc hnl
  replace hyes := Lib.hid hyes
  replace hno := Lib.hid hno
  have hnI : (0 : Int) < (n : Int) := by omega
  have hnJ : ¬ (n : Int) = 0 := by omega
  have hnK : ((n : Int) == 0) = false := beq_eq_false_iff_ne.2 hnJ
  by_cases hm : 1 < n
  case neg =>
    have hmI : (n : Int) ≤ 1 := by omega
    have hX0 := Lib.hid (hno.out (.inl hm))
    clear hno hyes hrow hm
    go_enter Tryz.func71, Tryz.ntmps71
    go_wp2_with fail
    exact bodyPost_ret (v := .tuple #[.int .u32 0, .int .i64 0]) (by simp [results, Tryz.results71, go_sem]) rfl ⟨⟨0, by rw [hX0.out]; rfl⟩, rfl⟩
  have hmI : ¬ (n : Int) ≤ 1 := by omega
  go_enter Tryz.func71, Tryz.ntmps71
  go_wp2_with fail
  go_loopw [9, 6, 7, 8] (fun i lo hi v wr => ∃ (k : Nat) (a b : Nat) (x : Int), 1 ≤ k ∧ k ≤ 2 ∧ i = .int .i64 (k : Int) ∧ lo = .int .u8 (a : Int) ∧ hi = .int .u8 (b : Int) ∧ v = .int .u32 x ∧ Hid (a = loP 128 k) ∧ Hid (b = hiP 191 k) ∧ Hid (∀ j, 1 ≤ j → j < k → inP bs 128 191 j) ∧ wr = w) (fun i _ _ _ _ => 3 - (RowKit.intOf i).toNat)
  case atStart => exact ⟨1, 128, 191, _, by omega, by omega, rfl, rfl, rfl, rfl, Lib.hid rfl, Lib.hid rfl, Lib.hid (fun j h1 h2 => absurd h2 (by omega)), rfl⟩
  case round =>
    obtain ⟨k, a, b, x, hk1, hk2, rfl, rfl, rfl, rfl, ha, hb, hall, rfl⟩ := hrel
    have pn : (0 : Int) ≤ (k : Int) := by omega
    by_cases hlt : k ≤ 1
    · have hlt' : (k : Int) ≤ 1 := by omega
      have hkn : k < n := by omega
      have hknI : (k : Int) < (n : Int) := by omega
      have hcell := hrow.out k hkn
      have hinP : inP bs 128 191 k ↔ (a ≤ (bs.getD k 0).toNat ∧ (bs.getD k 0).toNat ≤ b) := by unfold inP; rw [← ha.out, ← hb.out]
      obtain ⟨d, hd⟩ : ∃ d, d = (bs.getD k 0).toNat := ⟨_, rfl⟩
      rw [← hd] at hcell hinP
      clear hd ha hb
      by_cases c1 : d < a
      · have c1I : (d : Int) < (a : Int) := by omega
        have hX0 := Lib.hid (hno.out (.inr ⟨k, hk1, hlt, fun q => by have := (hinP.1 q).1; omega⟩))
        clear hinP hyes hno hall
        go_wp2_with fail
        exact bodyPost_ret (v := .tuple #[.int .u32 0, .int .i64 0]) (by simp [results, Tryz.results71, go_sem]) rfl ⟨⟨0, by rw [hX0.out]; rfl⟩, rfl⟩
      have c1I : ¬ (d : Int) < (a : Int) := by omega
      by_cases c2 : b < d
      · have c2I : (b : Int) < (d : Int) := by omega
        have hX0 := Lib.hid (hno.out (.inr ⟨k, hk1, hlt, fun q => by have := (hinP.1 q).2; omega⟩))
        clear hinP hyes hno hall
        go_wp2_with fail
        exact bodyPost_ret (v := .tuple #[.int .u32 0, .int .i64 0]) (by simp [results, Tryz.results71, go_sem]) rfl ⟨⟨0, by rw [hX0.out]; rfl⟩, rfl⟩
      have c2I : ¬ (b : Int) < (d : Int) := by omega
      have hin : inP bs 128 191 k := hinP.2 ⟨by omega, by omega⟩
      have hall2 : Hid (∀ j, 1 ≤ j → j < k + 1 → inP bs 128 191 j) := Lib.hid (fun j h1 h2 => by
        rcases (show j < k ∨ j = k by omega) with q | rfl
        · exact hall.out j h1 q
        · exact hin)
      clear hinP hin hall
      go_wp2_with fail
      go_roundw
      case measure => simp [RowKit.intOf] <;> omega
      refine ⟨k + 1, 128, 191, _, by omega, by omega, congrArg (Value.int .i64) (by omega), rfl, rfl, rfl, Lib.hid ?_, Lib.hid ?_, hall2, trivial⟩
      · unfold loP; rw [if_neg (by omega)]
      · unfold hiP; rw [if_neg (by omega)]
    · obtain rfl : k = 2 := by omega
      have hX1 := Lib.hid (hyes.out hm (fun j h1 h2 => hall.out j h1 (by omega)))
      clear hyes hno hall
      go_wp2_with fail
      exact bodyPost_ret (v := .tuple #[.int .u32 x, .int .i64 2]) (by simp [results, Tryz.results71, go_sem]) rfl ⟨⟨x, by rw [hX1.out]; rfl⟩, rfl⟩
set_option maxHeartbeats 4000000 in
theorem point_C1 (bs : List UInt8) (g off cap : Nat) (hn : 0 < bs.length) (hc : (bs.getD 0 0).toNat = 224) (w : World) (hk : RowAt w g off bs) : Calls Tryz.prog 71 #[.slice (some ⟨g, off, none⟩) bs.length cap] w fun e w' => PtR bs e ∧ w' = w := by
  have hcl : ClsP (bs.getD 0 0).toNat 2 160 191 := by
    rw [hc]
    exact .inr (.inl ⟨rfl, by omega, by omega, rfl, rfl⟩)
  have hyes := pt_yes bs hn 2 160 191 hcl
  have hno := pt_no bs hn 2 160 191 hcl
  have hc0 := row_getD hk 0 hn
  rw [hc, Nat.add_zero] at hc0
  have hrow := Lib.hid (row_getD hk)
  unfold PtR
  obtain ⟨X, hX⟩ : ∃ X, X = pointL bs := ⟨_, rfl⟩
  rw [← hX] at hyes hno ⊢
  obtain ⟨n, hnl⟩ : ∃ n, n = bs.length := ⟨_, rfl⟩
  rw [← hnl] at hyes hno hn hrow ⊢
  clear hX hcl hk hc hnl
  replace hyes := Lib.hid hyes
  replace hno := Lib.hid hno
  have hnI : (0 : Int) < (n : Int) := by omega
  have hnJ : ¬ (n : Int) = 0 := by omega
  have hnK : ((n : Int) == 0) = false := beq_eq_false_iff_ne.2 hnJ
  by_cases hm : 2 < n
  case neg =>
    have hmI : (n : Int) ≤ 2 := by omega
    have hX0 := Lib.hid (hno.out (.inl hm))
    clear hno hyes hrow hm
    go_enter Tryz.func71, Tryz.ntmps71
    go_wp2_with fail
    exact bodyPost_ret (v := .tuple #[.int .u32 0, .int .i64 0]) (by simp [results, Tryz.results71, go_sem]) rfl ⟨⟨0, by rw [hX0.out]; rfl⟩, rfl⟩
  have hmI : ¬ (n : Int) ≤ 2 := by omega
  go_enter Tryz.func71, Tryz.ntmps71
  go_wp2_with fail
  go_loopw [9, 6, 7, 8] (fun i lo hi v wr => ∃ (k : Nat) (a b : Nat) (x : Int), 1 ≤ k ∧ k ≤ 3 ∧ i = .int .i64 (k : Int) ∧ lo = .int .u8 (a : Int) ∧ hi = .int .u8 (b : Int) ∧ v = .int .u32 x ∧ Hid (a = loP 160 k) ∧ Hid (b = hiP 191 k) ∧ Hid (∀ j, 1 ≤ j → j < k → inP bs 160 191 j) ∧ wr = w) (fun i _ _ _ _ => 4 - (RowKit.intOf i).toNat)
  case atStart => exact ⟨1, 160, 191, _, by omega, by omega, rfl, rfl, rfl, rfl, Lib.hid rfl, Lib.hid rfl, Lib.hid (fun j h1 h2 => absurd h2 (by omega)), rfl⟩
  case round =>
    obtain ⟨k, a, b, x, hk1, hk2, rfl, rfl, rfl, rfl, ha, hb, hall, rfl⟩ := hrel
    have pn : (0 : Int) ≤ (k : Int) := by omega
    by_cases hlt : k ≤ 2
    · have hlt' : (k : Int) ≤ 2 := by omega
      have hkn : k < n := by omega
      have hknI : (k : Int) < (n : Int) := by omega
      have hcell := hrow.out k hkn
      have hinP : inP bs 160 191 k ↔ (a ≤ (bs.getD k 0).toNat ∧ (bs.getD k 0).toNat ≤ b) := by unfold inP; rw [← ha.out, ← hb.out]
      obtain ⟨d, hd⟩ : ∃ d, d = (bs.getD k 0).toNat := ⟨_, rfl⟩
      rw [← hd] at hcell hinP
      clear hd ha hb
      by_cases c1 : d < a
      · have c1I : (d : Int) < (a : Int) := by omega
        have hX0 := Lib.hid (hno.out (.inr ⟨k, hk1, hlt, fun q => by have := (hinP.1 q).1; omega⟩))
        clear hinP hyes hno hall
        go_wp2_with fail
        exact bodyPost_ret (v := .tuple #[.int .u32 0, .int .i64 0]) (by simp [results, Tryz.results71, go_sem]) rfl ⟨⟨0, by rw [hX0.out]; rfl⟩, rfl⟩
      have c1I : ¬ (d : Int) < (a : Int) := by omega
      by_cases c2 : b < d
      · have c2I : (b : Int) < (d : Int) := by omega
        have hX0 := Lib.hid (hno.out (.inr ⟨k, hk1, hlt, fun q => by have := (hinP.1 q).2; omega⟩))
        clear hinP hyes hno hall
        go_wp2_with fail
        exact bodyPost_ret (v := .tuple #[.int .u32 0, .int .i64 0]) (by simp [results, Tryz.results71, go_sem]) rfl ⟨⟨0, by rw [hX0.out]; rfl⟩, rfl⟩
      have c2I : ¬ (b : Int) < (d : Int) := by omega
      have hin : inP bs 160 191 k := hinP.2 ⟨by omega, by omega⟩
      have hall2 : Hid (∀ j, 1 ≤ j → j < k + 1 → inP bs 160 191 j) := Lib.hid (fun j h1 h2 => by
        rcases (show j < k ∨ j = k by omega) with q | rfl
        · exact hall.out j h1 q
        · exact hin)
      clear hinP hin hall
      go_wp2_with fail
      go_roundw
      case measure => simp [RowKit.intOf] <;> omega
      refine ⟨k + 1, 128, 191, _, by omega, by omega, congrArg (Value.int .i64) (by omega), rfl, rfl, rfl, Lib.hid ?_, Lib.hid ?_, hall2, trivial⟩
      · unfold loP; rw [if_neg (by omega)]
      · unfold hiP; rw [if_neg (by omega)]
    · obtain rfl : k = 3 := by omega
      have hX1 := Lib.hid (hyes.out hm (fun j h1 h2 => hall.out j h1 (by omega)))
      clear hyes hno hall
      go_wp2_with fail
      exact bodyPost_ret (v := .tuple #[.int .u32 x, .int .i64 3]) (by simp [results, Tryz.results71, go_sem]) rfl ⟨⟨x, by rw [hX1.out]; rfl⟩, rfl⟩
set_option maxHeartbeats 4000000 in
theorem point_C2 (bs : List UInt8) (g off cap : Nat) (hn : 0 < bs.length) (c : Nat) (hc : (bs.getD 0 0).toNat = c) (r1 : 225 ≤ c) (r2 : c ≤ 236) (w : World) (hk : RowAt w g off bs) : Calls Tryz.prog 71 #[.slice (some ⟨g, off, none⟩) bs.length cap] w fun e w' => PtR bs e ∧ w' = w := by
  have hcl : ClsP (bs.getD 0 0).toNat 2 128 191 := by
    rw [hc]
    exact .inr (.inl ⟨rfl, by omega, by omega, by unfold lowP; rw [if_neg (by omega), if_neg (by omega)], by unfold highP; rw [if_neg (by omega), if_neg (by omega)]⟩)
  have hyes := pt_yes bs hn 2 128 191 hcl
  have hno := pt_no bs hn 2 128 191 hcl
  have hc0 := row_getD hk 0 hn
  rw [hc, Nat.add_zero] at hc0
  have p0 : ¬ ((c : Nat) : Int) ≤ 127 := by omega
  have p1 : ¬ ((c : Nat) : Int) ≤ 223 := by omega
  have p2 : ((c : Nat) : Int) ≤ 239 := by omega
  have p3 : ((c : Nat) : Int) ≤ 244 := by omega
  have p4 : 194 ≤ ((c : Nat) : Int) := by omega
  have p5 : 224 ≤ ((c : Nat) : Int) := by omega
  have p6 : ¬ 240 ≤ ((c : Nat) : Int) := by omega
  have p7 : ¬ ((c : Nat) : Int) = 224 := by omega
  have p8 : (((c : Nat) : Int) == 224) = false := beq_eq_false_iff_ne.2 p7
  have p9 : ¬ ((c : Nat) : Int) = 237 := by omega
  have p10 : (((c : Nat) : Int) == 237) = false := beq_eq_false_iff_ne.2 p9
  have p11 : ¬ ((c : Nat) : Int) = 240 := by omega
  have p12 : (((c : Nat) : Int) == 240) = false := beq_eq_false_iff_ne.2 p11
  have p13 : ¬ ((c : Nat) : Int) = 244 := by omega
  have p14 : (((c : Nat) : Int) == 244) = false := beq_eq_false_iff_ne.2 p13
  have hrow := Lib.hid (row_getD hk)
  unfold PtR
  obtain ⟨X, hX⟩ : ∃ X, X = pointL bs := ⟨_, rfl⟩
  rw [← hX] at hyes hno ⊢
  obtain ⟨n, hnl⟩ : ∃ n, n = bs.length := ⟨_, rfl⟩
  rw [← hnl] at hyes hno hn hrow ⊢
  clear hX hcl hk hc hnl
  replace hyes := Lib.hid hyes
  replace hno := Lib.hid hno
  have hnI : (0 : Int) < (n : Int) := by omega
  have hnJ : ¬ (n : Int) = 0 := by omega
  have hnK : ((n : Int) == 0) = false := beq_eq_false_iff_ne.2 hnJ
  by_cases hm : 2 < n
  case neg =>
    have hmI : (n : Int) ≤ 2 := by omega
    have hX0 := Lib.hid (hno.out (.inl hm))
    clear hno hyes hrow hm
    go_enter Tryz.func71, Tryz.ntmps71
    go_wp2_with fail
    exact bodyPost_ret (v := .tuple #[.int .u32 0, .int .i64 0]) (by simp [results, Tryz.results71, go_sem]) rfl ⟨⟨0, by rw [hX0.out]; rfl⟩, rfl⟩
  have hmI : ¬ (n : Int) ≤ 2 := by omega
  go_enter Tryz.func71, Tryz.ntmps71
  go_wp2_with fail
  go_loopw [9, 6, 7, 8] (fun i lo hi v wr => ∃ (k : Nat) (a b : Nat) (x : Int), 1 ≤ k ∧ k ≤ 3 ∧ i = .int .i64 (k : Int) ∧ lo = .int .u8 (a : Int) ∧ hi = .int .u8 (b : Int) ∧ v = .int .u32 x ∧ Hid (a = loP 128 k) ∧ Hid (b = hiP 191 k) ∧ Hid (∀ j, 1 ≤ j → j < k → inP bs 128 191 j) ∧ wr = w) (fun i _ _ _ _ => 4 - (RowKit.intOf i).toNat)
  case atStart => exact ⟨1, 128, 191, _, by omega, by omega, rfl, rfl, rfl, rfl, Lib.hid rfl, Lib.hid rfl, Lib.hid (fun j h1 h2 => absurd h2 (by omega)), rfl⟩
  case round =>
    obtain ⟨k, a, b, x, hk1, hk2, rfl, rfl, rfl, rfl, ha, hb, hall, rfl⟩ := hrel
    have pn : (0 : Int) ≤ (k : Int) := by omega
    by_cases hlt : k ≤ 2
    · have hlt' : (k : Int) ≤ 2 := by omega
      have hkn : k < n := by omega
      have hknI : (k : Int) < (n : Int) := by omega
      have hcell := hrow.out k hkn
      have hinP : inP bs 128 191 k ↔ (a ≤ (bs.getD k 0).toNat ∧ (bs.getD k 0).toNat ≤ b) := by unfold inP; rw [← ha.out, ← hb.out]
      obtain ⟨d, hd⟩ : ∃ d, d = (bs.getD k 0).toNat := ⟨_, rfl⟩
      rw [← hd] at hcell hinP
      clear hd ha hb
      by_cases c1 : d < a
      · have c1I : (d : Int) < (a : Int) := by omega
        have hX0 := Lib.hid (hno.out (.inr ⟨k, hk1, hlt, fun q => by have := (hinP.1 q).1; omega⟩))
        clear hinP hyes hno hall
        go_wp2_with fail
        exact bodyPost_ret (v := .tuple #[.int .u32 0, .int .i64 0]) (by simp [results, Tryz.results71, go_sem]) rfl ⟨⟨0, by rw [hX0.out]; rfl⟩, rfl⟩
      have c1I : ¬ (d : Int) < (a : Int) := by omega
      by_cases c2 : b < d
      · have c2I : (b : Int) < (d : Int) := by omega
        have hX0 := Lib.hid (hno.out (.inr ⟨k, hk1, hlt, fun q => by have := (hinP.1 q).2; omega⟩))
        clear hinP hyes hno hall
        go_wp2_with fail
        exact bodyPost_ret (v := .tuple #[.int .u32 0, .int .i64 0]) (by simp [results, Tryz.results71, go_sem]) rfl ⟨⟨0, by rw [hX0.out]; rfl⟩, rfl⟩
      have c2I : ¬ (b : Int) < (d : Int) := by omega
      have hin : inP bs 128 191 k := hinP.2 ⟨by omega, by omega⟩
      have hall2 : Hid (∀ j, 1 ≤ j → j < k + 1 → inP bs 128 191 j) := Lib.hid (fun j h1 h2 => by
        rcases (show j < k ∨ j = k by omega) with q | rfl
        · exact hall.out j h1 q
        · exact hin)
      clear hinP hin hall
      go_wp2_with fail
      go_roundw
      case measure => simp [RowKit.intOf] <;> omega
      refine ⟨k + 1, 128, 191, _, by omega, by omega, congrArg (Value.int .i64) (by omega), rfl, rfl, rfl, Lib.hid ?_, Lib.hid ?_, hall2, trivial⟩
      · unfold loP; rw [if_neg (by omega)]
      · unfold hiP; rw [if_neg (by omega)]
    · obtain rfl : k = 3 := by omega
      have hX1 := Lib.hid (hyes.out hm (fun j h1 h2 => hall.out j h1 (by omega)))
      clear hyes hno hall
      go_wp2_with fail
      exact bodyPost_ret (v := .tuple #[.int .u32 x, .int .i64 3]) (by simp [results, Tryz.results71, go_sem]) rfl ⟨⟨x, by rw [hX1.out]; rfl⟩, rfl⟩
set_option maxHeartbeats 4000000 in
theorem point_C3 (bs : List UInt8) (g off cap : Nat) (hn : 0 < bs.length) (hc : (bs.getD 0 0).toNat = 237) (w : World) (hk : RowAt w g off bs) : Calls Tryz.prog 71 #[.slice (some ⟨g, off, none⟩) bs.length cap] w fun e w' => PtR bs e ∧ w' = w := by
  have hcl : ClsP (bs.getD 0 0).toNat 2 128 159 := by
    rw [hc]
    exact .inr (.inl ⟨rfl, by omega, by omega, rfl, rfl⟩)
  have hyes := pt_yes bs hn 2 128 159 hcl
  have hno := pt_no bs hn 2 128 159 hcl
  have hc0 := row_getD hk 0 hn
  rw [hc, Nat.add_zero] at hc0
  have hrow := Lib.hid (row_getD hk)
  unfold PtR
  obtain ⟨X, hX⟩ : ∃ X, X = pointL bs := ⟨_, rfl⟩
  rw [← hX] at hyes hno ⊢
  obtain ⟨n, hnl⟩ : ∃ n, n = bs.length := ⟨_, rfl⟩
  rw [← hnl] at hyes hno hn hrow ⊢
  clear hX hcl hk hc hnl
  replace hyes := Lib.hid hyes
  replace hno := Lib.hid hno
  have hnI : (0 : Int) < (n : Int) := by omega
  have hnJ : ¬ (n : Int) = 0 := by omega
  have hnK : ((n : Int) == 0) = false := beq_eq_false_iff_ne.2 hnJ
  by_cases hm : 2 < n
  case neg =>
    have hmI : (n : Int) ≤ 2 := by omega
    have hX0 := Lib.hid (hno.out (.inl hm))
    clear hno hyes hrow hm
    go_enter Tryz.func71, Tryz.ntmps71
    go_wp2_with fail
    exact bodyPost_ret (v := .tuple #[.int .u32 0, .int .i64 0]) (by simp [results, Tryz.results71, go_sem]) rfl ⟨⟨0, by rw [hX0.out]; rfl⟩, rfl⟩
  have hmI : ¬ (n : Int) ≤ 2 := by omega
  go_enter Tryz.func71, Tryz.ntmps71
  go_wp2_with fail
  go_loopw [9, 6, 7, 8] (fun i lo hi v wr => ∃ (k : Nat) (a b : Nat) (x : Int), 1 ≤ k ∧ k ≤ 3 ∧ i = .int .i64 (k : Int) ∧ lo = .int .u8 (a : Int) ∧ hi = .int .u8 (b : Int) ∧ v = .int .u32 x ∧ Hid (a = loP 128 k) ∧ Hid (b = hiP 159 k) ∧ Hid (∀ j, 1 ≤ j → j < k → inP bs 128 159 j) ∧ wr = w) (fun i _ _ _ _ => 4 - (RowKit.intOf i).toNat)
  case atStart => exact ⟨1, 128, 159, _, by omega, by omega, rfl, rfl, rfl, rfl, Lib.hid rfl, Lib.hid rfl, Lib.hid (fun j h1 h2 => absurd h2 (by omega)), rfl⟩
  case round =>
    obtain ⟨k, a, b, x, hk1, hk2, rfl, rfl, rfl, rfl, ha, hb, hall, rfl⟩ := hrel
    have pn : (0 : Int) ≤ (k : Int) := by omega
    by_cases hlt : k ≤ 2
    · have hlt' : (k : Int) ≤ 2 := by omega
      have hkn : k < n := by omega
      have hknI : (k : Int) < (n : Int) := by omega
      have hcell := hrow.out k hkn
      have hinP : inP bs 128 159 k ↔ (a ≤ (bs.getD k 0).toNat ∧ (bs.getD k 0).toNat ≤ b) := by unfold inP; rw [← ha.out, ← hb.out]
      obtain ⟨d, hd⟩ : ∃ d, d = (bs.getD k 0).toNat := ⟨_, rfl⟩
      rw [← hd] at hcell hinP
      clear hd ha hb
      by_cases c1 : d < a
      · have c1I : (d : Int) < (a : Int) := by omega
        have hX0 := Lib.hid (hno.out (.inr ⟨k, hk1, hlt, fun q => by have := (hinP.1 q).1; omega⟩))
        clear hinP hyes hno hall
        go_wp2_with fail
        exact bodyPost_ret (v := .tuple #[.int .u32 0, .int .i64 0]) (by simp [results, Tryz.results71, go_sem]) rfl ⟨⟨0, by rw [hX0.out]; rfl⟩, rfl⟩
      have c1I : ¬ (d : Int) < (a : Int) := by omega
      by_cases c2 : b < d
      · have c2I : (b : Int) < (d : Int) := by omega
        have hX0 := Lib.hid (hno.out (.inr ⟨k, hk1, hlt, fun q => by have := (hinP.1 q).2; omega⟩))
        clear hinP hyes hno hall
        go_wp2_with fail
        exact bodyPost_ret (v := .tuple #[.int .u32 0, .int .i64 0]) (by simp [results, Tryz.results71, go_sem]) rfl ⟨⟨0, by rw [hX0.out]; rfl⟩, rfl⟩
      have c2I : ¬ (b : Int) < (d : Int) := by omega
      have hin : inP bs 128 159 k := hinP.2 ⟨by omega, by omega⟩
      have hall2 : Hid (∀ j, 1 ≤ j → j < k + 1 → inP bs 128 159 j) := Lib.hid (fun j h1 h2 => by
        rcases (show j < k ∨ j = k by omega) with q | rfl
        · exact hall.out j h1 q
        · exact hin)
      clear hinP hin hall
      go_wp2_with fail
      go_roundw
      case measure => simp [RowKit.intOf] <;> omega
      refine ⟨k + 1, 128, 191, _, by omega, by omega, congrArg (Value.int .i64) (by omega), rfl, rfl, rfl, Lib.hid ?_, Lib.hid ?_, hall2, trivial⟩
      · unfold loP; rw [if_neg (by omega)]
      · unfold hiP; rw [if_neg (by omega)]
    · obtain rfl : k = 3 := by omega
      have hX1 := Lib.hid (hyes.out hm (fun j h1 h2 => hall.out j h1 (by omega)))
      clear hyes hno hall
      go_wp2_with fail
      exact bodyPost_ret (v := .tuple #[.int .u32 x, .int .i64 3]) (by simp [results, Tryz.results71, go_sem]) rfl ⟨⟨x, by rw [hX1.out]; rfl⟩, rfl⟩
set_option maxHeartbeats 4000000 in
theorem point_C4 (bs : List UInt8) (g off cap : Nat) (hn : 0 < bs.length) (c : Nat) (hc : (bs.getD 0 0).toNat = c) (r1 : 238 ≤ c) (r2 : c ≤ 239) (w : World) (hk : RowAt w g off bs) : Calls Tryz.prog 71 #[.slice (some ⟨g, off, none⟩) bs.length cap] w fun e w' => PtR bs e ∧ w' = w := by
  have hcl : ClsP (bs.getD 0 0).toNat 2 128 191 := by
    rw [hc]
    exact .inr (.inl ⟨rfl, by omega, by omega, by unfold lowP; rw [if_neg (by omega), if_neg (by omega)], by unfold highP; rw [if_neg (by omega), if_neg (by omega)]⟩)
  have hyes := pt_yes bs hn 2 128 191 hcl
  have hno := pt_no bs hn 2 128 191 hcl
  have hc0 := row_getD hk 0 hn
  rw [hc, Nat.add_zero] at hc0
  have p0 : ¬ ((c : Nat) : Int) ≤ 127 := by omega
  have p1 : ¬ ((c : Nat) : Int) ≤ 223 := by omega
  have p2 : ((c : Nat) : Int) ≤ 239 := by omega
  have p3 : ((c : Nat) : Int) ≤ 244 := by omega
  have p4 : 194 ≤ ((c : Nat) : Int) := by omega
  have p5 : 224 ≤ ((c : Nat) : Int) := by omega
  have p6 : ¬ 240 ≤ ((c : Nat) : Int) := by omega
  have p7 : ¬ ((c : Nat) : Int) = 224 := by omega
  have p8 : (((c : Nat) : Int) == 224) = false := beq_eq_false_iff_ne.2 p7
  have p9 : ¬ ((c : Nat) : Int) = 237 := by omega
  have p10 : (((c : Nat) : Int) == 237) = false := beq_eq_false_iff_ne.2 p9
  have p11 : ¬ ((c : Nat) : Int) = 240 := by omega
  have p12 : (((c : Nat) : Int) == 240) = false := beq_eq_false_iff_ne.2 p11
  have p13 : ¬ ((c : Nat) : Int) = 244 := by omega
  have p14 : (((c : Nat) : Int) == 244) = false := beq_eq_false_iff_ne.2 p13
  have hrow := Lib.hid (row_getD hk)
  unfold PtR
  obtain ⟨X, hX⟩ : ∃ X, X = pointL bs := ⟨_, rfl⟩
  rw [← hX] at hyes hno ⊢
  obtain ⟨n, hnl⟩ : ∃ n, n = bs.length := ⟨_, rfl⟩
  rw [← hnl] at hyes hno hn hrow ⊢
  clear hX hcl hk hc hnl
  replace hyes := Lib.hid hyes
  replace hno := Lib.hid hno
  have hnI : (0 : Int) < (n : Int) := by omega
  have hnJ : ¬ (n : Int) = 0 := by omega
  have hnK : ((n : Int) == 0) = false := beq_eq_false_iff_ne.2 hnJ
  by_cases hm : 2 < n
  case neg =>
    have hmI : (n : Int) ≤ 2 := by omega
    have hX0 := Lib.hid (hno.out (.inl hm))
    clear hno hyes hrow hm
    go_enter Tryz.func71, Tryz.ntmps71
    go_wp2_with fail
    exact bodyPost_ret (v := .tuple #[.int .u32 0, .int .i64 0]) (by simp [results, Tryz.results71, go_sem]) rfl ⟨⟨0, by rw [hX0.out]; rfl⟩, rfl⟩
  have hmI : ¬ (n : Int) ≤ 2 := by omega
  go_enter Tryz.func71, Tryz.ntmps71
  go_wp2_with fail
  go_loopw [9, 6, 7, 8] (fun i lo hi v wr => ∃ (k : Nat) (a b : Nat) (x : Int), 1 ≤ k ∧ k ≤ 3 ∧ i = .int .i64 (k : Int) ∧ lo = .int .u8 (a : Int) ∧ hi = .int .u8 (b : Int) ∧ v = .int .u32 x ∧ Hid (a = loP 128 k) ∧ Hid (b = hiP 191 k) ∧ Hid (∀ j, 1 ≤ j → j < k → inP bs 128 191 j) ∧ wr = w) (fun i _ _ _ _ => 4 - (RowKit.intOf i).toNat)
  case atStart => exact ⟨1, 128, 191, _, by omega, by omega, rfl, rfl, rfl, rfl, Lib.hid rfl, Lib.hid rfl, Lib.hid (fun j h1 h2 => absurd h2 (by omega)), rfl⟩
  case round =>
    obtain ⟨k, a, b, x, hk1, hk2, rfl, rfl, rfl, rfl, ha, hb, hall, rfl⟩ := hrel
    have pn : (0 : Int) ≤ (k : Int) := by omega
    by_cases hlt : k ≤ 2
    · have hlt' : (k : Int) ≤ 2 := by omega
      have hkn : k < n := by omega
      have hknI : (k : Int) < (n : Int) := by omega
      have hcell := hrow.out k hkn
      have hinP : inP bs 128 191 k ↔ (a ≤ (bs.getD k 0).toNat ∧ (bs.getD k 0).toNat ≤ b) := by unfold inP; rw [← ha.out, ← hb.out]
      obtain ⟨d, hd⟩ : ∃ d, d = (bs.getD k 0).toNat := ⟨_, rfl⟩
      rw [← hd] at hcell hinP
      clear hd ha hb
      by_cases c1 : d < a
      · have c1I : (d : Int) < (a : Int) := by omega
        have hX0 := Lib.hid (hno.out (.inr ⟨k, hk1, hlt, fun q => by have := (hinP.1 q).1; omega⟩))
        clear hinP hyes hno hall
        go_wp2_with fail
        exact bodyPost_ret (v := .tuple #[.int .u32 0, .int .i64 0]) (by simp [results, Tryz.results71, go_sem]) rfl ⟨⟨0, by rw [hX0.out]; rfl⟩, rfl⟩
      have c1I : ¬ (d : Int) < (a : Int) := by omega
      by_cases c2 : b < d
      · have c2I : (b : Int) < (d : Int) := by omega
        have hX0 := Lib.hid (hno.out (.inr ⟨k, hk1, hlt, fun q => by have := (hinP.1 q).2; omega⟩))
        clear hinP hyes hno hall
        go_wp2_with fail
        exact bodyPost_ret (v := .tuple #[.int .u32 0, .int .i64 0]) (by simp [results, Tryz.results71, go_sem]) rfl ⟨⟨0, by rw [hX0.out]; rfl⟩, rfl⟩
      have c2I : ¬ (b : Int) < (d : Int) := by omega
      have hin : inP bs 128 191 k := hinP.2 ⟨by omega, by omega⟩
      have hall2 : Hid (∀ j, 1 ≤ j → j < k + 1 → inP bs 128 191 j) := Lib.hid (fun j h1 h2 => by
        rcases (show j < k ∨ j = k by omega) with q | rfl
        · exact hall.out j h1 q
        · exact hin)
      clear hinP hin hall
      go_wp2_with fail
      go_roundw
      case measure => simp [RowKit.intOf] <;> omega
      refine ⟨k + 1, 128, 191, _, by omega, by omega, congrArg (Value.int .i64) (by omega), rfl, rfl, rfl, Lib.hid ?_, Lib.hid ?_, hall2, trivial⟩
      · unfold loP; rw [if_neg (by omega)]
      · unfold hiP; rw [if_neg (by omega)]
    · obtain rfl : k = 3 := by omega
      have hX1 := Lib.hid (hyes.out hm (fun j h1 h2 => hall.out j h1 (by omega)))
      clear hyes hno hall
      go_wp2_with fail
      exact bodyPost_ret (v := .tuple #[.int .u32 x, .int .i64 3]) (by simp [results, Tryz.results71, go_sem]) rfl ⟨⟨x, by rw [hX1.out]; rfl⟩, rfl⟩
set_option maxHeartbeats 4000000 in
theorem point_D1 (bs : List UInt8) (g off cap : Nat) (hn : 0 < bs.length) (hc : (bs.getD 0 0).toNat = 240) (w : World) (hk : RowAt w g off bs) : Calls Tryz.prog 71 #[.slice (some ⟨g, off, none⟩) bs.length cap] w fun e w' => PtR bs e ∧ w' = w := by
  have hcl : ClsP (bs.getD 0 0).toNat 3 144 191 := by
    rw [hc]
    exact .inr (.inr ⟨rfl, by omega, by omega, rfl, rfl⟩)
  have hyes := pt_yes bs hn 3 144 191 hcl
  have hno := pt_no bs hn 3 144 191 hcl
  have hc0 := row_getD hk 0 hn
  rw [hc, Nat.add_zero] at hc0
  have hrow := Lib.hid (row_getD hk)
  unfold PtR
  obtain ⟨X, hX⟩ : ∃ X, X = pointL bs := ⟨_, rfl⟩
  rw [← hX] at hyes hno ⊢
  obtain ⟨n, hnl⟩ : ∃ n, n = bs.length := ⟨_, rfl⟩
  rw [← hnl] at hyes hno hn hrow ⊢
  clear hX hcl hk hc hnl
  replace hyes := Lib.hid hyes
  replace hno := Lib.hid hno
  have hnI : (0 : Int) < (n : Int) := by omega
  have hnJ : ¬ (n : Int) = 0 := by omega
  have hnK : ((n : Int) == 0) = false := beq_eq_false_iff_ne.2 hnJ
  by_cases hm : 3 < n
  case neg =>
    have hmI : (n : Int) ≤ 3 := by omega
    have hX0 := Lib.hid (hno.out (.inl hm))
    clear hno hyes hrow hm
    go_enter Tryz.func71, Tryz.ntmps71
    go_wp2_with fail
    exact bodyPost_ret (v := .tuple #[.int .u32 0, .int .i64 0]) (by simp [results, Tryz.results71, go_sem]) rfl ⟨⟨0, by rw [hX0.out]; rfl⟩, rfl⟩
  have hmI : ¬ (n : Int) ≤ 3 := by omega
  go_enter Tryz.func71, Tryz.ntmps71
  go_wp2_with fail
  go_loopw [9, 6, 7, 8] (fun i lo hi v wr => ∃ (k : Nat) (a b : Nat) (x : Int), 1 ≤ k ∧ k ≤ 4 ∧ i = .int .i64 (k : Int) ∧ lo = .int .u8 (a : Int) ∧ hi = .int .u8 (b : Int) ∧ v = .int .u32 x ∧ Hid (a = loP 144 k) ∧ Hid (b = hiP 191 k) ∧ Hid (∀ j, 1 ≤ j → j < k → inP bs 144 191 j) ∧ wr = w) (fun i _ _ _ _ => 5 - (RowKit.intOf i).toNat)
  case atStart => exact ⟨1, 144, 191, _, by omega, by omega, rfl, rfl, rfl, rfl, Lib.hid rfl, Lib.hid rfl, Lib.hid (fun j h1 h2 => absurd h2 (by omega)), rfl⟩
  case round =>
    obtain ⟨k, a, b, x, hk1, hk2, rfl, rfl, rfl, rfl, ha, hb, hall, rfl⟩ := hrel
    have pn : (0 : Int) ≤ (k : Int) := by omega
    by_cases hlt : k ≤ 3
    · have hlt' : (k : Int) ≤ 3 := by omega
      have hkn : k < n := by omega
      have hknI : (k : Int) < (n : Int) := by omega
      have hcell := hrow.out k hkn
      have hinP : inP bs 144 191 k ↔ (a ≤ (bs.getD k 0).toNat ∧ (bs.getD k 0).toNat ≤ b) := by unfold inP; rw [← ha.out, ← hb.out]
      obtain ⟨d, hd⟩ : ∃ d, d = (bs.getD k 0).toNat := ⟨_, rfl⟩
      rw [← hd] at hcell hinP
      clear hd ha hb
      by_cases c1 : d < a
      · have c1I : (d : Int) < (a : Int) := by omega
        have hX0 := Lib.hid (hno.out (.inr ⟨k, hk1, hlt, fun q => by have := (hinP.1 q).1; omega⟩))
        clear hinP hyes hno hall
        go_wp2_with fail
        exact bodyPost_ret (v := .tuple #[.int .u32 0, .int .i64 0]) (by simp [results, Tryz.results71, go_sem]) rfl ⟨⟨0, by rw [hX0.out]; rfl⟩, rfl⟩
      have c1I : ¬ (d : Int) < (a : Int) := by omega
      by_cases c2 : b < d
      · have c2I : (b : Int) < (d : Int) := by omega
        have hX0 := Lib.hid (hno.out (.inr ⟨k, hk1, hlt, fun q => by have := (hinP.1 q).2; omega⟩))
        clear hinP hyes hno hall
        go_wp2_with fail
        exact bodyPost_ret (v := .tuple #[.int .u32 0, .int .i64 0]) (by simp [results, Tryz.results71, go_sem]) rfl ⟨⟨0, by rw [hX0.out]; rfl⟩, rfl⟩
      have c2I : ¬ (b : Int) < (d : Int) := by omega
      have hin : inP bs 144 191 k := hinP.2 ⟨by omega, by omega⟩
      have hall2 : Hid (∀ j, 1 ≤ j → j < k + 1 → inP bs 144 191 j) := Lib.hid (fun j h1 h2 => by
        rcases (show j < k ∨ j = k by omega) with q | rfl
        · exact hall.out j h1 q
        · exact hin)
      clear hinP hin hall
      go_wp2_with fail
      go_roundw
      case measure => simp [RowKit.intOf] <;> omega
      refine ⟨k + 1, 128, 191, _, by omega, by omega, congrArg (Value.int .i64) (by omega), rfl, rfl, rfl, Lib.hid ?_, Lib.hid ?_, hall2, trivial⟩
      · unfold loP; rw [if_neg (by omega)]
      · unfold hiP; rw [if_neg (by omega)]
    · obtain rfl : k = 4 := by omega
      have hX1 := Lib.hid (hyes.out hm (fun j h1 h2 => hall.out j h1 (by omega)))
      clear hyes hno hall
      go_wp2_with fail
      exact bodyPost_ret (v := .tuple #[.int .u32 x, .int .i64 4]) (by simp [results, Tryz.results71, go_sem]) rfl ⟨⟨x, by rw [hX1.out]; rfl⟩, rfl⟩
set_option maxHeartbeats 4000000 in
theorem point_D2 (bs : List UInt8) (g off cap : Nat) (hn : 0 < bs.length) (c : Nat) (hc : (bs.getD 0 0).toNat = c) (r1 : 241 ≤ c) (r2 : c ≤ 243) (w : World) (hk : RowAt w g off bs) : Calls Tryz.prog 71 #[.slice (some ⟨g, off, none⟩) bs.length cap] w fun e w' => PtR bs e ∧ w' = w := by
  have hcl : ClsP (bs.getD 0 0).toNat 3 128 191 := by
    rw [hc]
    exact .inr (.inr ⟨rfl, by omega, by omega, by unfold lowP; rw [if_neg (by omega), if_neg (by omega)], by unfold highP; rw [if_neg (by omega), if_neg (by omega)]⟩)
  have hyes := pt_yes bs hn 3 128 191 hcl
  have hno := pt_no bs hn 3 128 191 hcl
  have hc0 := row_getD hk 0 hn
  rw [hc, Nat.add_zero] at hc0
  have p0 : ¬ ((c : Nat) : Int) ≤ 127 := by omega
  have p1 : ¬ ((c : Nat) : Int) ≤ 223 := by omega
  have p2 : ¬ ((c : Nat) : Int) ≤ 239 := by omega
  have p3 : ((c : Nat) : Int) ≤ 244 := by omega
  have p4 : 194 ≤ ((c : Nat) : Int) := by omega
  have p5 : 224 ≤ ((c : Nat) : Int) := by omega
  have p6 : 240 ≤ ((c : Nat) : Int) := by omega
  have p7 : ¬ ((c : Nat) : Int) = 224 := by omega
  have p8 : (((c : Nat) : Int) == 224) = false := beq_eq_false_iff_ne.2 p7
  have p9 : ¬ ((c : Nat) : Int) = 237 := by omega
  have p10 : (((c : Nat) : Int) == 237) = false := beq_eq_false_iff_ne.2 p9
  have p11 : ¬ ((c : Nat) : Int) = 240 := by omega
  have p12 : (((c : Nat) : Int) == 240) = false := beq_eq_false_iff_ne.2 p11
  have p13 : ¬ ((c : Nat) : Int) = 244 := by omega
  have p14 : (((c : Nat) : Int) == 244) = false := beq_eq_false_iff_ne.2 p13
  have hrow := Lib.hid (row_getD hk)
  unfold PtR
  obtain ⟨X, hX⟩ : ∃ X, X = pointL bs := ⟨_, rfl⟩
  rw [← hX] at hyes hno ⊢
  obtain ⟨n, hnl⟩ : ∃ n, n = bs.length := ⟨_, rfl⟩
  rw [← hnl] at hyes hno hn hrow ⊢
  clear hX hcl hk hc hnl
  replace hyes := Lib.hid hyes
  replace hno := Lib.hid hno
  have hnI : (0 : Int) < (n : Int) := by omega
  have hnJ : ¬ (n : Int) = 0 := by omega
  have hnK : ((n : Int) == 0) = false := beq_eq_false_iff_ne.2 hnJ
  by_cases hm : 3 < n
  case neg =>
    have hmI : (n : Int) ≤ 3 := by omega
    have hX0 := Lib.hid (hno.out (.inl hm))
    clear hno hyes hrow hm
    go_enter Tryz.func71, Tryz.ntmps71
    go_wp2_with fail
    exact bodyPost_ret (v := .tuple #[.int .u32 0, .int .i64 0]) (by simp [results, Tryz.results71, go_sem]) rfl ⟨⟨0, by rw [hX0.out]; rfl⟩, rfl⟩
  have hmI : ¬ (n : Int) ≤ 3 := by omega
  go_enter Tryz.func71, Tryz.ntmps71
  go_wp2_with fail
  go_loopw [9, 6, 7, 8] (fun i lo hi v wr => ∃ (k : Nat) (a b : Nat) (x : Int), 1 ≤ k ∧ k ≤ 4 ∧ i = .int .i64 (k : Int) ∧ lo = .int .u8 (a : Int) ∧ hi = .int .u8 (b : Int) ∧ v = .int .u32 x ∧ Hid (a = loP 128 k) ∧ Hid (b = hiP 191 k) ∧ Hid (∀ j, 1 ≤ j → j < k → inP bs 128 191 j) ∧ wr = w) (fun i _ _ _ _ => 5 - (RowKit.intOf i).toNat)
  case atStart => exact ⟨1, 128, 191, _, by omega, by omega, rfl, rfl, rfl, rfl, Lib.hid rfl, Lib.hid rfl, Lib.hid (fun j h1 h2 => absurd h2 (by omega)), rfl⟩
  case round =>
    obtain ⟨k, a, b, x, hk1, hk2, rfl, rfl, rfl, rfl, ha, hb, hall, rfl⟩ := hrel
    have pn : (0 : Int) ≤ (k : Int) := by omega
    by_cases hlt : k ≤ 3
    · have hlt' : (k : Int) ≤ 3 := by omega
      have hkn : k < n := by omega
      have hknI : (k : Int) < (n : Int) := by omega
      have hcell := hrow.out k hkn
      have hinP : inP bs 128 191 k ↔ (a ≤ (bs.getD k 0).toNat ∧ (bs.getD k 0).toNat ≤ b) := by unfold inP; rw [← ha.out, ← hb.out]
      obtain ⟨d, hd⟩ : ∃ d, d = (bs.getD k 0).toNat := ⟨_, rfl⟩
      rw [← hd] at hcell hinP
      clear hd ha hb
      by_cases c1 : d < a
      · have c1I : (d : Int) < (a : Int) := by omega
        have hX0 := Lib.hid (hno.out (.inr ⟨k, hk1, hlt, fun q => by have := (hinP.1 q).1; omega⟩))
        clear hinP hyes hno hall
        go_wp2_with fail
        exact bodyPost_ret (v := .tuple #[.int .u32 0, .int .i64 0]) (by simp [results, Tryz.results71, go_sem]) rfl ⟨⟨0, by rw [hX0.out]; rfl⟩, rfl⟩
      have c1I : ¬ (d : Int) < (a : Int) := by omega
      by_cases c2 : b < d
      · have c2I : (b : Int) < (d : Int) := by omega
        have hX0 := Lib.hid (hno.out (.inr ⟨k, hk1, hlt, fun q => by have := (hinP.1 q).2; omega⟩))
        clear hinP hyes hno hall
        go_wp2_with fail
        exact bodyPost_ret (v := .tuple #[.int .u32 0, .int .i64 0]) (by simp [results, Tryz.results71, go_sem]) rfl ⟨⟨0, by rw [hX0.out]; rfl⟩, rfl⟩
      have c2I : ¬ (b : Int) < (d : Int) := by omega
      have hin : inP bs 128 191 k := hinP.2 ⟨by omega, by omega⟩
      have hall2 : Hid (∀ j, 1 ≤ j → j < k + 1 → inP bs 128 191 j) := Lib.hid (fun j h1 h2 => by
        rcases (show j < k ∨ j = k by omega) with q | rfl
        · exact hall.out j h1 q
        · exact hin)
      clear hinP hin hall
      go_wp2_with fail
      go_roundw
      case measure => simp [RowKit.intOf] <;> omega
      refine ⟨k + 1, 128, 191, _, by omega, by omega, congrArg (Value.int .i64) (by omega), rfl, rfl, rfl, Lib.hid ?_, Lib.hid ?_, hall2, trivial⟩
      · unfold loP; rw [if_neg (by omega)]
      · unfold hiP; rw [if_neg (by omega)]
    · obtain rfl : k = 4 := by omega
      have hX1 := Lib.hid (hyes.out hm (fun j h1 h2 => hall.out j h1 (by omega)))
      clear hyes hno hall
      go_wp2_with fail
      exact bodyPost_ret (v := .tuple #[.int .u32 x, .int .i64 4]) (by simp [results, Tryz.results71, go_sem]) rfl ⟨⟨x, by rw [hX1.out]; rfl⟩, rfl⟩
set_option maxHeartbeats 4000000 in
theorem point_D3 (bs : List UInt8) (g off cap : Nat) (hn : 0 < bs.length) (hc : (bs.getD 0 0).toNat = 244) (w : World) (hk : RowAt w g off bs) : Calls Tryz.prog 71 #[.slice (some ⟨g, off, none⟩) bs.length cap] w fun e w' => PtR bs e ∧ w' = w := by
  have hcl : ClsP (bs.getD 0 0).toNat 3 128 143 := by
    rw [hc]
    exact .inr (.inr ⟨rfl, by omega, by omega, rfl, rfl⟩)
  have hyes := pt_yes bs hn 3 128 143 hcl
  have hno := pt_no bs hn 3 128 143 hcl
  have hc0 := row_getD hk 0 hn
  rw [hc, Nat.add_zero] at hc0
  have hrow := Lib.hid (row_getD hk)
  unfold PtR
  obtain ⟨X, hX⟩ : ∃ X, X = pointL bs := ⟨_, rfl⟩
  rw [← hX] at hyes hno ⊢
  obtain ⟨n, hnl⟩ : ∃ n, n = bs.length := ⟨_, rfl⟩
  rw [← hnl] at hyes hno hn hrow ⊢
  clear hX hcl hk hc hnl
  replace hyes := Lib.hid hyes
  replace hno := Lib.hid hno
  have hnI : (0 : Int) < (n : Int) := by omega
  have hnJ : ¬ (n : Int) = 0 := by omega
  have hnK : ((n : Int) == 0) = false := beq_eq_false_iff_ne.2 hnJ
  by_cases hm : 3 < n
  case neg =>
    have hmI : (n : Int) ≤ 3 := by omega
    have hX0 := Lib.hid (hno.out (.inl hm))
    clear hno hyes hrow hm
    go_enter Tryz.func71, Tryz.ntmps71
    go_wp2_with fail
    exact bodyPost_ret (v := .tuple #[.int .u32 0, .int .i64 0]) (by simp [results, Tryz.results71, go_sem]) rfl ⟨⟨0, by rw [hX0.out]; rfl⟩, rfl⟩
  have hmI : ¬ (n : Int) ≤ 3 := by omega
  go_enter Tryz.func71, Tryz.ntmps71
  go_wp2_with fail
  go_loopw [9, 6, 7, 8] (fun i lo hi v wr => ∃ (k : Nat) (a b : Nat) (x : Int), 1 ≤ k ∧ k ≤ 4 ∧ i = .int .i64 (k : Int) ∧ lo = .int .u8 (a : Int) ∧ hi = .int .u8 (b : Int) ∧ v = .int .u32 x ∧ Hid (a = loP 128 k) ∧ Hid (b = hiP 143 k) ∧ Hid (∀ j, 1 ≤ j → j < k → inP bs 128 143 j) ∧ wr = w) (fun i _ _ _ _ => 5 - (RowKit.intOf i).toNat)
  case atStart => exact ⟨1, 128, 143, _, by omega, by omega, rfl, rfl, rfl, rfl, Lib.hid rfl, Lib.hid rfl, Lib.hid (fun j h1 h2 => absurd h2 (by omega)), rfl⟩
  case round =>
    obtain ⟨k, a, b, x, hk1, hk2, rfl, rfl, rfl, rfl, ha, hb, hall, rfl⟩ := hrel
    have pn : (0 : Int) ≤ (k : Int) := by omega
    by_cases hlt : k ≤ 3
    · have hlt' : (k : Int) ≤ 3 := by omega
      have hkn : k < n := by omega
      have hknI : (k : Int) < (n : Int) := by omega
      have hcell := hrow.out k hkn
      have hinP : inP bs 128 143 k ↔ (a ≤ (bs.getD k 0).toNat ∧ (bs.getD k 0).toNat ≤ b) := by unfold inP; rw [← ha.out, ← hb.out]
      obtain ⟨d, hd⟩ : ∃ d, d = (bs.getD k 0).toNat := ⟨_, rfl⟩
      rw [← hd] at hcell hinP
      clear hd ha hb
      by_cases c1 : d < a
      · have c1I : (d : Int) < (a : Int) := by omega
        have hX0 := Lib.hid (hno.out (.inr ⟨k, hk1, hlt, fun q => by have := (hinP.1 q).1; omega⟩))
        clear hinP hyes hno hall
        go_wp2_with fail
        exact bodyPost_ret (v := .tuple #[.int .u32 0, .int .i64 0]) (by simp [results, Tryz.results71, go_sem]) rfl ⟨⟨0, by rw [hX0.out]; rfl⟩, rfl⟩
      have c1I : ¬ (d : Int) < (a : Int) := by omega
      by_cases c2 : b < d
      · have c2I : (b : Int) < (d : Int) := by omega
        have hX0 := Lib.hid (hno.out (.inr ⟨k, hk1, hlt, fun q => by have := (hinP.1 q).2; omega⟩))
        clear hinP hyes hno hall
        go_wp2_with fail
        exact bodyPost_ret (v := .tuple #[.int .u32 0, .int .i64 0]) (by simp [results, Tryz.results71, go_sem]) rfl ⟨⟨0, by rw [hX0.out]; rfl⟩, rfl⟩
      have c2I : ¬ (b : Int) < (d : Int) := by omega
      have hin : inP bs 128 143 k := hinP.2 ⟨by omega, by omega⟩
      have hall2 : Hid (∀ j, 1 ≤ j → j < k + 1 → inP bs 128 143 j) := Lib.hid (fun j h1 h2 => by
        rcases (show j < k ∨ j = k by omega) with q | rfl
        · exact hall.out j h1 q
        · exact hin)
      clear hinP hin hall
      go_wp2_with fail
      go_roundw
      case measure => simp [RowKit.intOf] <;> omega
      refine ⟨k + 1, 128, 191, _, by omega, by omega, congrArg (Value.int .i64) (by omega), rfl, rfl, rfl, Lib.hid ?_, Lib.hid ?_, hall2, trivial⟩
      · unfold loP; rw [if_neg (by omega)]
      · unfold hiP; rw [if_neg (by omega)]
    · obtain rfl : k = 4 := by omega
      have hX1 := Lib.hid (hyes.out hm (fun j h1 h2 => hall.out j h1 (by omega)))
      clear hyes hno hall
      go_wp2_with fail
      exact bodyPost_ret (v := .tuple #[.int .u32 x, .int .i64 4]) (by simp [results, Tryz.results71, go_sem]) rfl ⟨⟨x, by rw [hX1.out]; rfl⟩, rfl⟩
theorem point_A (bs : List UInt8) (g off cap : Nat) (hn : 0 < bs.length) (c : Nat) (hc : (bs.getD 0 0).toNat = c) (r1 : c ≤ 127) (w : World) (hk : RowAt w g off bs) : Calls Tryz.prog 71 #[.slice (some ⟨g, off, none⟩) bs.length cap] w fun e w' => PtR bs e ∧ w' = w := by
  have hX1 : pointL bs = 1 := by
    unfold pointL
    rw [if_neg (List.length_pos_iff.1 hn)]
    unfold pointN
    rw [hc, if_pos r1]
  have hc0 := row_getD hk 0 hn
  rw [hc, Nat.add_zero] at hc0
  have p0 : ((c : Nat) : Int) ≤ 127 := by omega
  unfold PtR
  rw [hX1]
  generalize bs.length = n at hn ⊢
  have hnI : (0 : Int) < (n : Int) := by omega
  have hnJ : ¬ (n : Int) = 0 := by omega
  have hnK : ((n : Int) == 0) = false := beq_eq_false_iff_ne.2 hnJ
  clear hX1 hk hc
  go_enter Tryz.func71, Tryz.ntmps71
  go_wp2_with fail
  exact bodyPost_ret (v := .tuple #[.int .u32 _, .int .i64 1]) (by simp [results, Tryz.results71, go_sem]; rfl) rfl ⟨⟨_, rfl⟩, rfl⟩
theorem point_E (bs : List UInt8) (g off cap : Nat) (hn : 0 < bs.length) (c : Nat) (hc : (bs.getD 0 0).toNat = c) (r1 : (128 ≤ c ∧ c ≤ 193) ∨ (245 ≤ c ∧ c ≤ 255)) (w : World) (hk : RowAt w g off bs) : Calls Tryz.prog 71 #[.slice (some ⟨g, off, none⟩) bs.length cap] w fun e w' => PtR bs e ∧ w' = w := by
  have hX1 : pointL bs = 0 := by
    unfold pointL
    rw [if_neg (List.length_pos_iff.1 hn)]
    unfold pointN
    rw [hc, if_neg (by omega), if_neg (by omega), if_neg (by omega), if_neg (by omega)]
  have hc0 := row_getD hk 0 hn
  rw [hc, Nat.add_zero] at hc0
  unfold PtR
  rw [hX1]
  generalize bs.length = n at hn ⊢
  have hnI : (0 : Int) < (n : Int) := by omega
  have hnJ : ¬ (n : Int) = 0 := by omega
  have hnK : ((n : Int) == 0) = false := beq_eq_false_iff_ne.2 hnJ
  have p0 : ¬ ((c : Nat) : Int) ≤ 127 := by omega
  have p1 : ¬ ((c : Nat) : Int) = 224 := by omega
  have p2 : (((c : Nat) : Int) == 224) = false := beq_eq_false_iff_ne.2 p1
  have p3 : ¬ ((c : Nat) : Int) = 237 := by omega
  have p4 : (((c : Nat) : Int) == 237) = false := beq_eq_false_iff_ne.2 p3
  have p5 : ¬ ((c : Nat) : Int) = 240 := by omega
  have p6 : (((c : Nat) : Int) == 240) = false := beq_eq_false_iff_ne.2 p5
  have p7 : ¬ ((c : Nat) : Int) = 244 := by omega
  have p8 : (((c : Nat) : Int) == 244) = false := beq_eq_false_iff_ne.2 p7
  clear hX1 hk hc
  rcases r1 with r1 | r1
  · have q1 : ¬ 194 ≤ ((c : Nat) : Int) := by omega
    have q2 : ¬ 224 ≤ ((c : Nat) : Int) := by omega
    have q3 : ¬ 240 ≤ ((c : Nat) : Int) := by omega
    go_enter Tryz.func71, Tryz.ntmps71
    go_wp2_with fail
    exact bodyPost_ret (v := .tuple #[.int .u32 0, .int .i64 0]) (by simp [results, Tryz.results71, go_sem]) rfl ⟨⟨_, rfl⟩, rfl⟩
  · have q1 : ¬ ((c : Nat) : Int) ≤ 223 := by omega
    have q2 : ¬ ((c : Nat) : Int) ≤ 239 := by omega
    have q3 : ¬ ((c : Nat) : Int) ≤ 244 := by omega
    have q4 : 194 ≤ ((c : Nat) : Int) := by omega
    have q5 : 224 ≤ ((c : Nat) : Int) := by omega
    have q6 : 240 ≤ ((c : Nat) : Int) := by omega
    go_enter Tryz.func71, Tryz.ntmps71
    go_wp2_with fail
    exact bodyPost_ret (v := .tuple #[.int .u32 0, .int .i64 0]) (by simp [results, Tryz.results71, go_sem]) rfl ⟨⟨_, rfl⟩, rfl⟩
theorem Point_c (bs : List UInt8) (g off cap : Nat) (hn : 0 < bs.length) (w : World) (hk : RowAt w g off bs) : Calls Tryz.prog 71 #[.slice (some ⟨g, off, none⟩) bs.length cap] w fun e w' => PtR bs e ∧ w' = w := by
  obtain ⟨c, hc⟩ : ∃ c, (bs.getD 0 0).toNat = c := ⟨_, rfl⟩
  have hc2 : c < 256 := by rw [← hc]; exact UInt8.toNat_lt _
  by_cases a1 : c ≤ 127
  · exact point_A bs g off cap hn c hc a1 w hk
  by_cases a2 : c ≤ 193
  · exact point_E bs g off cap hn c hc (by omega) w hk
  by_cases a3 : 245 ≤ c
  · exact point_E bs g off cap hn c hc (by omega) w hk
  by_cases bC1 : c = 224
  · exact point_C1 bs g off cap hn (hc.trans bC1) w hk
  by_cases bC3 : c = 237
  · exact point_C3 bs g off cap hn (hc.trans bC3) w hk
  by_cases bD1 : c = 240
  · exact point_D1 bs g off cap hn (hc.trans bD1) w hk
  by_cases bD3 : c = 244
  · exact point_D3 bs g off cap hn (hc.trans bD3) w hk
  by_cases bB : c ≤ 223
  · exact point_B bs g off cap hn c hc (by omega) bB w hk
  by_cases bC2 : c ≤ 236
  · exact point_C2 bs g off cap hn c hc (by omega) bC2 w hk
  by_cases bC4 : c ≤ 239
  · exact point_C4 bs g off cap hn c hc (by omega) bC4 w hk
  exact point_D2 bs g off cap hn c hc (by omega) (by omega) w hk
end Go.Proofs.YtjigckibbjfkmaaGreatDoor

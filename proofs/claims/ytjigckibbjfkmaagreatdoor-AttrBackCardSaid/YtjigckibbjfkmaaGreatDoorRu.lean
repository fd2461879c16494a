/- Reference 33: Escape, Unescape, Unproved, part, digits. -/
import Derived.Test.YtjigckibbjfkmaaGreatDoorMe
import Derived.Test.YtjigckibbjfkmaaGreatDoorMf
import Derived.Test.YtjigckibbjfkmaaGreatDoorSp7
namespace Go.Proofs.YtjigckibbjfkmaaGreatDoor
open Go.RowKit
set_option maxRecDepth 100000
set_option linter.unusedSimpArgs false
set_option linter.unusedVariables false
theorem u8_q (b c : UInt8) (h : b = c) : ((b.toNat : Int) == (c.toNat : Int)) = true ∧ (b.toNat : Int) = (c.toNat : Int) := by subst h; exact ⟨by simp, rfl⟩
theorem u8_nq (b c : UInt8) (h : ¬ b = c) : ((b.toNat : Int) == (c.toNat : Int)) = false ∧ ¬ (b.toNat : Int) = (c.toNat : Int) := by
  have h2 : ¬ (b.toNat : Int) = (c.toNat : Int) := by intro q; exact h (UInt8.toNat_inj.1 (by omega))
  exact ⟨beq_eq_false_iff_ne.2 h2, h2⟩
theorem esc_snoc (l : List UInt8) (b : UInt8) : escL (l ++ [b]) = escL l ++ escB b := by simp [escL]
theorem bs_app (p q : List UInt8) : (⟨p.toArray⟩ : ByteArray) ++ ⟨q.toArray⟩ = ⟨(p ++ q).toArray⟩ := by apply bs_ext; simp
set_option maxHeartbeats 2000000 in
theorem rEsc_c (s : ByteArray) (hs : s.size ≤ 10000) (w : World) : Calls Tryz.prog 16 #[.string s] w fun e w' => e = .returned (.string ⟨(escL s.data.toList).toArray⟩) ∧ Below w.heap.size w w' := by
  have hl : s.data.toList.length = s.size := Array.length_toList
  replace hl := Lib.hid hl
  obtain ⟨X, hX⟩ : ∃ X, X = escL s.data.toList := ⟨_, rfl⟩
  rw [← hX]
  replace hX := Lib.hid hX
  go_enter Tryz.func16, Tryz.ntmps16
  go_wp2_with fail
  go_loopw [4, 3] (fun i v wr => ∃ (k : Nat) (p : List UInt8), k ≤ s.size ∧ i = .int .i64 (k : Int) ∧ v = .string ⟨p.toArray⟩ ∧ Hid (p = escL (s.data.toList.take k)) ∧ p.length ≤ 3 * k ∧ Below w.heap.size w wr) (fun i _ _ => s.size - (RowKit.intOf i).toNat)
  case atStart => exact ⟨0, [], by omega, rfl, rfl, Lib.hid rfl, by decide, Below.refl _ _⟩
  case round =>
    obtain ⟨k, p, hk, rfl, rfl, hp, hpl, HB⟩ := hrel
    have pn : (0 : Int) ≤ (k : Int) := by omega
    by_cases hlt : k < s.size
    · have hlt' : (k : Int) < (s.size : Int) := by omega
      have hts : s.data.toList.take (k + 1) = s.data.toList.take k ++ [s[k]] := take_snoc s.data.toList k (by rw [hl.out]; exact hlt)
      have hst : escL (s.data.toList.take (k + 1)) = p ++ escB s[k] := by rw [hts, esc_snoc, hp.out]
      clear hts
      by_cases h1 : s[k] = 44
      · obtain ⟨q1, q2⟩ := u8_q _ _ h1
        rw [show ((44 : UInt8).toNat : Int) = 44 from rfl] at q1 q2
        have ha := fun W => run_catA ⟨p.toArray⟩ ⟨#[61, 50, 67]⟩ ⟨(p ++ [61, 50, 67]).toArray⟩ (by rw [← bs_app]) (by rw [bsz]; have : (⟨#[61, 50, 67]⟩ : ByteArray).size = 3 := rfl; omega) W
        have hst2 : escL (s.data.toList.take (k + 1)) = p ++ [61, 50, 67] := by rw [hst, h1]; rfl
        replace hst2 := Lib.hid hst2
        clear hst h1 hp
        go_wp2_with fail
        go_roundw
        case measure => simp [RowKit.intOf] <;> omega
        exact ⟨k + 1, p ++ [61, 50, 67], by omega, congrArg (Value.int .i64) (by omega), rfl, Lib.hid hst2.out.symm, by simp; omega, by (repeat (first | exact Below.refl _ _ | (refine bl_alloc ?_ _) | (refine bl_drewN ?_ _) | (refine bl_drew ?_) | (refine bl_call (by assumption) ?_) | (refine bl_set _ _ (by simp <;> omega) ?_) | assumption))⟩
      obtain ⟨q1, q2⟩ := u8_nq _ _ h1
      rw [show ((44 : UInt8).toNat : Int) = 44 from rfl] at q1 q2
      by_cases h2 : s[k] = 61
      · obtain ⟨q3, q4⟩ := u8_q _ _ h2
        rw [show ((61 : UInt8).toNat : Int) = 61 from rfl] at q3 q4
        have ha := fun W => run_catA ⟨p.toArray⟩ ⟨#[61, 51, 68]⟩ ⟨(p ++ [61, 51, 68]).toArray⟩ (by rw [← bs_app]) (by rw [bsz]; have : (⟨#[61, 51, 68]⟩ : ByteArray).size = 3 := rfl; omega) W
        have hst2 : escL (s.data.toList.take (k + 1)) = p ++ [61, 51, 68] := by rw [hst, h2]; rfl
        replace hst2 := Lib.hid hst2
        replace q1 := Lib.hid q1
        replace q2 := Lib.hid q2
        clear hst h1 h2 hp
        have q5 := q1.out
        have q6 := q2.out
        clear q1 q2
        go_wp2_with fail
        go_roundw
        case measure => simp [RowKit.intOf] <;> omega
        exact ⟨k + 1, p ++ [61, 51, 68], by omega, congrArg (Value.int .i64) (by omega), rfl, Lib.hid hst2.out.symm, by simp; omega, by (repeat (first | exact Below.refl _ _ | (refine bl_alloc ?_ _) | (refine bl_drewN ?_ _) | (refine bl_drew ?_) | (refine bl_call (by assumption) ?_) | (refine bl_set _ _ (by simp <;> omega) ?_) | assumption))⟩
      obtain ⟨q3, q4⟩ := u8_nq _ _ h2
      rw [show ((61 : UInt8).toNat : Int) = 61 from rfl] at q3 q4
      have hst2 : escL (s.data.toList.take (k + 1)) = p ++ [s[k]] := by
        rw [hst]; unfold escB; rw [if_neg h1, if_neg h2]
      replace hst2 := Lib.hid hst2
      have hsl := fun W => run_one s k hlt W
      clear hst h1 h2 hp
      have ha := fun W => run_catA ⟨p.toArray⟩ ⟨#[s[k]]⟩ ⟨(p ++ [s[k]]).toArray⟩ (by rw [← bs_app]) (by rw [bsz]; have : (⟨#[s[k]]⟩ : ByteArray).size = 1 := rfl; omega) W
      go_wp2_with fail
      go_roundw
      case measure => simp [RowKit.intOf] <;> omega
      exact ⟨k + 1, p ++ [s[k]], by omega, congrArg (Value.int .i64) (by omega), rfl, Lib.hid hst2.out.symm, by simp; omega, by (repeat (first | exact Below.refl _ _ | (refine bl_alloc ?_ _) | (refine bl_drewN ?_ _) | (refine bl_drew ?_) | (refine bl_call (by assumption) ?_) | (refine bl_set _ _ (by simp <;> omega) ?_) | assumption))⟩
    · obtain rfl : k = s.size := by omega
      have hlt' : ¬ (s.size : Int) < (s.size : Int) := by omega
      have hpX : Hid (p = X) := Lib.hid (by rw [hp.out, hX.out, List.take_of_length_le (by rw [hl.out]; exact Nat.le_refl _)])
      go_wp2_with fail
      exact bodyPost_ret (v := .string ⟨p.toArray⟩) (by simp [results, Tryz.results16, go_sem]) rfl ⟨by rw [hpX.out], by (repeat (first | exact Below.refl _ _ | (refine bl_alloc ?_ _) | (refine bl_drewN ?_ _) | (refine bl_drew ?_) | (refine bl_call (by assumption) ?_) | (refine bl_set _ _ (by simp <;> omega) ?_) | assumption))⟩
set_option maxHeartbeats 4000000 in
theorem rUnesc_c (s : ByteArray) (hs : s.size ≤ 10000) (w : World) : Calls Tryz.prog 17 #[.string s] w fun e w' => e = .returned (unV (unescR s.data.toList)) ∧ Below w.heap.size w w' := by
  have hl : s.data.toList.length = s.size := Array.length_toList
  replace hl := Lib.hid hl
  obtain ⟨X, hX⟩ : ∃ X, X = unescR s.data.toList := ⟨_, rfl⟩
  rw [← hX]
  have hX0 : Hid (X = (unescR (s.data.toList.drop 0)).map ([] ++ ·)) := Lib.hid (by
    rw [hX, List.drop_zero]; cases unescR s.data.toList <;> rfl)
  clear hX
  go_enter Tryz.func17, Tryz.ntmps17
  go_wp2_with fail
  go_loopw [5, 4] (fun i v wr => ∃ (k : Nat) (p : List UInt8), k ≤ s.size ∧ i = .int .i64 (k : Int) ∧ v = .string ⟨p.toArray⟩ ∧ Hid (X = (unescR (s.data.toList.drop k)).map (p ++ ·)) ∧ p.length ≤ k ∧ Below w.heap.size w wr) (fun i _ _ => s.size - (RowKit.intOf i).toNat)
  case atStart => exact ⟨0, [], by omega, rfl, rfl, hX0, by decide, Below.refl _ _⟩
  case round =>
    clear hX0
    obtain ⟨k, p, hk, rfl, rfl, hp, hpl, HB⟩ := hrel
    have pn : (0 : Int) ≤ (k : Int) := by omega
    by_cases hlt : k < s.size
    · have hlt' : (k : Int) < (s.size : Int) := by omega
      have hd : s.data.toList.drop k = s[k] :: s.data.toList.drop (k + 1) := by
        rw [List.drop_eq_getElem_cons (by rw [hl.out]; exact hlt)]; rfl
      have hXk := hp.out
      rw [hd] at hXk
      clear hp hd
      by_cases h1 : s[k] = 44
      · obtain ⟨q1, q2⟩ := u8_q _ _ h1
        rw [show ((44 : UInt8).toNat : Int) = 44 from rfl] at q1 q2
        rw [h1, unesc_comma] at hXk
        replace hXk := Lib.hid (show X = none from hXk)
        clear h1
        go_wp2_with fail
        exact bodyPost_ret (v := unV none) (by simp [results, Tryz.results17, go_sem, unV]) rfl ⟨by rw [hXk.out], by (repeat (first | exact Below.refl _ _ | (refine bl_alloc ?_ _) | (refine bl_drewN ?_ _) | (refine bl_drew ?_) | (refine bl_call (by assumption) ?_) | (refine bl_set _ _ (by simp <;> omega) ?_) | assumption))⟩
      obtain ⟨q1, q2⟩ := u8_nq _ _ h1
      rw [show ((44 : UInt8).toNat : Int) = 44 from rfl] at q1 q2
      by_cases h2 : s[k] = 61
      case neg =>
        obtain ⟨q3, q4⟩ := u8_nq _ _ h2
        rw [show ((61 : UInt8).toNat : Int) = 61 from rfl] at q3 q4
        have q5 : (((s[k].toNat : Nat) : Int) != 61) = true := by rw [bne, q3]; rfl
        rw [unesc_plain _ _ h1 h2, show (fun x => s[k] :: x) = ([s[k]] ++ ·) from rfl, map_acc] at hXk
        replace hXk := Lib.hid hXk
        have hsl := fun W => run_one s k hlt W
        clear h1 h2
        have ha := fun W => run_catA ⟨p.toArray⟩ ⟨#[s[k]]⟩ ⟨(p ++ [s[k]]).toArray⟩ (by rw [← bs_app]) (by rw [bsz]; have : (⟨#[s[k]]⟩ : ByteArray).size = 1 := rfl; omega) W
        go_wp2_with fail
        go_roundw
        case measure => simp [RowKit.intOf] <;> omega
        exact ⟨k + 1, p ++ [s[k]], by omega, congrArg (Value.int .i64) (by omega), rfl, hXk, by simp; omega, by (repeat (first | exact Below.refl _ _ | (refine bl_alloc ?_ _) | (refine bl_drewN ?_ _) | (refine bl_drew ?_) | (refine bl_call (by assumption) ?_) | (refine bl_set _ _ (by simp <;> omega) ?_) | assumption))⟩
      obtain ⟨q3, q4⟩ := u8_q _ _ h2
      rw [show ((61 : UInt8).toNat : Int) = 61 from rfl] at q3 q4
      have q5 : (((s[k].toNat : Nat) : Int) != 61) = false := by rw [bne, q3]; rfl
      rw [h2, unesc_eq] at hXk
      clear h1 h2
      by_cases h3 : k + 3 ≤ s.size
      case neg =>
        have h3I : (s.size : Int) < (k : Int) + 3 := by omega
        have hsh : three (s.data.toList.drop (k + 1)) = none := by
          have : (s.data.toList.drop (k + 1)).length ≤ 1 := by rw [List.length_drop, hl.out]; omega
          match s.data.toList.drop (k + 1), this with
          | [], _ => rfl
          | [a], _ => simp [three]
        rw [hsh] at hXk
        replace hXk := Lib.hid (show X = none from hXk)
        clear hsh
        go_wp2_with fail
        exact bodyPost_ret (v := unV none) (by simp [results, Tryz.results17, go_sem, unV]) rfl ⟨by rw [hXk.out], by (repeat (first | exact Below.refl _ _ | (refine bl_alloc ?_ _) | (refine bl_drewN ?_ _) | (refine bl_drew ?_) | (refine bl_call (by assumption) ?_) | (refine bl_set _ _ (by simp <;> omega) ?_) | assumption))⟩
      have h3I : ¬ (s.size : Int) < (k : Int) + 3 := by omega
      have h3J : (k : Int) + 3 ≤ (s.size : Int) := by omega
      obtain ⟨a, b, t, hr⟩ : ∃ a b t, s.data.toList.drop (k + 1) = a :: b :: t := by
        have : 2 ≤ (s.data.toList.drop (k + 1)).length := by rw [List.length_drop, hl.out]; omega
        match s.data.toList.drop (k + 1), this with
        | a :: b :: t, _ => exact ⟨a, b, t, rfl⟩
      have ht : t = s.data.toList.drop (k + 3) := by
        have : s.data.toList.drop (k + 3) = (s.data.toList.drop (k + 1)).drop 2 := by rw [List.drop_drop]
        rw [this, hr]; rfl
      have hex : s.extract (k + 1) (k + 3) = ⟨#[a, b]⟩ := by
        rw [Lib.extract_eq, show k + 3 - (k + 1) = 2 by omega, hr]; rfl
      have hsl : ∀ W, (Instr.slice 9 (.string s) (some (.int .i64 ((k : Int) + 1))) (some (.int .i64 ((k : Int) + 3))) none).run Tryz.prog W = .ok (.string ⟨#[a, b]⟩) W := by
        intro W
        have := run_slice_string (P := Tryz.prog) W 9 s .i64 .i64 ((k : Int) + 1) ((k : Int) + 3) Tryz.underlying9 (by omega) (by omega) (by omega)
        rw [this, show ((k : Int) + 1).toNat = k + 1 by omega, show ((k : Int) + 3).toNat = k + 3 by omega, hex]
      rw [hr] at hXk
      clear hr hex
      by_cases c1 : a = 50 ∧ b = 67
      · obtain ⟨rfl, rfl⟩ := c1
        have hX2 : X = (unescR (s.data.toList.drop (k + 3))).map ((p ++ [44]) ++ ·) := by
          rw [hXk, ← ht, ← map_acc]; rfl
        replace hX2 := Lib.hid hX2
        have ha := fun W => run_catA ⟨p.toArray⟩ ⟨#[44]⟩ ⟨(p ++ [44]).toArray⟩ (by rw [← bs_app]) (by rw [bsz]; have : (⟨#[44]⟩ : ByteArray).size = 1 := rfl; omega) W
        clear hXk ht
        go_wp2_with fail
        go_roundw
        case measure => simp [RowKit.intOf] <;> omega
        exact ⟨k + 3, p ++ [44], by omega, congrArg (Value.int .i64) (by omega), rfl, hX2, by simp; omega, by (repeat (first | exact Below.refl _ _ | (refine bl_alloc ?_ _) | (refine bl_drewN ?_ _) | (refine bl_drew ?_) | (refine bl_call (by assumption) ?_) | (refine bl_set _ _ (by simp <;> omega) ?_) | assumption))⟩
      by_cases c2 : a = 51 ∧ b = 68
      · obtain ⟨rfl, rfl⟩ := c2
        have hX2 : X = (unescR (s.data.toList.drop (k + 3))).map ((p ++ [61]) ++ ·) := by
          rw [hXk, ← ht, ← map_acc]; rfl
        replace hX2 := Lib.hid hX2
        have ha := fun W => run_catA ⟨p.toArray⟩ ⟨#[61]⟩ ⟨(p ++ [61]).toArray⟩ (by rw [← bs_app]) (by rw [bsz]; have : (⟨#[61]⟩ : ByteArray).size = 1 := rfl; omega) W
        clear hXk ht
        go_wp2_with fail
        go_roundw
        case measure => simp [RowKit.intOf] <;> omega
        exact ⟨k + 3, p ++ [61], by omega, congrArg (Value.int .i64) (by omega), rfl, hX2, by simp; omega, by (repeat (first | exact Below.refl _ _ | (refine bl_alloc ?_ _) | (refine bl_drewN ?_ _) | (refine bl_drew ?_) | (refine bl_call (by assumption) ?_) | (refine bl_set _ _ (by simp <;> omega) ?_) | assumption))⟩
      have hn3 : three (a :: b :: t) = none := by
        unfold three
        split
        · rename_i heq; cases heq; exact absurd ⟨rfl, rfl⟩ c1
        · rename_i heq; cases heq; exact absurd ⟨rfl, rfl⟩ c2
        · rfl
      rw [hn3] at hXk
      replace hXk := Lib.hid (show X = none from hXk)
      have d1 : ((⟨#[a, b]⟩ : ByteArray).toList == [50, 67]) = false := by rw [ByteArray.toList_eq]; simpa using c1
      have d2 : ((⟨#[a, b]⟩ : ByteArray).toList == [51, 68]) = false := by rw [ByteArray.toList_eq]; simpa using c2
      have d3 : ¬ (⟨#[a, b]⟩ : ByteArray).toList = [50, 67] := beq_eq_false_iff_ne.1 d1
      have d4 : ¬ (⟨#[a, b]⟩ : ByteArray).toList = [51, 68] := beq_eq_false_iff_ne.1 d2
      clear c1 c2 ht hn3
      generalize (⟨#[a, b]⟩ : ByteArray) = T at hsl d1 d2 d3 d4
      go_wp2_with fail
      exact bodyPost_ret (v := unV none) (by simp [results, Tryz.results17, go_sem, unV]) rfl ⟨by rw [hXk.out], by (repeat (first | exact Below.refl _ _ | (refine bl_alloc ?_ _) | (refine bl_drewN ?_ _) | (refine bl_drew ?_) | (refine bl_call (by assumption) ?_) | (refine bl_set _ _ (by simp <;> omega) ?_) | assumption))⟩
    · obtain rfl : k = s.size := by omega
      have hlt' : ¬ (s.size : Int) < (s.size : Int) := by omega
      have hpX : Hid (X = some p) := Lib.hid (by
        rw [hp.out, List.drop_eq_nil_of_le (by rw [hl.out]; exact Nat.le_refl _)]
        show (some (p ++ [])) = _
        rw [List.append_nil])
      go_wp2_with fail
      exact bodyPost_ret (v := unV (some p)) (by simp [results, Tryz.results17, go_sem, unV]) rfl ⟨by rw [hpX.out], by (repeat (first | exact Below.refl _ _ | (refine bl_alloc ?_ _) | (refine bl_drewN ?_ _) | (refine bl_drew ?_) | (refine bl_call (by assumption) ?_) | (refine bl_set _ _ (by simp <;> omega) ?_) | assumption))⟩
theorem ex_occ (s : ByteArray) (k : Nat) (h : k + 3 ≤ s.size) : Lib.occAt s.data.toList [44, 112, 61] k = decide (s.extract k (k + 3) = ⟨#[44, 112, 61]⟩) := by
  have hd : s.extract k (k + 3) = ⟨((s.data.toList.drop k).take 3).toArray⟩ := by
    rw [Lib.extract_eq, show k + 3 - k = 3 by omega]
  rw [hd]
  obtain ⟨a, b, c, t, hr⟩ : ∃ a b c t, s.data.toList.drop k = a :: b :: c :: t := by
    have : 3 ≤ (s.data.toList.drop k).length := by rw [List.length_drop, zlen]; omega
    match s.data.toList.drop k, this with
    | a :: b :: c :: t, _ => exact ⟨a, b, c, t, rfl⟩
  have e3 : Lib.occAt s.data.toList [44, 112, 61] k = ([44, 112, 61] : List UInt8).isPrefixOf (s.data.toList.drop k) := rfl
  rw [e3, hr]
  show ([44, 112, 61] : List UInt8).isPrefixOf (a :: b :: c :: t) = decide ((⟨#[a, b, c]⟩ : ByteArray) = ⟨#[44, 112, 61]⟩)
  simp only [List.isPrefixOf, Bool.and_true]
  rw [Bool.eq_iff_iff, decide_eq_true_iff]
  constructor
  · intro h
    simp only [Bool.and_eq_true, beq_iff_eq] at h
    obtain ⟨rfl, rfl, rfl⟩ := h
    rfl
  · intro h
    have h2 : (#[a, b, c] : Array UInt8) = #[44, 112, 61] := congrArg ByteArray.data h
    have h3 : [a, b, c] = [44, 112, 61] := congrArg Array.toList h2
    cases h3
    rfl
set_option maxHeartbeats 2000000 in
theorem rUnpr_c (s : ByteArray) (hs : s.size ≤ 10000) (w : World) : Calls Tryz.prog 20 #[.string s] w fun e w' => e = .returned (.string ⟨(unprL s.data.toList).toArray⟩) ∧ Below w.heap.size w w' := by
  have hl : s.data.toList.length = s.size := Array.length_toList
  replace hl := Lib.hid hl
  obtain ⟨X, hX⟩ : ∃ X, X = unprL s.data.toList := ⟨_, rfl⟩
  rw [← hX]
  replace hX := Lib.hid hX
  go_enter Tryz.func20, Tryz.ntmps20
  go_wp2_with fail
  go_loopw [3] (fun i wr => ∃ (x : Int), i = .int .i64 x ∧ -3 ≤ x ∧ x + 3 ≤ (s.size : Int) ∧ Hid (X = unprN s.data.toList (x + 1).toNat) ∧ Below w.heap.size w wr) (fun i _ => (RowKit.intOf i + 1).toNat)
  case atStart => exact ⟨(s.size : Int) - 3, rfl, by omega, by omega, Lib.hid (by rw [hX.out]; unfold unprL; rw [hl.out]; congr 1; omega), Below.refl _ _⟩
  case round =>
    obtain ⟨x, rfl, hx0, hx1, hp, HB⟩ := hrel
    by_cases hlt : 0 ≤ x
    · obtain ⟨k, rfl⟩ : ∃ k : Nat, x = (k : Int) := ⟨x.toNat, by omega⟩
      have hk3 : k + 3 ≤ s.size := by omega
      have hstep := hp.out
      rw [show ((k : Int) + 1).toNat = k + 1 by omega, unprN, ex_occ s k hk3] at hstep
      have hsl : ∀ W, (Instr.slice 9 (.string s) (some (.int .i64 (k : Int))) (some (.int .i64 ((k : Int) + 3))) none).run Tryz.prog W = .ok (.string (s.extract k (k + 3))) W := by
        intro W
        have := run_slice_string (P := Tryz.prog) W 9 s .i64 .i64 (k : Int) ((k : Int) + 3) Tryz.underlying9 (by omega) (by omega) (by omega)
        rw [this, show ((k : Int)).toNat = k by omega, show ((k : Int) + 3).toNat = k + 3 by omega]
      have hto := ext_to s k
      clear hp
      generalize s.extract k (k + 3) = T at hstep hsl
      by_cases hT : T = ⟨#[44, 112, 61]⟩
      · rw [decide_eq_true hT, if_pos rfl] at hstep
        replace hstep := Lib.hid hstep
        replace hto := Lib.hid hto
        subst hT
        have hkI : (k : Int) ≤ (s.size : Int) := by omega
        go_wp2_with fail
        exact bodyPost_ret (v := .string (s.extract 0 k)) (by simp [results, Tryz.results20, go_sem]) rfl ⟨by rw [hto.out, hstep.out], by (repeat (first | exact Below.refl _ _ | (refine bl_alloc ?_ _) | (refine bl_drewN ?_ _) | (refine bl_drew ?_) | (refine bl_call (by assumption) ?_) | (refine bl_set _ _ (by simp <;> omega) ?_) | assumption))⟩
      · rw [decide_eq_false hT, if_neg (by decide)] at hstep
        replace hstep := Lib.hid hstep
        have d2 : ¬ T.toList = [44, 112, 61] := by rw [ByteArray.toList_eq]; intro q; exact hT (bs_ext q)
        have d1 : (T.toList == [44, 112, 61]) = false := beq_eq_false_iff_ne.2 d2
        clear hT hto
        go_wp2_with fail
        go_roundw
        case measure => simp [RowKit.intOf] <;> omega
        exact ⟨(k : Int) - 1, rfl, by omega, by omega, Lib.hid (by rw [hstep.out]; congr 1; omega), by (repeat (first | exact Below.refl _ _ | (refine bl_alloc ?_ _) | (refine bl_drewN ?_ _) | (refine bl_drew ?_) | (refine bl_call (by assumption) ?_) | (refine bl_set _ _ (by simp <;> omega) ?_) | assumption))⟩
    · have hp2 : X = s.data.toList := by rw [hp.out, show (x + 1).toNat = 0 by omega]; rfl
      replace hp2 := Lib.hid hp2
      have hlt' : ¬ (0 : Int) ≤ x := hlt
      clear hp
      go_wp2_with fail
      exact bodyPost_ret (v := .string s) (by simp [results, Tryz.results20, go_sem]) rfl ⟨by rw [hp2.out, Lib.mk_data], by (repeat (first | exact Below.refl _ _ | (refine bl_alloc ?_ _) | (refine bl_drewN ?_ _) | (refine bl_drew ?_) | (refine bl_call (by assumption) ?_) | (refine bl_set _ _ (by simp <;> omega) ?_) | assumption))⟩
theorem part_c (s : ByteArray) (c : UInt8) (w : World) : Calls Tryz.prog 36 #[.string s, .string ⟨#[c, 61]⟩] w fun e w' => e = .returned (unV (partC c s.data.toList)) ∧ Below w.heap.size w w' := by
  have hl : s.data.toList.length = s.size := Array.length_toList
  have hz : (⟨#[c, 61]⟩ : ByteArray).size = 2 := rfl
  obtain ⟨X, hX⟩ : ∃ X, X = partC c s.data.toList := ⟨_, rfl⟩
  rw [← hX]
  by_cases h2 : s.size < 2
  · have h2I : (s.size : Int) < 2 := by omega
    have hX2 : X = none := by
      rw [hX]
      have : s.data.toList.length ≤ 1 := by omega
      match s.data.toList, this with
      | [], _ => rfl
      | [a], _ => rfl
    replace hX2 := Lib.hid hX2
    clear hX hl h2
    generalize (⟨#[c, 61]⟩ : ByteArray) = H at hz ⊢
    have hzI : (H.size : Int) = 2 := by omega
    clear hz
    have h2J : (s.size : Int) < (H.size : Int) := by omega
    go_enter Tryz.func36, Tryz.ntmps36
    go_wp2_with fail
    exact bodyPost_ret (v := unV none) (by simp [results, Tryz.results36, go_sem, unV]) rfl ⟨by rw [hX2.out], by (repeat (first | exact Below.refl _ _ | (refine bl_alloc ?_ _) | (refine bl_drewN ?_ _) | (refine bl_drew ?_) | (refine bl_call (by assumption) ?_) | (refine bl_set _ _ (by simp <;> omega) ?_) | assumption))⟩
  · have h2I : ¬ (s.size : Int) < 2 := by omega
    have h2K : (2 : Int) ≤ (s.size : Int) := by omega
    obtain ⟨a, b, t, hr⟩ : ∃ a b t, s.data.toList = a :: b :: t := by
      have : 2 ≤ s.data.toList.length := by omega
      match s.data.toList, this with
      | a :: b :: t, _ => exact ⟨a, b, t, rfl⟩
    have e1 : s.extract 0 2 = ⟨#[a, b]⟩ := by rw [ext_to, hr]; rfl
    have e2 : s.extract 2 s.size = ⟨t.toArray⟩ := by rw [ext_from s 2 (by omega), hr]; rfl
    by_cases hT : (⟨#[a, b]⟩ : ByteArray) = ⟨#[c, 61]⟩
    · have hab : a = c ∧ b = 61 := by simpa using hT
      have hX2 : X = some t := by rw [hX, hr, hab.1, hab.2, partC_yes]
      replace hX2 := Lib.hid hX2
      rw [hT] at e1
      clear hX hl hr hab hT
      have d1 := same_s (a := ⟨#[c, 61]⟩) (b := ⟨#[c, 61]⟩) rfl
      generalize (⟨#[c, 61]⟩ : ByteArray) = H at hz d1 e1 ⊢
      have hzI : (H.size : Int) = 2 := by omega
      clear hz
      go_enter Tryz.func36, Tryz.ntmps36
      go_wp2_with fail
      exact bodyPost_ret (v := unV (some t)) (by simp [results, Tryz.results36, go_sem, unV]) rfl ⟨by rw [hX2.out], by (repeat (first | exact Below.refl _ _ | (refine bl_alloc ?_ _) | (refine bl_drewN ?_ _) | (refine bl_drew ?_) | (refine bl_call (by assumption) ?_) | (refine bl_set _ _ (by simp <;> omega) ?_) | assumption))⟩
    · have hX2 : X = none := by
        rw [hX, hr]
        unfold partC
        split
        · rename_i heq
          cases heq
          rw [if_neg]
          intro q
          exact hT (by rw [q])
        · rfl
      replace hX2 := Lib.hid hX2
      have d1 := differ_s hT
      have d2 : ¬ (⟨#[a, b]⟩ : ByteArray).toList = (⟨#[c, 61]⟩ : ByteArray).toList := beq_eq_false_iff_ne.1 d1
      clear hX hl hr hT
      generalize (⟨#[c, 61]⟩ : ByteArray) = H at hz d1 d2 ⊢
      generalize (⟨#[a, b]⟩ : ByteArray) = T at e1 d1 d2
      have hzI : (H.size : Int) = 2 := by omega
      clear hz
      go_enter Tryz.func36, Tryz.ntmps36
      go_wp2_with fail
      exact bodyPost_ret (v := unV none) (by simp [results, Tryz.results36, go_sem, unV]) rfl ⟨by rw [hX2.out], by (repeat (first | exact Below.refl _ _ | (refine bl_alloc ?_ _) | (refine bl_drewN ?_ _) | (refine bl_drew ?_) | (refine bl_call (by assumption) ?_) | (refine bl_set _ _ (by simp <;> omega) ?_) | assumption))⟩
theorem valD_lt : ∀ l : List UInt8, l.all isD = true → valD l < 10 ^ l.length := by
  refine rev_ind ?_ ?_
  · intro _; decide
  · intro l b ih h
    rw [List.all_append, Bool.and_eq_true] at h
    have h1 := ih h.1
    have hb : isD b = true := by simpa using h.2
    simp only [isD, decide_eq_true_eq] at hb
    rw [valD_snoc, List.length_append, Nat.pow_add]
    simp only [List.length_cons, List.length_nil, Nat.zero_add, Nat.pow_one]
    omega
theorem all_bad (l : List UInt8) (k : Nat) (h : k < l.length) (hb : isD l[k] = false) : l.all isD = false := by
  rw [List.all_eq_false]
  exact ⟨_, List.getElem_mem h, by rw [hb]; decide⟩
theorem digN_no (l : List UInt8) (h : l = [] ∨ l.head? = some 48 ∨ l.all isD = false ∨ 8 < l.length) : digN l = 0 := by
  unfold digN
  rw [if_neg]
  rintro ⟨h1, h2, h3, h4⟩
  rcases h with h | h | h | h
  · exact h1 h
  · exact h3 h
  · rw [h] at h4; cases h4
  · omega
theorem digN_yes (l : List UInt8) (h1 : l ≠ []) (h2 : l.head? ≠ some 48) (h3 : l.all isD = true) (h4 : l.length ≤ 8) : digN l = (valD l : Int) := by
  unfold digN
  rw [if_pos ⟨h1, h4, h2, h3⟩]
set_option maxHeartbeats 4000000 in
theorem rdig_c (s : ByteArray) (w : World) : Calls Tryz.prog 38 #[.string s] w fun x w' => x = .returned (.int .i64 (digN s.data.toList)) ∧ w' = w := by
  have hl : s.data.toList.length = s.size := Array.length_toList
  by_cases h0 : s.size = 0
  · have hz : digN s.data.toList = 0 := digN_no _ (.inl (List.length_eq_zero_iff.1 (by omega)))
    rw [hz]
    have d0 : ((s.size : Int) == 0) = true := beq_iff_eq.2 (by omega)
    have d0' : (s.size : Int) < 1 := by omega
    clear hl h0 hz
    go_enter Tryz.func38, Tryz.ntmps38
    go_wp2_with fail
    exact bodyPost_ret (v := .int .i64 0) (by simp [results, Tryz.results38, go_sem]) rfl ⟨rfl, rfl⟩
  by_cases h8 : 8 < s.size
  · have hz : digN s.data.toList = 0 := digN_no _ (.inr (.inr (.inr (by omega))))
    rw [hz]
    have d0 : ((s.size : Int) == 0) = false := beq_eq_false_iff_ne.2 (by omega)
    have d0' : ¬ (s.size : Int) < 1 := by omega
    have d8 : (8 : Int) < (s.size : Int) := by omega
    clear hl h0 hz h8
    go_enter Tryz.func38, Tryz.ntmps38
    go_wp2_with fail
    exact bodyPost_ret (v := .int .i64 0) (by simp [results, Tryz.results38, go_sem]) rfl ⟨rfl, rfl⟩
  have d0 : ((s.size : Int) == 0) = false := beq_eq_false_iff_ne.2 (by omega)
  have d0' : ¬ (s.size : Int) < 1 := by omega
  have d8 : ¬ (8 : Int) < (s.size : Int) := by omega
  have hp : 0 < s.size := by omega
  have hpI : (0 : Int) < (s.size : Int) := by omega
  have hh : s.data.toList.head? = some (s[0]'hp) := by
    rw [List.head?_eq_getElem?, List.getElem?_eq_getElem (by omega)]; rfl
  by_cases h48 : s[0]'hp = 48
  · have hz : digN s.data.toList = 0 := digN_no _ (.inr (.inl (by rw [hh, h48])))
    rw [hz]
    have q0 : (((s[0]'hp).toNat : Int) == 48) = true := by rw [h48]; rfl
    have q0' : ((s[0]'hp).toNat : Int) = 48 := by rw [h48]; rfl
    clear hl h0 hz h8 hh
    go_enter Tryz.func38, Tryz.ntmps38
    go_wp2_with fail
    exact bodyPost_ret (v := .int .i64 0) (by simp [results, Tryz.results38, go_sem]) rfl ⟨rfl, rfl⟩
  have q0 : (((s[0]'hp).toNat : Int) == 48) = false := beq_eq_false_iff_ne.2 (by intro q; exact h48 (UInt8.toNat_inj.1 (by rw [show (48 : UInt8).toNat = 48 from rfl]; omega)))
  have q0' : ¬ ((s[0]'hp).toNat : Int) = 48 := beq_eq_false_iff_ne.1 q0
  have hh2 : s.data.toList.head? ≠ some 48 := by rw [hh]; intro q; exact h48 (Option.some.inj q)
  have hne : s.data.toList ≠ [] := by intro q; rw [q] at hl; simp at hl; omega
  have hl8 : s.data.toList.length ≤ 8 := by omega
  replace hl := Lib.hid hl
  clear h48 hh h0 h8
  replace hh2 := Lib.hid hh2
  replace hne := Lib.hid hne
  replace hl8 := Lib.hid hl8
  go_enter Tryz.func38, Tryz.ntmps38
  go_wp2_with fail
  have hv0 : valD (s.data.toList.take 0) = 0 := rfl
  go_loopw [4, 3] (fun i v wr => ∃ k n, k ≤ s.size ∧ i = .int .i64 ((k : Nat) : Int) ∧ v = .int .i64 ((n : Nat) : Int) ∧ n = valD (s.data.toList.take k) ∧ (s.data.toList.take k).all isD = true ∧ wr = w) (fun i _ _ => s.size - (RowKit.intOf i).toNat)
  case atStart => exact ⟨0, 0, by omega, rfl, rfl, hv0.symm, rfl, rfl⟩
  case round =>
    obtain ⟨k, n, hk, rfl, rfl, hn, hall, rfl⟩ := hrel
    clear hv0
    have pn : (0 : Int) ≤ (k : Int) := by omega
    by_cases hlt : k < s.size
    · have hlt' : (k : Int) < (s.size : Int) := by omega
      have hts : s.data.toList.take (k + 1) = s.data.toList.take k ++ [s[k]] := take_snoc s.data.toList k (by rw [hl.out]; exact hlt)
      have hb0 : s[k].toNat < 256 := s[k].toNat_lt
      by_cases hc1 : s[k].toNat < 48
      · have hbad : digN s.data.toList = 0 := digN_no _ (.inr (.inr (.inl (all_bad _ k (by rw [hl.out]; exact hlt) (show isD s[k] = false by simp only [isD, decide_eq_false_iff_not]; omega)))))
        replace hbad := Lib.hid hbad
        have c1 : (s[k].toNat : Int) < 48 := by omega
        clear hts hn hall
        go_wp2_with fail
        exact bodyPost_ret (v := .int .i64 0) (by simp [results, Tryz.results38, go_sem]) rfl ⟨by rw [hbad.out], rfl⟩
      have c1 : ¬ (s[k].toNat : Int) < 48 := by omega
      by_cases hc2 : 57 < s[k].toNat
      · have hbad : digN s.data.toList = 0 := digN_no _ (.inr (.inr (.inl (all_bad _ k (by rw [hl.out]; exact hlt) (show isD s[k] = false by simp only [isD, decide_eq_false_iff_not]; omega)))))
        replace hbad := Lib.hid hbad
        have c2 : 57 < (s[k].toNat : Int) := by omega
        clear hts hn hall
        go_wp2_with fail
        exact bodyPost_ret (v := .int .i64 0) (by simp [results, Tryz.results38, go_sem]) rfl ⟨by rw [hbad.out], rfl⟩
      have c2 : ¬ 57 < (s[k].toNat : Int) := by omega
      have hstep : valD (s.data.toList.take (k + 1)) = n * 10 + (s[k].toNat - 48) := by rw [hts, valD_snoc, hn]
      have hall2 : (s.data.toList.take (k + 1)).all isD = true := by
        rw [hts, List.all_append, hall]; simp [isD]; omega
      have hnb : n < 100000000 := by
        have h1 := valD_lt _ hall
        rw [← hn] at h1
        have h2 : (s.data.toList.take k).length ≤ 8 := by rw [List.length_take]; have := hl8.out; omega
        have h3 : 10 ^ (s.data.toList.take k).length ≤ 10 ^ 8 := Nat.pow_le_pow_right (by decide) h2
        omega
      have hnI : (n : Int) < 100000000 := by omega
      have hn0 : (0 : Int) ≤ (n : Int) := by omega
      replace hstep := Lib.hid hstep
      replace hall2 := Lib.hid hall2
      clear hts hn hall hc1 hc2
      go_wp2_with fail
      go_roundw
      case measure => simp [RowKit.intOf] <;> omega
      exact ⟨k + 1, n * 10 + (s[k].toNat - 48), by omega, congrArg (Value.int .i64) (by omega), congrArg (Value.int .i64) (by omega), hstep.out.symm, hall2.out, trivial⟩
    · obtain rfl : k = s.size := by omega
      have hlt' : ¬ (s.size : Int) < (s.size : Int) := by omega
      rw [List.take_of_length_le (by rw [hl.out]; exact Nat.le_refl _)] at hn hall
      have hy := Lib.hid (digN_yes _ hne.out hh2.out hall hl8.out)
      rw [← hn] at hy
      clear hn hall
      go_wp2_with fail
      exact bodyPost_ret (v := .int .i64 (n : Int)) (by simp [results, Tryz.results38, go_sem]) rfl ⟨by rw [hy.out], rfl⟩
end Go.Proofs.YtjigckibbjfkmaaGreatDoor

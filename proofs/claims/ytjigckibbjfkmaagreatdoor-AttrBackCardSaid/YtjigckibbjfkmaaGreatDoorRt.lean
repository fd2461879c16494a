/- Reference 33: Nonce, failure. -/
import Derived.Test.YtjigckibbjfkmaaGreatDoorMb
namespace Go.Proofs.YtjigckibbjfkmaaGreatDoor
open Go.RowKit
set_option maxRecDepth 100000
set_option linter.unusedSimpArgs false
set_option linter.unusedVariables false
theorem rnonce_c (s : ByteArray) (hs : s.size ≤ 100000) (w : World) : Calls Tryz.prog 23 #[.string s] w fun e w' => e = .returned (.bool (nonceOk s.data.toList)) ∧ Below w.heap.size w w' := by
  have hN : nonceOk s.data.toList = (s.data.toList.all nonB && decide (1 ≤ s.size ∧ s.size ≤ 200)) := by
    unfold nonceOk; rw [zlen]; rfl
  rw [hN]
  clear hN
  obtain ⟨X, hX⟩ : ∃ X, X = (s.data.toList.all nonB && decide (1 ≤ s.size ∧ s.size ≤ 200)) := ⟨_, rfl⟩
  rw [← hX]
  replace hX := Lib.hid hX
  go_enter Tryz.func23, Tryz.ntmps23
  go_wp2_with fail
  go_loopw [3] (fun i wr => ∃ k, k ≤ s.size ∧ i = .int .i64 (k : Int) ∧ (s.data.toList.take k).all nonB = true ∧ Below w.heap.size w wr) (fun i _ => s.size - (RowKit.intOf i).toNat)
  case atStart => exact ⟨0, by omega, rfl, rfl, Below.refl _ _⟩
  case round =>
    obtain ⟨k, hk, rfl, hall, HB⟩ := hrel
    have pn : (0 : Int) ≤ (k : Int) := by omega
    by_cases hlt : k < s.size
    · have hlt' : (k : Int) < (s.size : Int) := by omega
      have hst := all_take_snoc nonB s k hlt hall
      have hno := all_not nonB s k hlt
      have hq2 : (((s[k].toNat : Nat) : Int) == 44) = decide (s[k] = 44) := by
        have : (((s[k].toNat : Nat) : Int) = 44) ↔ s[k] = 44 := ⟨fun q => UInt8.toNat_inj.1 (by simpa using Int.ofNat_inj.1 q), fun q => by rw [q]; rfl⟩
        by_cases hq : s[k] = 44
        · rw [decide_eq_true hq, beq_iff_eq]; exact this.2 hq
        · rw [decide_eq_false hq, beq_eq_false_iff_ne]; exact fun q => hq (this.1 q)
      by_cases hb : nonB s[k] = true
      · have h3 := of_decide_eq_true hb
        have g1 : ¬ ((s[k].toNat : Nat) : Int) < 33 := by omega
        have g2 : ¬ 126 < ((s[k].toNat : Nat) : Int) := by omega
        rw [decide_eq_false h3.2.2] at hq2
        have g3 : ¬ ((s[k].toNat : Nat) : Int) = 44 := by simpa using hq2
        replace hst := Lib.hid (hst hb)
        clear hno hb h3 hall
        have g4 : ¬ ((s[k].toNat : Nat) : Int) > 126 := by omega
        go_wp2_with fail
        go_roundw
        case measure => simp [RowKit.intOf] <;> omega
        exact ⟨k + 1, by omega, congrArg (Value.int .i64) (by omega), hst.out, by (repeat (first | exact Below.refl _ _ | (refine bl_alloc ?_ _) | (refine bl_drewN ?_ _) | (refine bl_drew ?_) | (refine bl_call (by assumption) ?_) | (refine bl_set _ _ (by simp <;> omega) ?_) | assumption))⟩
      · have hb' : nonB s[k] = false := by simpa using hb
        have hr : (s.data.toList.all nonB && decide (1 ≤ s.size ∧ s.size ≤ 200)) = false := by rw [hno hb']; rfl
        replace hr := Lib.hid (hX.out.trans hr).symm
        clear hst hno hall
        by_cases c1 : ((s[k].toNat : Nat) : Int) < 33
        · clear hb hb' hq2
          go_wp2_with fail
          exact bodyPost_ret (v := .bool false) (by simp [results, Tryz.results23, go_sem]) rfl ⟨by rw [← hr.out], (by (repeat (first | exact Below.refl _ _ | (refine bl_alloc ?_ _) | (refine bl_drewN ?_ _) | (refine bl_drew ?_) | (refine bl_call (by assumption) ?_) | (refine bl_set _ _ (by simp <;> omega) ?_) | assumption)))⟩
        by_cases c2 : 126 < ((s[k].toNat : Nat) : Int)
        · clear hb hb' hq2
          go_wp2_with fail
          exact bodyPost_ret (v := .bool false) (by simp [results, Tryz.results23, go_sem]) rfl ⟨by rw [← hr.out], (by (repeat (first | exact Below.refl _ _ | (refine bl_alloc ?_ _) | (refine bl_drewN ?_ _) | (refine bl_drew ?_) | (refine bl_call (by assumption) ?_) | (refine bl_set _ _ (by simp <;> omega) ?_) | assumption)))⟩
        have c3 : s[k] = 44 := by
          have := of_decide_eq_false hb'
          by_cases q : s[k] = 44
          · exact q
          · exact absurd ⟨by omega, by omega, q⟩ this
        rw [decide_eq_true c3] at hq2
        have g3 : ((s[k].toNat : Nat) : Int) = 44 := by rw [c3]; rfl
        clear hb hb' c3
        go_wp2_with fail
        exact bodyPost_ret (v := .bool false) (by simp [results, Tryz.results23, go_sem]) rfl ⟨by rw [← hr.out], (by (repeat (first | exact Below.refl _ _ | (refine bl_alloc ?_ _) | (refine bl_drewN ?_ _) | (refine bl_drew ?_) | (refine bl_call (by assumption) ?_) | (refine bl_set _ _ (by simp <;> omega) ?_) | assumption)))⟩
    · obtain rfl : k = s.size := by omega
      have hlt' : ¬ (s.size : Int) < (s.size : Int) := by omega
      rw [List.take_of_length_le (by rw [zlen]; exact Nat.le_refl _)] at hall
      have hA : (s.data.toList.all nonB && decide (1 ≤ s.size ∧ s.size ≤ 200)) = decide (1 ≤ s.size ∧ s.size ≤ 200) := by rw [hall, Bool.true_and]
      clear hall
      by_cases h1 : 1 ≤ s.size
      case neg =>
        have h1i : ¬ (1 : Int) ≤ (s.size : Int) := by omega
        have hr : decide (1 ≤ s.size ∧ s.size ≤ 200) = false := by simp [h1]
        replace hr := Lib.hid (hX.out.trans <| hA.trans hr).symm
        clear h1 hA
        go_wp2_with fail
        exact bodyPost_ret (v := .bool false) (by simp [results, Tryz.results23, go_sem]) rfl ⟨by rw [← hr.out], (by (repeat (first | exact Below.refl _ _ | (refine bl_alloc ?_ _) | (refine bl_drewN ?_ _) | (refine bl_drew ?_) | (refine bl_call (by assumption) ?_) | (refine bl_set _ _ (by simp <;> omega) ?_) | assumption)))⟩
      have h1i : (1 : Int) ≤ (s.size : Int) := by omega
      by_cases h2 : s.size ≤ 200
      case neg =>
        have h2i : ¬ (s.size : Int) ≤ 200 := by omega
        have hr : decide (1 ≤ s.size ∧ s.size ≤ 200) = false := by simp [h2]
        replace hr := Lib.hid (hX.out.trans <| hA.trans hr).symm
        clear h1 h2 hA
        go_wp2_with fail
        exact bodyPost_ret (v := .bool false) (by simp [results, Tryz.results23, go_sem]) rfl ⟨by rw [← hr.out], (by (repeat (first | exact Below.refl _ _ | (refine bl_alloc ?_ _) | (refine bl_drewN ?_ _) | (refine bl_drew ?_) | (refine bl_call (by assumption) ?_) | (refine bl_set _ _ (by simp <;> omega) ?_) | assumption)))⟩
      have h2i : (s.size : Int) ≤ 200 := by omega
      have hr := Lib.hid (hX.out.trans <| hA.trans (decide_eq_true ⟨h1, h2⟩)).symm
      clear h1 h2 hA
      go_wp2_with fail
      exact bodyPost_ret (v := .bool true) (by simp [results, Tryz.results23, go_sem]) rfl ⟨by rw [← hr.out], (by (repeat (first | exact Below.refl _ _ | (refine bl_alloc ?_ _) | (refine bl_drewN ?_ _) | (refine bl_drew ?_) | (refine bl_call (by assumption) ?_) | (refine bl_set _ _ (by simp <;> omega) ?_) | assumption)))⟩
theorem rfail_c (s : ByteArray) (hs : s.size ≤ 100000) (w : World) : Calls Tryz.prog 26 #[.string s] w fun e w' => e = .returned (.bool (failOk s.data.toList)) ∧ Below w.heap.size w w' := by
  have hN : failOk s.data.toList = (s.data.toList.all isLet && decide (1 ≤ s.size ∧ s.size ≤ 100)) := by
    rw [failOk_is, zlen]
  rw [hN]
  clear hN
  obtain ⟨X, hX⟩ : ∃ X, X = (s.data.toList.all isLet && decide (1 ≤ s.size ∧ s.size ≤ 100)) := ⟨_, rfl⟩
  rw [← hX]
  replace hX := Lib.hid hX
  go_enter Tryz.func26, Tryz.ntmps26
  go_wp2_with fail
  go_loopw [3] (fun i wr => ∃ k, k ≤ s.size ∧ i = .int .i64 (k : Int) ∧ (s.data.toList.take k).all isLet = true ∧ Below w.heap.size w wr) (fun i _ => s.size - (RowKit.intOf i).toNat)
  case atStart => exact ⟨0, by omega, rfl, rfl, Below.refl _ _⟩
  case round =>
    obtain ⟨k, hk, rfl, hall, HB⟩ := hrel
    have pn : (0 : Int) ≤ (k : Int) := by omega
    by_cases hlt : k < s.size
    · have hlt' : (k : Int) < (s.size : Int) := by omega
      have hst := all_take_snoc isLet s k hlt hall
      have hno := all_not isLet s k hlt
      have hq2 : (((s[k].toNat : Nat) : Int) == 45) = decide (s[k] = 45) := by
        have : (((s[k].toNat : Nat) : Int) = 45) ↔ s[k] = 45 := ⟨fun q => UInt8.toNat_inj.1 (by simpa using Int.ofNat_inj.1 q), fun q => by rw [q]; rfl⟩
        by_cases hq : s[k] = 45
        · rw [decide_eq_true hq, beq_iff_eq]; exact this.2 hq
        · rw [decide_eq_false hq, beq_eq_false_iff_ne]; exact fun q => hq (this.1 q)
      by_cases hb : isLet s[k] = true
      · have h3 := of_decide_eq_true hb
        replace hst := Lib.hid (hst hb)
        clear hno hb hall
        have h4 : (((s[k].toNat : Nat) : Int) != 45) = !(decide (s[k] = 45)) := by rw [bne, hq2]
        by_cases c3 : s[k] = 45
        · have g1 : ((s[k].toNat : Nat) : Int) < 97 := by rw [c3]; decide
          have g3 : ((s[k].toNat : Nat) : Int) = 45 := by rw [c3]; rfl
          rw [decide_eq_true c3] at hq2 h4
          clear h3 c3
          go_wp2_with fail
          go_roundw
          case measure => simp [RowKit.intOf] <;> omega
          exact ⟨k + 1, by omega, congrArg (Value.int .i64) (by omega), hst.out, by (repeat (first | exact Below.refl _ _ | (refine bl_alloc ?_ _) | (refine bl_drewN ?_ _) | (refine bl_drew ?_) | (refine bl_call (by assumption) ?_) | (refine bl_set _ _ (by simp <;> omega) ?_) | assumption))⟩
        rcases h3 with h3 | h3
        case inr => exact absurd h3 c3
        have g1 : ¬ ((s[k].toNat : Nat) : Int) < 97 := by omega
        have g2 : ¬ 122 < ((s[k].toNat : Nat) : Int) := by omega
        clear c3 hq2 h4
        go_wp2_with fail
        go_roundw
        case measure => simp [RowKit.intOf] <;> omega
        exact ⟨k + 1, by omega, congrArg (Value.int .i64) (by omega), hst.out, by (repeat (first | exact Below.refl _ _ | (refine bl_alloc ?_ _) | (refine bl_drewN ?_ _) | (refine bl_drew ?_) | (refine bl_call (by assumption) ?_) | (refine bl_set _ _ (by simp <;> omega) ?_) | assumption))⟩
      · have hb' : isLet s[k] = false := by simpa using hb
        have hr : (s.data.toList.all isLet && decide (1 ≤ s.size ∧ s.size ≤ 100)) = false := by rw [hno hb']; rfl
        replace hr := Lib.hid (hX.out.trans hr).symm
        clear hst hno hall
        have h5 := of_decide_eq_false hb'
        have c3 : ¬ s[k] = 45 := fun q => h5 (.inr q)
        have h4 : (((s[k].toNat : Nat) : Int) != 45) = !(decide (s[k] = 45)) := by rw [bne, hq2]
        rw [decide_eq_false c3] at hq2 h4
        have g3 : ¬ ((s[k].toNat : Nat) : Int) = 45 := by simpa using hq2
        by_cases c1 : ((s[k].toNat : Nat) : Int) < 97
        · clear hb hb' h5 c3
          go_wp2_with fail
          exact bodyPost_ret (v := .bool false) (by simp [results, Tryz.results26, go_sem]) rfl ⟨by rw [← hr.out], (by (repeat (first | exact Below.refl _ _ | (refine bl_alloc ?_ _) | (refine bl_drewN ?_ _) | (refine bl_drew ?_) | (refine bl_call (by assumption) ?_) | (refine bl_set _ _ (by simp <;> omega) ?_) | assumption)))⟩
        have c2 : 122 < ((s[k].toNat : Nat) : Int) := by
          rcases Int.lt_or_le 122 ((s[k].toNat : Nat) : Int) with q | q
          · exact q
          · exact absurd (.inl ⟨by omega, by omega⟩) h5
        clear hb hb' h5 c3
        go_wp2_with fail
        exact bodyPost_ret (v := .bool false) (by simp [results, Tryz.results26, go_sem]) rfl ⟨by rw [← hr.out], (by (repeat (first | exact Below.refl _ _ | (refine bl_alloc ?_ _) | (refine bl_drewN ?_ _) | (refine bl_drew ?_) | (refine bl_call (by assumption) ?_) | (refine bl_set _ _ (by simp <;> omega) ?_) | assumption)))⟩
    · obtain rfl : k = s.size := by omega
      have hlt' : ¬ (s.size : Int) < (s.size : Int) := by omega
      rw [List.take_of_length_le (by rw [zlen]; exact Nat.le_refl _)] at hall
      have hA : (s.data.toList.all isLet && decide (1 ≤ s.size ∧ s.size ≤ 100)) = decide (1 ≤ s.size ∧ s.size ≤ 100) := by rw [hall, Bool.true_and]
      clear hall
      by_cases h1 : 1 ≤ s.size
      case neg =>
        have h1i : ¬ (1 : Int) ≤ (s.size : Int) := by omega
        have hr : decide (1 ≤ s.size ∧ s.size ≤ 100) = false := by simp [h1]
        replace hr := Lib.hid (hX.out.trans <| hA.trans hr).symm
        clear h1 hA
        go_wp2_with fail
        exact bodyPost_ret (v := .bool false) (by simp [results, Tryz.results26, go_sem]) rfl ⟨by rw [← hr.out], (by (repeat (first | exact Below.refl _ _ | (refine bl_alloc ?_ _) | (refine bl_drewN ?_ _) | (refine bl_drew ?_) | (refine bl_call (by assumption) ?_) | (refine bl_set _ _ (by simp <;> omega) ?_) | assumption)))⟩
      have h1i : (1 : Int) ≤ (s.size : Int) := by omega
      by_cases h2 : s.size ≤ 100
      case neg =>
        have h2i : ¬ (s.size : Int) ≤ 100 := by omega
        have hr : decide (1 ≤ s.size ∧ s.size ≤ 100) = false := by simp [h2]
        replace hr := Lib.hid (hX.out.trans <| hA.trans hr).symm
        clear h1 h2 hA
        go_wp2_with fail
        exact bodyPost_ret (v := .bool false) (by simp [results, Tryz.results26, go_sem]) rfl ⟨by rw [← hr.out], (by (repeat (first | exact Below.refl _ _ | (refine bl_alloc ?_ _) | (refine bl_drewN ?_ _) | (refine bl_drew ?_) | (refine bl_call (by assumption) ?_) | (refine bl_set _ _ (by simp <;> omega) ?_) | assumption)))⟩
      have h2i : (s.size : Int) ≤ 100 := by omega
      have hr := Lib.hid (hX.out.trans <| hA.trans (decide_eq_true ⟨h1, h2⟩)).symm
      clear h1 h2 hA
      go_wp2_with fail
      exact bodyPost_ret (v := .bool true) (by simp [results, Tryz.results26, go_sem]) rfl ⟨by rw [← hr.out], (by (repeat (first | exact Below.refl _ _ | (refine bl_alloc ?_ _) | (refine bl_drewN ?_ _) | (refine bl_drew ?_) | (refine bl_call (by assumption) ?_) | (refine bl_set _ _ (by simp <;> omega) ?_) | assumption)))⟩
end Go.Proofs.YtjigckibbjfkmaaGreatDoor

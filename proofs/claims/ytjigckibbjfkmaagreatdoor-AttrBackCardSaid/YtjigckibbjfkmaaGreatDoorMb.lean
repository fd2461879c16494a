/- attr's name, nonce, failure. -/
import Derived.Test.YtjigckibbjfkmaaGreatDoorMa
namespace Go.Proofs.YtjigckibbjfkmaaGreatDoor
open Go.RowKit
set_option maxRecDepth 100000
set_option linter.unusedSimpArgs false
set_option linter.unusedVariables false
theorem aname_c (s : ByteArray) (hs : s.size ≤ 100000) (w : World) (he : Env w) : Calls Tryz.prog 27 #[.string s] w fun e w' => e = .returned (.bool (nameOk s.data.toList)) ∧ Below w.heap.size w w' := by
  have hV := fun w he => Tryz.utf8_ValidString s w (by omega) he
  have hI := fun w => Tryz.strings_IndexByte s 0 w
  have e0 : (0 : Int).toNat.toUInt8 = 0 := rfl
  rw [e0] at hI
  have hN : nameOk s.data.toList = (Lib.validD s.data.toList && decide (1 ≤ s.size ∧ s.size ≤ 200) && decide (0 ∉ s.data.toList)) := by
    unfold nameOk; rw [zlen]
  have hi := Lib.hid (indexByte_no 0 s.data.toList)
  rw [hN]
  clear hN e0
  generalize Lib.validD s.data.toList = V at hV ⊢
  generalize Lib.indexByte s.data.toList 0 = I at hI hi
  by_cases h1 : 1 ≤ s.size
  case neg =>
    have h1i : ¬ (1 : Int) ≤ (s.size : Int) := by omega
    have hr : (V && decide (1 ≤ s.size ∧ s.size ≤ 200) && decide (0 ∉ s.data.toList)) = false := by simp [h1]
    rw [hr]
    go_enter Tryz.func27, Tryz.ntmps27
    go_wp2_with fail
    exact bodyPost_ret (v := .bool false) (by simp [results, Tryz.results27, go_sem]) rfl ⟨rfl, (by (repeat (first | exact Below.refl _ _ | (refine bl_alloc ?_ _) | (refine bl_drewN ?_ _) | (refine bl_drew ?_) | (refine bl_call (by assumption) ?_) | (refine bl_set _ _ (by simp <;> omega) ?_) | assumption)))⟩
  have h1i : (1 : Int) ≤ (s.size : Int) := by omega
  by_cases h2 : s.size ≤ 200
  case neg =>
    have h2i : ¬ (s.size : Int) ≤ 200 := by omega
    have hr : (V && decide (1 ≤ s.size ∧ s.size ≤ 200) && decide (0 ∉ s.data.toList)) = false := by simp [h2]
    rw [hr]
    go_enter Tryz.func27, Tryz.ntmps27
    go_wp2_with fail
    exact bodyPost_ret (v := .bool false) (by simp [results, Tryz.results27, go_sem]) rfl ⟨rfl, (by (repeat (first | exact Below.refl _ _ | (refine bl_alloc ?_ _) | (refine bl_drewN ?_ _) | (refine bl_drew ?_) | (refine bl_call (by assumption) ?_) | (refine bl_set _ _ (by simp <;> omega) ?_) | assumption)))⟩
  have h2i : (s.size : Int) ≤ 200 := by omega
  have hd : decide (1 ≤ s.size ∧ s.size ≤ 200) = true := decide_eq_true ⟨h1, h2⟩
  rw [hd]
  clear hd
  cases V
  · have hr : (false && true && decide (0 ∉ s.data.toList)) = false := rfl
    rw [hr]
    replace he := Lib.hid he
    go_enter Tryz.func27, Tryz.ntmps27
    go_wp2_with (go_at_call 49; refine (hV _ he.out.utf).mono ?_; rintro e w5 ⟨rfl, hb5⟩)
    exact bodyPost_ret (v := .bool false) (by simp [results, Tryz.results27, go_sem]) rfl ⟨rfl, hb5⟩
  · by_cases hz : 0 ∈ s.data.toList
    · have hI0 : ¬ I < 0 := fun q => hi.out.1 q hz
      have hr : (true && true && decide (0 ∉ s.data.toList)) = false := by simp [hz]
      rw [hr]
      replace he := Lib.hid he
      clear hz
      go_enter Tryz.func27, Tryz.ntmps27
      go_wp2_with (first | (go_at_call 49; refine (hV _ he.out.utf).mono ?_; rintro e w5 ⟨rfl, hb5⟩) | (go_at_call 50; refine (hI _).mono ?_; rintro e w6 ⟨rfl, rfl⟩))
      exact bodyPost_ret (v := .bool false) (by simp [results, Tryz.results27, go_sem, hI0]) rfl ⟨rfl, hb5⟩
    · have hI0 : I < 0 := hi.out.2 hz
      have hr : (true && true && decide (0 ∉ s.data.toList)) = true := by simp [hz]
      rw [hr]
      replace he := Lib.hid he
      clear hz
      go_enter Tryz.func27, Tryz.ntmps27
      go_wp2_with (first | (go_at_call 49; refine (hV _ he.out.utf).mono ?_; rintro e w5 ⟨rfl, hb5⟩) | (go_at_call 50; refine (hI _).mono ?_; rintro e w6 ⟨rfl, rfl⟩))
      exact bodyPost_ret (v := .bool true) (by simp [results, Tryz.results27, go_sem]) rfl ⟨rfl, hb5⟩
theorem TrimL_c (s : ByteArray) (hs : s.size ≤ 100000) (w : World) : Calls Tryz.prog 52 #[.string s, .string letS] w fun e w' => e = .returned (.string ⟨(Lib.trimS s.data.toList letS.data.toList).toArray⟩) ∧ Below w.heap.size w w' :=
  Any.strings_Trim_laid Tryz.lays160 (by kernel_rfl) s letS w (by omega) (by decide) (Go.Proofs.ascii_of_all (by decide))
theorem afail_c (s : ByteArray) (hs : s.size ≤ 100000) (w : World) : Calls Tryz.prog 31 #[.string s] w fun e w' => e = .returned (.bool (failOk s.data.toList)) ∧ Below w.heap.size w w' := by
  have hT := fun w => TrimL_c s hs w
  have hL : letS = ⟨#[97, 98, 99, 100, 101, 102, 103, 104, 105, 106, 107, 108, 109, 110, 111, 112, 113, 114, 115, 116, 117, 118, 119, 120, 121, 122, 45]⟩ := rfl
  have ht := Lib.hid (trim_let s.data.toList)
  have hN : failOk s.data.toList = (s.data.toList.all isLet && decide (1 ≤ s.size ∧ s.size ≤ 100)) := by
    rw [failOk_is, zlen]
  rw [hN]
  clear hN
  generalize Lib.trimS s.data.toList letS.data.toList = T at hT ht
  rw [hL] at hT
  clear hL
  by_cases h1 : 1 ≤ s.size
  case neg =>
    have h1i : ¬ (1 : Int) ≤ (s.size : Int) := by omega
    have hr : (s.data.toList.all isLet && decide (1 ≤ s.size ∧ s.size ≤ 100)) = false := by simp [h1]
    rw [hr]
    go_enter Tryz.func31, Tryz.ntmps31
    go_wp2_with fail
    exact bodyPost_ret (v := .bool false) (by simp [results, Tryz.results31, go_sem]) rfl ⟨rfl, (by (repeat (first | exact Below.refl _ _ | (refine bl_alloc ?_ _) | (refine bl_drewN ?_ _) | (refine bl_drew ?_) | (refine bl_call (by assumption) ?_) | (refine bl_set _ _ (by simp <;> omega) ?_) | assumption)))⟩
  have h1i : (1 : Int) ≤ (s.size : Int) := by omega
  by_cases h2 : s.size ≤ 100
  case neg =>
    have h2i : ¬ (s.size : Int) ≤ 100 := by omega
    have hr : (s.data.toList.all isLet && decide (1 ≤ s.size ∧ s.size ≤ 100)) = false := by simp [h2]
    rw [hr]
    go_enter Tryz.func31, Tryz.ntmps31
    go_wp2_with fail
    exact bodyPost_ret (v := .bool false) (by simp [results, Tryz.results31, go_sem]) rfl ⟨rfl, (by (repeat (first | exact Below.refl _ _ | (refine bl_alloc ?_ _) | (refine bl_drewN ?_ _) | (refine bl_drew ?_) | (refine bl_call (by assumption) ?_) | (refine bl_set _ _ (by simp <;> omega) ?_) | assumption)))⟩
  have h2i : (s.size : Int) ≤ 100 := by omega
  have hd : decide (1 ≤ s.size ∧ s.size ≤ 100) = true := decide_eq_true ⟨h1, h2⟩
  rw [hd, Bool.and_true]
  clear hd
  by_cases hz : s.data.toList.all isLet = true
  · have hT0 : T = [] := ht.out.2 hz
    subst hT0
    rw [hz]
    clear hz ht
    go_enter Tryz.func31, Tryz.ntmps31
    go_wp2_with (go_at_call 52; refine (hT _).mono ?_; rintro e w5 ⟨rfl, hb5⟩)
    exact bodyPost_ret (v := .bool true) (by simp [results, Tryz.results31, go_sem]) rfl ⟨rfl, hb5⟩
  · have hT0 : T ≠ [] := fun q => hz (ht.out.1 q)
    have b0 : ¬ (⟨T.toArray⟩ : ByteArray).toList = [] := by rw [ByteArray.toList_eq]; simpa using hT0
    have b1 : (⟨T.toArray⟩ : ByteArray).toList.isEmpty = false := by rw [List.isEmpty_eq_false_iff]; exact b0
    have hz2 : s.data.toList.all isLet = false := by simpa using hz
    rw [hz2]
    clear hz hz2 ht
    generalize (⟨T.toArray⟩ : ByteArray) = T2 at hT b0 b1
    go_enter Tryz.func31, Tryz.ntmps31
    go_wp2_with (go_at_call 52; refine (hT _).mono ?_; rintro e w5 ⟨rfl, hb5⟩)
    exact bodyPost_ret (v := .bool false) (by simp [results, Tryz.results31, go_sem]) rfl ⟨rfl, hb5⟩
/-- A sign that a nonce may have. -/
def nonB (b : UInt8) : Bool := decide (33 ≤ b.toNat ∧ b.toNat ≤ 126 ∧ b ≠ 44)
theorem all_take_snoc (p : UInt8 → Bool) (s : ByteArray) (k : Nat) (h : k < s.size) (ha : (s.data.toList.take k).all p = true) (hb : p s[k] = true) : (s.data.toList.take (k + 1)).all p = true := by
  have hl : k < s.data.toList.length := by rw [zlen]; exact h
  rw [List.take_add_one, List.getElem?_eq_getElem hl, List.all_append, ha]
  show (true && ([s.data.toList[k]].all p)) = true
  simp
  exact hb
theorem all_not (p : UInt8 → Bool) (s : ByteArray) (k : Nat) (h : k < s.size) (hb : p s[k] = false) : s.data.toList.all p = false := by
  rw [Bool.eq_false_iff]
  intro q
  have hl : k < s.data.toList.length := by rw [zlen]; exact h
  have h2 := List.all_eq_true.1 q s.data.toList[k] (List.getElem_mem hl)
  have h3 : s.data.toList[k] = s[k] := rfl
  rw [h3, hb] at h2
  cases h2
theorem anonce_c (s : ByteArray) (hs : s.size ≤ 100000) (w : World) : Calls Tryz.prog 28 #[.string s] w fun e w' => e = .returned (.bool (nonceOk s.data.toList)) ∧ Below w.heap.size w w' := by
  have hN : nonceOk s.data.toList = (s.data.toList.all nonB && decide (1 ≤ s.size ∧ s.size ≤ 200)) := by
    unfold nonceOk; rw [zlen]; rfl
  rw [hN]
  clear hN
  obtain ⟨X, hX⟩ : ∃ X, X = (s.data.toList.all nonB && decide (1 ≤ s.size ∧ s.size ≤ 200)) := ⟨_, rfl⟩
  rw [← hX]
  replace hX := Lib.hid hX
  go_enter Tryz.func28, Tryz.ntmps28
  go_wp2_with fail
  go_loopw [6] (fun i wr => ∃ k, k ≤ s.size ∧ i = .int .i64 (k : Int) ∧ (s.data.toList.take k).all nonB = true ∧ Below w.heap.size w wr) (fun i _ => s.size - (RowKit.intOf i).toNat)
  case atStart => exact ⟨0, by omega, rfl, rfl, Below.refl _ _⟩
  case round =>
    obtain ⟨k, hk, rfl, hall, HB⟩ := hrel
    have pn : (0 : Int) ≤ (k : Int) := by omega
    by_cases hlt : k < s.size
    · have hlt' : (k : Int) < (s.size : Int) := by omega
      have hst := all_take_snoc nonB s k hlt hall
      have hno := all_not nonB s k hlt
      have hq2 : (((s[k].toNat : Nat) : Int) == 44) = decide (s[k] = 44) := by
        have : (((s[k].toNat : Nat) : Int) = 44) ↔ s[k] = 44 := ⟨fun q => UInt8.toNat_inj.1 (by simpa using Int.ofNat_inj.1 q), fun q => by rw [q]; rfl⟩
        by_cases hq : s[k] = 44
        · rw [decide_eq_true hq, beq_iff_eq]; exact this.2 hq
        · rw [decide_eq_false hq, beq_eq_false_iff_ne]; exact fun q => hq (this.1 q)
      by_cases hb : nonB s[k] = true
      · have h3 := of_decide_eq_true hb
        have g1 : ¬ ((s[k].toNat : Nat) : Int) < 33 := by omega
        have g2 : ¬ 126 < ((s[k].toNat : Nat) : Int) := by omega
        rw [decide_eq_false h3.2.2] at hq2
        have g3 : ¬ ((s[k].toNat : Nat) : Int) = 44 := by simpa using hq2
        replace hst := Lib.hid (hst hb)
        clear hno hb h3 hall
        have g4 : ¬ ((s[k].toNat : Nat) : Int) > 126 := by omega
        go_wp2_with fail
        go_roundw
        case measure => simp [RowKit.intOf] <;> omega
        exact ⟨k + 1, by omega, congrArg (Value.int .i64) (by omega), hst.out, by (repeat (first | exact Below.refl _ _ | (refine bl_alloc ?_ _) | (refine bl_drewN ?_ _) | (refine bl_drew ?_) | (refine bl_call (by assumption) ?_) | (refine bl_set _ _ (by simp <;> omega) ?_) | assumption))⟩
      · have hb' : nonB s[k] = false := by simpa using hb
        have hr : (s.data.toList.all nonB && decide (1 ≤ s.size ∧ s.size ≤ 200)) = false := by rw [hno hb']; rfl
        replace hr := Lib.hid (hX.out.trans hr).symm
        clear hst hno hall
        by_cases c1 : ((s[k].toNat : Nat) : Int) < 33
        · clear hb hb' hq2
          go_wp2_with fail
          exact bodyPost_ret (v := .bool false) (by simp [results, Tryz.results28, go_sem]) rfl ⟨by rw [← hr.out], (by (repeat (first | exact Below.refl _ _ | (refine bl_alloc ?_ _) | (refine bl_drewN ?_ _) | (refine bl_drew ?_) | (refine bl_call (by assumption) ?_) | (refine bl_set _ _ (by simp <;> omega) ?_) | assumption)))⟩
        by_cases c2 : 126 < ((s[k].toNat : Nat) : Int)
        · clear hb hb' hq2
          go_wp2_with fail
          exact bodyPost_ret (v := .bool false) (by simp [results, Tryz.results28, go_sem]) rfl ⟨by rw [← hr.out], (by (repeat (first | exact Below.refl _ _ | (refine bl_alloc ?_ _) | (refine bl_drewN ?_ _) | (refine bl_drew ?_) | (refine bl_call (by assumption) ?_) | (refine bl_set _ _ (by simp <;> omega) ?_) | assumption)))⟩
        have c3 : s[k] = 44 := by
          have := of_decide_eq_false hb'
          by_cases q : s[k] = 44
          · exact q
          · exact absurd ⟨by omega, by omega, q⟩ this
        rw [decide_eq_true c3] at hq2
        have g3 : ((s[k].toNat : Nat) : Int) = 44 := by rw [c3]; rfl
        clear hb hb' c3
        go_wp2_with fail
        exact bodyPost_ret (v := .bool false) (by simp [results, Tryz.results28, go_sem]) rfl ⟨by rw [← hr.out], (by (repeat (first | exact Below.refl _ _ | (refine bl_alloc ?_ _) | (refine bl_drewN ?_ _) | (refine bl_drew ?_) | (refine bl_call (by assumption) ?_) | (refine bl_set _ _ (by simp <;> omega) ?_) | assumption)))⟩
    · obtain rfl : k = s.size := by omega
      have hlt' : ¬ (s.size : Int) < (s.size : Int) := by omega
      rw [List.take_of_length_le (by rw [zlen]; exact Nat.le_refl _)] at hall
      have hA : (s.data.toList.all nonB && decide (1 ≤ s.size ∧ s.size ≤ 200)) = decide (1 ≤ s.size ∧ s.size ≤ 200) := by rw [hall, Bool.true_and]
      clear hall
      by_cases h1 : 1 ≤ s.size
      case neg =>
        have h1i : ¬ (1 : Int) ≤ (s.size : Int) := by omega
        have hr : decide (1 ≤ s.size ∧ s.size ≤ 200) = false := by simp [h1]
        replace hr := Lib.hid (hX.out.trans <| hA.trans hr).symm
        clear h1 hA
        go_wp2_with fail
        exact bodyPost_ret (v := .bool false) (by simp [results, Tryz.results28, go_sem]) rfl ⟨by rw [← hr.out], (by (repeat (first | exact Below.refl _ _ | (refine bl_alloc ?_ _) | (refine bl_drewN ?_ _) | (refine bl_drew ?_) | (refine bl_call (by assumption) ?_) | (refine bl_set _ _ (by simp <;> omega) ?_) | assumption)))⟩
      have h1i : (1 : Int) ≤ (s.size : Int) := by omega
      by_cases h2 : s.size ≤ 200
      case neg =>
        have h2i : ¬ (s.size : Int) ≤ 200 := by omega
        have hr : decide (1 ≤ s.size ∧ s.size ≤ 200) = false := by simp [h2]
        replace hr := Lib.hid (hX.out.trans <| hA.trans hr).symm
        clear h1 h2 hA
        go_wp2_with fail
        exact bodyPost_ret (v := .bool false) (by simp [results, Tryz.results28, go_sem]) rfl ⟨by rw [← hr.out], (by (repeat (first | exact Below.refl _ _ | (refine bl_alloc ?_ _) | (refine bl_drewN ?_ _) | (refine bl_drew ?_) | (refine bl_call (by assumption) ?_) | (refine bl_set _ _ (by simp <;> omega) ?_) | assumption)))⟩
      have h2i : (s.size : Int) ≤ 200 := by omega
      have hr := Lib.hid (hX.out.trans <| hA.trans (decide_eq_true ⟨h1, h2⟩)).symm
      clear h1 h2 hA
      go_wp2_with fail
      exact bodyPost_ret (v := .bool true) (by simp [results, Tryz.results28, go_sem]) rfl ⟨by rw [← hr.out], (by (repeat (first | exact Below.refl _ _ | (refine bl_alloc ?_ _) | (refine bl_drewN ?_ _) | (refine bl_drew ?_) | (refine bl_call (by assumption) ?_) | (refine bl_set _ _ (by simp <;> omega) ?_) | assumption)))⟩
end Go.Proofs.YtjigckibbjfkmaaGreatDoor

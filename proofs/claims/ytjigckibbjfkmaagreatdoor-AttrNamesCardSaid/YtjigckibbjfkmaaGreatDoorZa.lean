/- Law 33: AttrNames. -/
import Derived.Test.YtjigckibbjfkmaaGreatDoorZt
import Derived.Test.YtjigckibbjfkmaaGreatDoorRu
namespace Go.Proofs.YtjigckibbjfkmaaGreatDoor
open Go.RowKit
set_option maxRecDepth 100000
set_option linter.unusedSimpArgs false
set_option linter.unusedVariables false
set_option maxHeartbeats 4000000 in
theorem AttrNames_c (s : ByteArray) (hs : s.size ≤ 140737488355328) (w : World) (he : Env w) : Calls Tryz.prog 5 #[.string s] w fun e w' => e = .returned (.bool true) ∧ Below w.heap.size w w' := by
  have hA := fun w he => awake33_c w he
  replace hA := Lib.hid hA
  by_cases h4 : s.size ≤ 400
  case neg =>
    have h4I : 400 < (s.size : Int) := by omega
    replace he := Lib.hid he
    go_enter Tryz.func5, Tryz.ntmps5
    go_wp2_with (go_at_call 6; refine (hA.out _ he.out).mono ?_; rintro e w5 ⟨rfl, hb5⟩)
    exact bodyPost_ret (v := .bool true) (by simp [results, Tryz.results5, go_sem]) rfl ⟨rfl, hb5⟩
  have h4I : ¬ 400 < (s.size : Int) := by omega
  have zs := zlen s
  have zT : (⟨(escL s.data.toList).toArray⟩ : ByteArray).size ≤ 1200 := by
    have := esc_len s.data.toList
    rw [bsz]; omega
  have hE1 := fun w he => Escape_c s (by omega) w he
  have hE2 := fun w => rEsc_c s (by omega) w
  have hU1 := fun w he => Unescape_c ⟨(escL s.data.toList).toArray⟩ (by omega) w he
  rw [bldl, unesc_esc] at hU1
  have hm : unV (some s.data.toList) = .tuple #[.string s, .bool true] := by show Value.tuple #[.string ⟨s.data.toList.toArray⟩, .bool true] = _; rw [Lib.mk_data]
  rw [hm] at hU1
  have hU2 := fun w he => Unescape_c s (by omega) w he
  have hU3 := fun w => rUnesc_c s (by omega) w
  have hPu := fun w => Unproved_c s (by omega) w
  have hPr := fun w => rUnpr_c s (by omega) w
  have hBa := fun w => Bare_c s (by omega) w
  have hdr : (⟨(s.data.toList.drop 3).toArray⟩ : ByteArray) = if 3 < s.size then s.extract 3 s.size else ⟨#[]⟩ := by
    split
    · exact (ext_from s 3 (by omega)).symm
    · rw [List.drop_eq_nil_of_le (by omega)]
  rw [hdr] at hBa
  generalize (⟨(unprL s.data.toList).toArray⟩ : ByteArray) = PU at hPu hPr
  have hX := esc_unesc s.data.toList.length s.data.toList
  generalize (⟨(escL s.data.toList).toArray⟩ : ByteArray) = T at hE1 hE2 hU1 zT
  clear hm hdr zs zT
  have hXe : ∀ x, unescR s.data.toList = some x → x.length ≤ 400 ∧ (⟨(escL x).toArray⟩ : ByteArray) = s := by
    intro x hx
    have h1 := hX x (Nat.le_refl _) hx
    have h2 := escL_le x
    rw [h1, zlen] at h2
    exact ⟨by omega, by rw [h1, Lib.mk_data]⟩
  clear hX
  replace he := Lib.hid he
  replace hE1 := Lib.hid hE1
  replace hE2 := Lib.hid hE2
  replace hU1 := Lib.hid hU1
  replace hPu := Lib.hid hPu
  replace hPr := Lib.hid hPr
  cases hx : unescR s.data.toList with
  | none =>
    rw [hx] at hU2 hU3
    unfold unV at hU2 hU3
    replace hU2 := Lib.hid hU2
    replace hU3 := Lib.hid hU3
    clear hXe hx
    by_cases h3 : 3 < s.size
    · rw [if_pos h3] at hBa
      have h3I : 3 < (s.size : Int) := by omega
      have h3J : (3 : Int) ≤ (s.size : Int) := by omega
      replace hBa := Lib.hid hBa
      go_enter Tryz.func5, Tryz.ntmps5
      go_upto_region 5 with (go_at_call 6; refine (hA.out _ he.out).mono ?_; rintro e w1 ⟨rfl, HB⟩; have he1 := Lib.hid (he.out.below HB))
      go_upto_region 6 with (go_at_call 14; refine (hE1.out _ he1.out).mono ?_; rintro e w2 ⟨rfl, hb2⟩; have HB2 := bl_call hb2 HB; have he2 := Lib.hid (he.out.below HB2))
      go_upto_region 7 with (go_at_call 15; refine (hU1.out _ he2.out).mono ?_; rintro e w3 ⟨rfl, hb3⟩; have HB3 := bl_call hb3 HB2; have he3 := Lib.hid (he.out.below HB3))
      clear HB hb2 hb3 HB2 he1 he2
      go_upto_region 9 with (go_at_call 16; refine (hE2.out _).mono ?_; rintro e w4 ⟨rfl, hb4⟩; have HB4 := bl_call hb4 HB3; have he4 := Lib.hid (he.out.below HB4))
      go_upto_region 10 with (go_at_call 15; refine (hU2.out _ he4.out).mono ?_; rintro e w5 ⟨rfl, hb5⟩; have HB5 := bl_call hb5 HB4)
      go_upto_region 11 with (go_at_call 17; refine (hU3.out _).mono ?_; rintro e w6 ⟨rfl, hb6⟩; have HB6 := bl_call hb6 HB5; have he6 := Lib.hid (he.out.below HB6))
      clear hb4 hb5 hb6 HB3 HB4 HB5 he3 he4
      go_upto_region 14 with fail
      go_wp2_with (first | (go_at_call 18; refine (hBa.out _).mono ?_; rintro e w8 ⟨rfl, hb8⟩; have HB8 := bl_call hb8 HB6) | (go_at_call 19; refine (hPu.out _).mono ?_; rintro e w9 ⟨rfl, hb9⟩; have HB9 := bl_call hb9 HB8) | (go_at_call 20; refine (hPr.out _).mono ?_; rintro e w10 ⟨rfl, hb10⟩; have HB10 := bl_call hb10 HB9))
      exact bodyPost_ret (v := .bool true) (by simp [results, Tryz.results5, go_sem]) rfl ⟨rfl, HB10⟩
    · rw [if_neg h3] at hBa
      have h3I : ¬ 3 < (s.size : Int) := by omega
      replace hBa := Lib.hid hBa
      go_enter Tryz.func5, Tryz.ntmps5
      go_upto_region 5 with (go_at_call 6; refine (hA.out _ he.out).mono ?_; rintro e w1 ⟨rfl, HB⟩; have he1 := Lib.hid (he.out.below HB))
      go_upto_region 6 with (go_at_call 14; refine (hE1.out _ he1.out).mono ?_; rintro e w2 ⟨rfl, hb2⟩; have HB2 := bl_call hb2 HB; have he2 := Lib.hid (he.out.below HB2))
      go_upto_region 7 with (go_at_call 15; refine (hU1.out _ he2.out).mono ?_; rintro e w3 ⟨rfl, hb3⟩; have HB3 := bl_call hb3 HB2; have he3 := Lib.hid (he.out.below HB3))
      clear HB hb2 hb3 HB2 he1 he2
      go_upto_region 9 with (go_at_call 16; refine (hE2.out _).mono ?_; rintro e w4 ⟨rfl, hb4⟩; have HB4 := bl_call hb4 HB3; have he4 := Lib.hid (he.out.below HB4))
      go_upto_region 10 with (go_at_call 15; refine (hU2.out _ he4.out).mono ?_; rintro e w5 ⟨rfl, hb5⟩; have HB5 := bl_call hb5 HB4)
      go_upto_region 11 with (go_at_call 17; refine (hU3.out _).mono ?_; rintro e w6 ⟨rfl, hb6⟩; have HB6 := bl_call hb6 HB5; have he6 := Lib.hid (he.out.below HB6))
      clear hb4 hb5 hb6 HB3 HB4 HB5 he3 he4
      go_upto_region 14 with fail
      go_wp2_with (first | (go_at_call 18; refine (hBa.out _).mono ?_; rintro e w8 ⟨rfl, hb8⟩; have HB8 := bl_call hb8 HB6) | (go_at_call 19; refine (hPu.out _).mono ?_; rintro e w9 ⟨rfl, hb9⟩; have HB9 := bl_call hb9 HB8) | (go_at_call 20; refine (hPr.out _).mono ?_; rintro e w10 ⟨rfl, hb10⟩; have HB10 := bl_call hb10 HB9))
      exact bodyPost_ret (v := .bool true) (by simp [results, Tryz.results5, go_sem]) rfl ⟨rfl, HB10⟩
  | some x =>
    obtain ⟨hxl, hxe⟩ := hXe x hx
    have hE3 := fun w he => Escape_c ⟨x.toArray⟩ (by rw [bsz]; omega) w he
    rw [bldl, hxe] at hE3
    rw [hx] at hU2 hU3
    unfold unV at hU2 hU3
    simp only at hU2 hU3
    generalize (⟨x.toArray⟩ : ByteArray) = XB at hU2 hU3 hE3
    replace hU2 := Lib.hid hU2
    replace hU3 := Lib.hid hU3
    replace hE3 := Lib.hid hE3
    clear hXe hx hxl hxe
    by_cases h3 : 3 < s.size
    · rw [if_pos h3] at hBa
      have h3I : 3 < (s.size : Int) := by omega
      have h3J : (3 : Int) ≤ (s.size : Int) := by omega
      replace hBa := Lib.hid hBa
      go_enter Tryz.func5, Tryz.ntmps5
      go_upto_region 5 with (go_at_call 6; refine (hA.out _ he.out).mono ?_; rintro e w1 ⟨rfl, HB⟩; have he1 := Lib.hid (he.out.below HB))
      go_upto_region 6 with (go_at_call 14; refine (hE1.out _ he1.out).mono ?_; rintro e w2 ⟨rfl, hb2⟩; have HB2 := bl_call hb2 HB; have he2 := Lib.hid (he.out.below HB2))
      go_upto_region 7 with (go_at_call 15; refine (hU1.out _ he2.out).mono ?_; rintro e w3 ⟨rfl, hb3⟩; have HB3 := bl_call hb3 HB2; have he3 := Lib.hid (he.out.below HB3))
      clear HB hb2 hb3 HB2 he1 he2
      go_upto_region 9 with (go_at_call 16; refine (hE2.out _).mono ?_; rintro e w4 ⟨rfl, hb4⟩; have HB4 := bl_call hb4 HB3; have he4 := Lib.hid (he.out.below HB4))
      go_upto_region 10 with (go_at_call 15; refine (hU2.out _ he4.out).mono ?_; rintro e w5 ⟨rfl, hb5⟩; have HB5 := bl_call hb5 HB4)
      go_upto_region 11 with (go_at_call 17; refine (hU3.out _).mono ?_; rintro e w6 ⟨rfl, hb6⟩; have HB6 := bl_call hb6 HB5; have he6 := Lib.hid (he.out.below HB6))
      clear hb4 hb5 hb6 HB3 HB4 HB5 he3 he4
      go_upto_region 14 with fail
      go_wp2_with (first | (go_at_call 14; refine (hE3.out _ he6.out).mono ?_; rintro e w7 ⟨rfl, hb7⟩; have HB7 := bl_call hb7 HB6) | (go_at_call 18; refine (hBa.out _).mono ?_; rintro e w8 ⟨rfl, hb8⟩; have HB8 := bl_call hb8 HB7) | (go_at_call 19; refine (hPu.out _).mono ?_; rintro e w9 ⟨rfl, hb9⟩; have HB9 := bl_call hb9 HB8) | (go_at_call 20; refine (hPr.out _).mono ?_; rintro e w10 ⟨rfl, hb10⟩; have HB10 := bl_call hb10 HB9))
      exact bodyPost_ret (v := .bool true) (by simp [results, Tryz.results5, go_sem]) rfl ⟨rfl, HB10⟩
    · rw [if_neg h3] at hBa
      have h3I : ¬ 3 < (s.size : Int) := by omega
      replace hBa := Lib.hid hBa
      go_enter Tryz.func5, Tryz.ntmps5
      go_upto_region 5 with (go_at_call 6; refine (hA.out _ he.out).mono ?_; rintro e w1 ⟨rfl, HB⟩; have he1 := Lib.hid (he.out.below HB))
      go_upto_region 6 with (go_at_call 14; refine (hE1.out _ he1.out).mono ?_; rintro e w2 ⟨rfl, hb2⟩; have HB2 := bl_call hb2 HB; have he2 := Lib.hid (he.out.below HB2))
      go_upto_region 7 with (go_at_call 15; refine (hU1.out _ he2.out).mono ?_; rintro e w3 ⟨rfl, hb3⟩; have HB3 := bl_call hb3 HB2; have he3 := Lib.hid (he.out.below HB3))
      clear HB hb2 hb3 HB2 he1 he2
      go_upto_region 9 with (go_at_call 16; refine (hE2.out _).mono ?_; rintro e w4 ⟨rfl, hb4⟩; have HB4 := bl_call hb4 HB3; have he4 := Lib.hid (he.out.below HB4))
      go_upto_region 10 with (go_at_call 15; refine (hU2.out _ he4.out).mono ?_; rintro e w5 ⟨rfl, hb5⟩; have HB5 := bl_call hb5 HB4)
      go_upto_region 11 with (go_at_call 17; refine (hU3.out _).mono ?_; rintro e w6 ⟨rfl, hb6⟩; have HB6 := bl_call hb6 HB5; have he6 := Lib.hid (he.out.below HB6))
      clear hb4 hb5 hb6 HB3 HB4 HB5 he3 he4
      go_upto_region 14 with fail
      go_wp2_with (first | (go_at_call 14; refine (hE3.out _ he6.out).mono ?_; rintro e w7 ⟨rfl, hb7⟩; have HB7 := bl_call hb7 HB6) | (go_at_call 18; refine (hBa.out _).mono ?_; rintro e w8 ⟨rfl, hb8⟩; have HB8 := bl_call hb8 HB7) | (go_at_call 19; refine (hPu.out _).mono ?_; rintro e w9 ⟨rfl, hb9⟩; have HB9 := bl_call hb9 HB8) | (go_at_call 20; refine (hPr.out _).mono ?_; rintro e w10 ⟨rfl, hb10⟩; have HB10 := bl_call hb10 HB9))
      exact bodyPost_ret (v := .bool true) (by simp [results, Tryz.results5, go_sem]) rfl ⟨rfl, HB10⟩
end Go.Proofs.YtjigckibbjfkmaaGreatDoor

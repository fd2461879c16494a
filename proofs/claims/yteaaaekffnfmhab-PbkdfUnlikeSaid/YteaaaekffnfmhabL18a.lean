/- What the laws of layer 18 share; the law PbkdfSteps. -/
import Derived.Test.YteaaaekffnfmhabKr
namespace Go.Proofs.Yteaaaekffnfmhab
open Go.RowKit Go.Lib
set_option maxRecDepth 100000
set_option linter.unusedSimpArgs false
set_option linter.unusedVariables false
attribute [local go_sem] evR_tmp evR_const evR_global evR_func
theorem pb_sum : refBytes (outAt (keyB [112, 97, 115, 115, 119, 111, 114, 100]) [115, 97, 108, 116] 0) = [18, 15, 182, 207, 252, 248, 179, 44, 67, 231, 34, 82, 86, 196, 248, 55, 168, 101, 72, 201, 44, 204, 53, 72, 8, 5, 152, 124, 183, 11, 225, 123] := by decide +kernel
theorem pb_text : pbText ⟨#[112, 97, 115, 115, 119, 111, 114, 100]⟩ ⟨#[115, 97, 108, 116]⟩ 0 = ⟨#[18, 15, 182, 207, 252, 248, 179, 44, 67, 231, 34, 82, 86, 196, 248, 55, 168, 101, 72, 201, 44, 204, 53, 72, 8, 5, 152, 124, 183, 11, 225, 123]⟩ := by
  unfold pbText
  rw [pb_sum]
theorem awake18_c (w : World) : Calls Try.prog 6 #[] w fun e w' => e = .returned (.bool true) ∧ Below w.heap.size w w' := by
  have ha := fun w => pPlain_c ⟨#[112, 97, 115, 115, 119, 111, 114, 100]⟩ ⟨#[115, 97, 108, 116]⟩ (by decide) (by decide) 0 (by omega) w
  rw [pb_text] at ha
  replace ha : ∀ w, Calls Try.prog 7 #[.string ⟨#[112, 97, 115, 115, 119, 111, 114, 100]⟩, .string ⟨#[115, 97, 108, 116]⟩, .int .i64 1] w fun e w' => e = .returned (.string ⟨#[18, 15, 182, 207, 252, 248, 179, 44, 67, 231, 34, 82, 86, 196, 248, 55, 168, 101, 72, 201, 44, 204, 53, 72, 8, 5, 152, 124, 183, 11, 225, 123]⟩) ∧ Below w.heap.size w w' := ha
  go_enter Try.func6, Try.ntmps6
  go_wp2_with (go_at_call 7; refine (ha _).mono ?_; rintro e w' ⟨rfl, HB⟩)
  have he : ((⟨#[18, 15, 182, 207, 252, 248, 179, 44, 67, 231, 34, 82, 86, 196, 248, 55, 168, 101, 72, 201, 44, 204, 53, 72, 8, 5, 152, 124, 183, 11, 225, 123]⟩ : ByteArray).extract 0 4).toList = [18, 15, 182, 207] := by decide +kernel
  exact bodyPost_ret (v := .bool true) (by simp [results, Try.results6, go_sem, he]) rfl ⟨rfl, HB⟩
theorem Steps_c (s : ByteArray) (hs : s.size ≤ 1000) (n : Int) (h1 : 1 ≤ n) (h2 : n ≤ 16777216) (w : World) : Calls Try.prog 11 #[.string s, .int .i64 n] w fun e w' => e = .returned (.int .i64 ((blocksN (64 + s.size + 4) : Int) + 2 * (n - 1))) ∧ Below w.heap.size w w' := by
  obtain ⟨N, hN⟩ : ∃ N, N = 64 + s.size + 4 := ⟨_, rfl⟩
  have e1 : 64 + (s.size : Int) + 4 = (N : Int) := by omega
  have hB := fun w => Blocks_cN N (by omega) w
  have hb : blocksN N ≤ 100 := by unfold blocksN; omega
  have hb2 : 1 ≤ blocksN N := by unfold blocksN; omega
  rw [← hN]
  generalize blocksN N = B at hB hb hb2 ⊢
  have hn1 : ¬ n < 1 := by omega
  replace hN := Lib.hid hN
  go_enter Try.func11, Try.ntmps11
  go_wp2_with (go_at_call 19; refine (hB _).mono ?_; rintro e w' ⟨rfl, rfl⟩)
  exact bodyPost_ret (v := .int .i64 ((B : Int) + 2 * (n - 1))) (by simp [results, Try.results11, go_sem] <;> omega) rfl ⟨rfl, Below.refl _ _⟩
theorem Steps_no_c (s : ByteArray) (n : Int) (hn : n < 1 ∨ 16777216 < n) (w : World) : Calls Try.prog 11 #[.string s, .int .i64 n] w fun e w' => e = .returned (.int .i64 0) ∧ Below w.heap.size w w' := by
  by_cases h1 : n < 1
  · have h1' : decide (n < 1) = true := by simp [h1]
    go_enter Try.func11, Try.ntmps11
    go_wp2
    exact bodyPost_ret (v := .int .i64 0) (by simp [results, Try.results11, go_sem]) rfl ⟨rfl, Below.refl _ _⟩
  · have h2 : 16777216 < n := by omega
    have h1' : decide (n < 1) = false := by simp [h1]
    have h2' : decide (16777216 < n) = true := by simp [h2]
    clear hn
    go_enter Try.func11, Try.ntmps11
    go_wp2
    exact bodyPost_ret (v := .int .i64 0) (by simp [results, Try.results11, go_sem]) rfl ⟨rfl, Below.refl _ _⟩
theorem PbkdfSteps_c (s : ByteArray) (hsz : s.size ≤ maxLen) (n : Int) (w : World) : Calls Try.prog 4 #[.string s, .int .i64 n] w fun e w' => e = .returned (.bool true) ∧ Below w.heap.size w w' := by
  unfold maxLen at hsz
  by_cases hs : s.size ≤ 300
  · have hs' : ¬ (300 : Int) < (s.size : Int) := by omega
    by_cases hn : n < 1 ∨ 16777216 < n
    · have hS := fun w => Steps_no_c s n hn w
      by_cases h1 : n < 1
      · have h1' : decide (1 ≤ n) = false := by simp; omega
        clear hn
        go_enter Try.func4, Try.ntmps4
        go_wp2_with (first | (go_at_call 6; refine (awake18_c _).mono ?_; rintro e w1 ⟨rfl, HB⟩) | (go_at_call 11; refine (hS _).mono ?_; rintro e w2 ⟨rfl, hw2⟩))
        exact bodyPost_ret (v := .bool true) (by simp [results, Try.results4, go_sem]) rfl ⟨rfl, bl_call hw2 HB⟩
      · have h1' : decide (1 ≤ n) = true := by simp; omega
        have h2' : decide (n ≤ 16777216) = false := by simp; omega
        clear hn
        go_enter Try.func4, Try.ntmps4
        go_wp2_with (first | (go_at_call 6; refine (awake18_c _).mono ?_; rintro e w1 ⟨rfl, HB⟩) | (go_at_call 11; refine (hS _).mono ?_; rintro e w2 ⟨rfl, hw2⟩))
        exact bodyPost_ret (v := .bool true) (by simp [results, Try.results4, go_sem]) rfl ⟨rfl, bl_call hw2 HB⟩
    · have h1 : 1 ≤ n := by omega
      have h2 : n ≤ 16777216 := by omega
      clear hn
      have hS := fun w => Steps_c s (by omega) n h1 h2 w
      obtain ⟨N, hN⟩ : ∃ N, N = 64 + s.size + 4 := ⟨_, rfl⟩
      have e1 : 64 + (s.size : Int) + 4 = (N : Int) := by omega
      have hN2 : N ≤ 2000 := by omega
      have hN3 : N ≤ 1000000 := by omega
      rw [← hN, blocks_last] at hS
      have hP := fun g w hk => Padded_zeros N g w hN2 hk
      have hT : lastAt N + 1 ≤ 100 := by unfold lastAt; omega
      generalize lastAt N + 1 = T at hS hP hT
      replace hN := Lib.hid hN
      go_enter Try.func4, Try.ntmps4
      go_upto_region 7 with (go_at_call 6; refine (awake18_c _).mono ?_; rintro e w1 ⟨rfl, HB⟩)
      go_wp2_with (first | (refine wpList_makeN rfl _ _ 22 rfl 5 (.int .u8 0) (.int .u8 0) 1 Try.underlying22 (by kernel_rfl) rfl (by omega) _ N rfl rfl rfl hN3 ?_) | (go_at_call 10; refine (hP _ _ (blk_new w1 _)).mono ?_; rintro e w2 ⟨g, cap, cur, rfl, _, _, _, _, hw2⟩) | (go_at_call 11; refine (hS _).mono ?_; rintro e w3 ⟨rfl, hw3⟩))
      exact bodyPost_ret (v := .bool true) (by simp [results, Try.results4, go_sem]) rfl ⟨rfl, bl_call hw3 (bl_call hw2 (bl_alloc HB _))⟩
  · have hs' : (300 : Int) < (s.size : Int) := by omega
    go_enter Try.func4, Try.ntmps4
    go_wp2_with (go_at_call 6; refine (awake18_c _).mono ?_; rintro e w1 ⟨rfl, HB⟩)
    exact bodyPost_ret (v := .bool true) (by simp [results, Try.results4, go_sem]) rfl ⟨rfl, HB⟩
end Go.Proofs.Yteaaaekffnfmhab

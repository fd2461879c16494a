/- The law ParamsNames: for any number and any text it answers true. No condition but the number's kind. -/
import Derived.Test.YtekblfcmmkipgaaPrm
namespace Go.Proofs.Ytekblfcmmkipgaa.Nam
open Go.RowKit Go.Proofs.Ytekblfcmmkipgaa.PParamsFirst Go.Proofs.YtekblfcmmkipgaaW.PrintWords Go.Proofs.YtekblfcmmkipgaaW.PrintLast Go.Proofs.Ytekblfcmmkipgaa.Prm
set_option maxRecDepth 100000
set_option linter.unusedSimpArgs false
set_option linter.unusedVariables false
abbrev b1 : ByteArray := ⟨#[115, 116, 111, 114, 101, 100]⟩
abbrev b2 : ByteArray := ⟨#[113, 117, 101, 114, 121]⟩
abbrev b3 : ByteArray := ⟨#[111, 112, 97, 113, 117, 101]⟩
abbrev b4 : ByteArray := ⟨#[109, 97, 112, 112, 101, 100]⟩
abbrev b5 : ByteArray := ⟨#[107, 101, 112, 116]⟩
def nameOf (n : Int) : ByteArray := if n = 1 then b1 else if n = 2 then b2 else if n = 3 then b3 else if n = 4 then b4 else if n = 5 then b5 else ⟨#[]⟩
theorem five {n : Int} (h1 : 1 ≤ n) (h2 : n ≤ 5) : n = 1 ∨ n = 2 ∨ n = 3 ∨ n = 4 ∨ n = 5 := by omega
theorem name_pure (n : Int) : params_Name.f n = some (nameOf n) := by
  by_cases h : 1 ≤ n ∧ n ≤ 5
  · rcases five h.1 h.2 with rfl | rfl | rfl | rfl | rfl <;> decide +kernel
  · have : params_Profile.f n = some 9 := by
      unfold params_Profile.f
      by_cases h1 : n < 1
      · rw [if_pos h1]; rfl
      · rw [if_neg h1, decide_eq_true (show n > 5 by omega)]; rfl
    unfold params_Name.f
    rw [this]
    simp only [Option.bind_some]
    rw [if_neg (by decide)]
    unfold nameOf
    rw [if_neg (by omega), if_neg (by omega), if_neg (by omega), if_neg (by omega), if_neg (by omega)]
theorem Name_c (n : Int) (w : World) : Calls Try.prog 11 #[.int .i64 n] w fun e w' => e = .returned (.string (nameOf n)) ∧ Below w.heap.size w w' := params_Name.calls n _ w (name_pure n)
theorem Profile_c (n : Int) (w : World) : Calls Try.prog 13 #[.int .i64 n] w fun e w' => e = .returned (.int .i64 (eo (inside 1 n 5) 9)) ∧ Below w.heap.size w w' := by
  refine (params_Profile.calls n (eo (inside 1 n 5) 9) w ?_).mono fun e w' ⟨h, hd⟩ => ⟨h, hd.below⟩
  unfold params_Profile.f
  by_cases h1 : n < 1
  · rw [if_pos h1, show inside 1 n 5 = false by simp [inside]; omega]; rfl
  · rw [if_neg h1]
    by_cases h2 : n > 5
    · rw [decide_eq_true h2, show inside 1 n 5 = false by simp [inside]; omega]; rfl
    · rw [decide_eq_false h2, show inside 1 n 5 = true by simp [inside]; omega]; rfl
theorem rName_c (n : Int) (w : World) : Calls Try.prog 10 #[.int .i64 n] w fun e w' => e = .returned (.string (nameOf n)) ∧ w' = w := by
  go_enter Try.func10, Try.ntmps10
  by_cases h1 : n = 1
  · subst h1; go_wp2; go_ret; exact ⟨rfl, rfl⟩
  by_cases h2 : n = 2
  · subst h2; go_wp2; go_ret; exact ⟨rfl, rfl⟩
  by_cases h3 : n = 3
  · subst h3; go_wp2; go_ret; exact ⟨rfl, rfl⟩
  by_cases h4 : n = 4
  · subst h4; go_wp2; go_ret; exact ⟨rfl, rfl⟩
  by_cases h5 : n = 5
  · subst h5; go_wp2; go_ret; exact ⟨rfl, rfl⟩
  go_wp2; go_ret
  exact ⟨by simp [nameOf, h1, h2, h3, h4, h5], rfl⟩
/-- Which name it is. -/
def numOf (s : ByteArray) : Int := if s = b1 then 1 else if s = b2 then 2 else if s = b3 then 3 else if s = b4 then 4 else if s = b5 then 5 else 0
theorem named_pure (s : ByteArray) : params_Named.f 10 s = some (numOf s, if numOf s = 0 then 9 else 0) := by
  by_cases h1 : s = b1
  · subst h1; decide +kernel
  by_cases h2 : s = b2
  · subst h2; decide +kernel
  by_cases h3 : s = b3
  · subst h3; decide +kernel
  by_cases h4 : s = b4
  · subst h4; decide +kernel
  by_cases h5 : s = b5
  · subst h5; decide +kernel
  have d : ∀ (x : ByteArray) (l : List UInt8), l = x.toList → s ≠ x → ¬ s.toList = l := fun x l hl h q => h (by
    rw [hl, ByteArray.toList_eq, ByteArray.toList_eq] at q
    exact ByteArray.ext (Array.ext' q))
  have z : slices_Index_string_string.f 10 [b1, b2, b3, b4, b5] s = some (-1) := by
    unfold slices_Index_string_string.f
    simp [slices_Index_string_string.l0, rdOf, wrap64]
    rw [if_neg (d b1 _ (by decide +kernel) h1), if_neg (d b2 _ (by decide +kernel) h2), if_neg (d b3 _ (by decide +kernel) h3), if_neg (d b4 _ (by decide +kernel) h4), if_neg (d b5 _ (by decide +kernel) h5)]
  unfold params_Named.f params_names.f
  simp only [Option.bind_some]
  show (slices_Index_string_string.f 10 [b1, b2, b3, b4, b5] s).bind _ = _
  rw [z]
  simp [numOf, h1, h2, h3, h4, h5]
theorem Named_c (s : ByteArray) (w : World) : Calls Try.prog 14 #[.string s] w fun e w' => e = .returned (.tuple #[.int .i64 (numOf s), .int .i64 (if numOf s = 0 then 9 else 0)]) ∧ Below w.heap.size w w' := params_Named.calls 10 s _ _ w (named_pure s)
theorem same_list {a b : ByteArray} : (a.toList == b.toList) = decide (a = b) := by
  rw [Bool.eq_iff_iff, beq_iff_eq, decide_eq_true_iff]
  refine ⟨fun q => ?_, fun q => by rw [q]⟩
  rw [ByteArray.toList_eq, ByteArray.toList_eq] at q
  exact ByteArray.ext (Array.ext' q)
theorem nameOf_no (n : Int) : (nameOf n).toList.isEmpty = !(inside 1 n 5) := by
  by_cases h : 1 ≤ n ∧ n ≤ 5
  · rcases five h.1 h.2 with rfl | rfl | rfl | rfl | rfl <;> decide +kernel
  · have : nameOf n = ⟨#[]⟩ := by unfold nameOf; rw [if_neg (by omega), if_neg (by omega), if_neg (by omega), if_neg (by omega), if_neg (by omega)]
    rw [this, show inside 1 n 5 = false by simp [inside]; omega]; decide +kernel
theorem key (s : ByteArray) : (numOf s = 0 ∧ ¬s.toList = [115, 116, 111, 114, 101, 100] ∧ ¬s.toList = [113, 117, 101, 114, 121] ∧ ¬s.toList = [111, 112, 97, 113, 117, 101] ∧ ¬s.toList = [109, 97, 112, 112, 101, 100] ∧ ¬s.toList = [107, 101, 112, 116]) ∨
    (¬ numOf s = 0 ∧ nameOf (numOf s) = s ∧ s.toList.isEmpty = false) := by
  have dif : ∀ (x : ByteArray) (l : List UInt8), l = x.toList → s ≠ x → ¬ s.toList = l := fun x l hl h q => h (by
    rw [hl, ByteArray.toList_eq, ByteArray.toList_eq] at q
    exact ByteArray.ext (Array.ext' q))
  by_cases h1 : s = b1
  · subst h1; right; decide +kernel
  by_cases h2 : s = b2
  · subst h2; right; decide +kernel
  by_cases h3 : s = b3
  · subst h3; right; decide +kernel
  by_cases h4 : s = b4
  · subst h4; right; decide +kernel
  by_cases h5 : s = b5
  · subst h5; right; decide +kernel
  left
  exact ⟨by simp [numOf, h1, h2, h3, h4, h5], dif b1 _ (by decide +kernel) h1, dif b2 _ (by decide +kernel) h2, dif b3 _ (by decide +kernel) h3, dif b4 _ (by decide +kernel) h4, dif b5 _ (by decide +kernel) h5⟩
theorem blt {w W w1 : World} (hb : Below W.heap.size W w1) (h : Below w.heap.size w W) : Below w.heap.size w w1 := h.trans (hb.mono h.size)
attribute [local go_sem] nameOf_no fitsV_eo
theorem Names_c (n : Int) (s : ByteArray) (w : World) : Calls Try.prog 3 #[.int .i64 n, .string s] w fun x w' => x = .returned (.bool true) ∧ Below w.heap.size w w' := by
  rcases key s with ⟨h0, h1, h2, h3, h4, h5⟩ | ⟨h0, h1, h2⟩
  · go_enter Try.func3, Try.ntmps3
    go_wp2_with (first | (go_at_call 9; refine (awake_c _).mono ?_; rintro e w' ⟨rfl, HB⟩) | (go_at_call 12; refine (fits_c _ _ _ _).mono ?_; rintro e w' ⟨rfl, rfl⟩) | (go_at_call 11; refine (Name_c _ _).mono ?_; rintro e w' ⟨rfl, HB2⟩) | (go_at_call 13; refine (Profile_c _ _).mono ?_; rintro e w' ⟨rfl, HB3⟩) | (go_at_call 14; refine (Named_c _ _).mono ?_; rintro e w' ⟨rfl, HB4⟩) | (go_at_call 10; refine (rName_c _ _).mono ?_; rintro e w' ⟨rfl, rfl⟩))
    go_ret
    exact ⟨by simp [h1, h2, h3, h4, h5], blt HB4 (blt HB3 (blt HB2 HB))⟩
  · go_enter Try.func3, Try.ntmps3
    go_wp2_with (first | (go_at_call 9; refine (awake_c _).mono ?_; rintro e w' ⟨rfl, HB⟩) | (go_at_call 12; refine (fits_c _ _ _ _).mono ?_; rintro e w' ⟨rfl, rfl⟩) | (go_at_call 11; refine (Name_c _ _).mono ?_; rintro e w' ⟨rfl, HB2⟩) | (go_at_call 13; refine (Profile_c _ _).mono ?_; rintro e w' ⟨rfl, HB3⟩) | (go_at_call 14; refine (Named_c _ _).mono ?_; rintro e w' ⟨rfl, HB4⟩) | (go_at_call 10; refine (rName_c _ _).mono ?_; rintro e w' ⟨rfl, rfl⟩))
    go_ret
    exact ⟨by simp [h0, h1, h2], blt HB4 (blt HB3 (blt HB2 HB))⟩
end Go.Proofs.Ytekblfcmmkipgaa.Nam

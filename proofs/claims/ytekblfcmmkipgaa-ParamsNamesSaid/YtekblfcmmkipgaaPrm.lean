/- Contracts of package params and its reference: for any numbers and any text, which may be; and the law ParamsNumbers. No condition but the numbers' kinds. -/
import Derived.Test.YtekblfcmmkipgaaPureParamsFirst
import Derived.WalkKit
namespace Go.Proofs.Ytekblfcmmkipgaa.Prm
open Go.RowKit Go.Proofs.Ytekblfcmmkipgaa.PParamsFirst Go.Proofs.YtekblfcmmkipgaaW.PrintWords Go.Proofs.YtekblfcmmkipgaaW.PrintLast
set_option maxRecDepth 100000
set_option linter.unusedSimpArgs false
set_option linter.unusedVariables false
/-- 0 where it may be, else the error. -/
def eo (b : Bool) (e : Int) : Int := if b = true then 0 else e
def fitsV (e : Int) (may : Bool) (want : Int) : Bool := if may = true then e == 0 else e == want
theorem fitsV_eo (b : Bool) (e : Int) : fitsV (eo b e) b e = true := by cases b <;> simp [fitsV, eo]
attribute [local go_sem] fitsV_eo
theorem when_c (b : Bool) (e : Int) (w : World) : Calls Try.prog 47 #[.bool b, .int .i64 e] w fun x w' => x = .returned (.int .i64 (eo (!b) e)) ∧ w' = w := by
  go_enter Try.func47, Try.ntmps47
  cases b
  · go_wp2
    go_ret
    exact ⟨rfl, rfl⟩
  · go_wp2
    go_ret
    exact ⟨rfl, rfl⟩
theorem fits_c (e : Int) (b : Bool) (want : Int) (w : World) : Calls Try.prog 12 #[.int .i64 e, .bool b, .int .i64 want] w fun x w' => x = .returned (.bool (fitsV e b want)) ∧ w' = w := by
  go_enter Try.func12, Try.ntmps12
  cases b
  · by_cases h : e = want
    · subst h
      go_wp2
      go_ret
      exact ⟨by simp [fitsV], rfl⟩
    · go_wp2
      go_ret
      exact ⟨by simp [fitsV, h], rfl⟩
  · by_cases h : e = 0
    · subst h
      go_wp2
      go_ret
      exact ⟨by simp [fitsV], rfl⟩
    · go_wp2
      go_ret
      exact ⟨by simp [fitsV, h], rfl⟩
def inside (lo n hi : Int) : Bool := decide (lo ≤ n ∧ n ≤ hi)
/-- Of how many bytes of a buffer of n so many may be told. -/
def clampN (n : Int) : Int := if n < 0 then 0 else if 4096 < n then 4096 else n
def outOk (n most : Int) : Bool := decide (0 ≤ most ∧ most ≤ 12 * clampN n)
theorem Cap_c (n : Int) (w : World) : Calls Try.prog 15 #[.int .i64 n] w fun x w' => x = .returned (.int .i64 (eo (inside 1 n 4096) 8)) ∧ w' = w := by
  go_enter Try.func15, Try.ntmps15
  by_cases h : n < 1
  · go_wp2_with (go_at_call 47; refine (when_c _ _ _).mono ?_; rintro e w' ⟨rfl, rfl⟩)
    go_ret
    exact ⟨by (simp [eo, inside, outOk]; try omega), rfl⟩
  · go_wp2_with (go_at_call 47; refine (when_c _ _ _).mono ?_; rintro e w' ⟨rfl, rfl⟩)
    go_ret
    exact ⟨by (simp [eo, inside, outOk]; try omega), rfl⟩
theorem rCap_c (n : Int) (w : World) : Calls Try.prog 16 #[.int .i64 n] w fun x w' => x = .returned (.bool (inside 1 n 4096)) ∧ w' = w := by
  go_enter Try.func16, Try.ntmps16
  by_cases h : 1 ≤ n
  · go_wp2
    go_ret
    exact ⟨by (simp [inside, outOk]; try omega), rfl⟩
  · go_wp2
    go_ret
    exact ⟨by (simp [inside, outOk]; try omega), rfl⟩
theorem Iter_c (n : Int) (w : World) : Calls Try.prog 21 #[.int .i64 n] w fun x w' => x = .returned (.int .i64 (eo (inside 1 n 16777216) 7)) ∧ w' = w := by
  go_enter Try.func21, Try.ntmps21
  by_cases h : n < 1
  · go_wp2_with (go_at_call 47; refine (when_c _ _ _).mono ?_; rintro e w' ⟨rfl, rfl⟩)
    go_ret
    exact ⟨by (simp [eo, inside, outOk]; try omega), rfl⟩
  · go_wp2_with (go_at_call 47; refine (when_c _ _ _).mono ?_; rintro e w' ⟨rfl, rfl⟩)
    go_ret
    exact ⟨by (simp [eo, inside, outOk]; try omega), rfl⟩
theorem rIter_c (n : Int) (w : World) : Calls Try.prog 22 #[.int .i64 n] w fun x w' => x = .returned (.bool (inside 1 n 16777216)) ∧ w' = w := by
  go_enter Try.func22, Try.ntmps22
  by_cases h : 1 ≤ n
  · go_wp2
    go_ret
    exact ⟨by (simp [inside, outOk]; try omega), rfl⟩
  · go_wp2
    go_ret
    exact ⟨by (simp [inside, outOk]; try omega), rfl⟩
theorem Salt_c (s : ByteArray) (w : World) : Calls Try.prog 19 #[.string s] w fun x w' => x = .returned (.int .i64 (eo (inside 1 (s.size : Int) 64) 6)) ∧ w' = w := by
  go_enter Try.func19, Try.ntmps19
  by_cases h : (s.size : Int) < 1
  · go_wp2_with (go_at_call 47; refine (when_c _ _ _).mono ?_; rintro e w' ⟨rfl, rfl⟩)
    go_ret
    exact ⟨by (simp [eo, inside, outOk]; try omega), rfl⟩
  · go_wp2_with (go_at_call 47; refine (when_c _ _ _).mono ?_; rintro e w' ⟨rfl, rfl⟩)
    go_ret
    exact ⟨by (simp [eo, inside, outOk]; try omega), rfl⟩
theorem rSalt_c (s : ByteArray) (w : World) : Calls Try.prog 20 #[.string s] w fun x w' => x = .returned (.bool (inside 1 (s.size : Int) 64)) ∧ w' = w := by
  go_enter Try.func20, Try.ntmps20
  by_cases h : 1 ≤ (s.size : Int)
  · go_wp2
    go_ret
    exact ⟨by (simp [inside, outOk]; try omega), rfl⟩
  · go_wp2
    go_ret
    exact ⟨by (simp [inside, outOk]; try omega), rfl⟩
theorem Out_c (n most : Int) (w : World) : Calls Try.prog 17 #[.int .i64 n, .int .i64 most] w fun x w' => x = .returned (.int .i64 (eo (outOk n most) 1)) ∧ w' = w := by
  go_enter Try.func17, Try.ntmps17
  by_cases h1 : n < 0
  · by_cases h : most < 0
    · go_wp2_with (go_at_call 47; refine (when_c _ _ _).mono ?_; rintro e w' ⟨rfl, rfl⟩)
      go_ret
      exact ⟨by (simp only [outOk, clampN, eo]; (repeat' split) <;> simp_all <;> omega), rfl⟩
    · go_wp2_with (go_at_call 47; refine (when_c _ _ _).mono ?_; rintro e w' ⟨rfl, rfl⟩)
      go_ret
      exact ⟨by (simp only [outOk, clampN, eo]; (repeat' split) <;> simp_all <;> omega), rfl⟩
  · by_cases h2 : 4096 < n
    · by_cases h : most < 0
      · go_wp2_with (go_at_call 47; refine (when_c _ _ _).mono ?_; rintro e w' ⟨rfl, rfl⟩)
        go_ret
        exact ⟨by (simp only [outOk, clampN, eo]; (repeat' split) <;> simp_all <;> omega), rfl⟩
      · go_wp2_with (go_at_call 47; refine (when_c _ _ _).mono ?_; rintro e w' ⟨rfl, rfl⟩)
        go_ret
        exact ⟨by (simp only [outOk, clampN, eo]; (repeat' split) <;> simp_all <;> omega), rfl⟩
    · by_cases h : most < 0
      · go_wp2_with (go_at_call 47; refine (when_c _ _ _).mono ?_; rintro e w' ⟨rfl, rfl⟩)
        go_ret
        exact ⟨by (simp only [outOk, clampN, eo]; (repeat' split) <;> simp_all <;> omega), rfl⟩
      · go_wp2_with (go_at_call 47; refine (when_c _ _ _).mono ?_; rintro e w' ⟨rfl, rfl⟩)
        go_ret
        exact ⟨by (simp only [outOk, clampN, eo]; (repeat' split) <;> simp_all <;> omega), rfl⟩
theorem rOut_c (n most : Int) (w : World) : Calls Try.prog 18 #[.int .i64 n, .int .i64 most] w fun x w' => x = .returned (.bool (outOk n most)) ∧ w' = w := by
  go_enter Try.func18, Try.ntmps18
  by_cases h1 : n < 0
  · by_cases h : most < 0
    · go_wp2
      go_ret
      exact ⟨by (simp only [outOk, clampN, eo]; (repeat' split) <;> simp_all <;> omega), rfl⟩
    · go_wp2
      go_ret
      exact ⟨by (simp only [outOk, clampN, eo]; (repeat' split) <;> simp_all <;> omega), rfl⟩
  · by_cases h2 : 4096 < n
    · by_cases h : most < 0
      · go_wp2
        go_ret
        exact ⟨by (simp only [outOk, clampN, eo]; (repeat' split) <;> simp_all <;> omega), rfl⟩
      · go_wp2
        go_ret
        exact ⟨by (simp only [outOk, clampN, eo]; (repeat' split) <;> simp_all <;> omega), rfl⟩
    · by_cases h : most < 0
      · go_wp2
        go_ret
        exact ⟨by (simp only [outOk, clampN, eo]; (repeat' split) <;> simp_all <;> omega), rfl⟩
      · go_wp2
        go_ret
        exact ⟨by (simp only [outOk, clampN, eo]; (repeat' split) <;> simp_all <;> omega), rfl⟩
theorem awake_c (w : World) : Calls Try.prog 9 #[] w fun x w' => x = .returned (.bool true) ∧ Below w.heap.size w w' := by
  exact sabretachelaw24_awake.calls 200 true w Pure.awake_tells
theorem Numbers_c (n most : Int) (s : ByteArray) (w : World) : Calls Try.prog 4 #[.int .i64 n, .int .i64 most, .string s] w fun x w' => x = .returned (.bool true) ∧ Below w.heap.size w w' := by
  go_enter Try.func4, Try.ntmps4
  go_wp2_with (first | (go_at_call 9; refine (awake_c _).mono ?_; rintro e w' ⟨rfl, HB⟩) | (go_at_call 12; refine (fits_c _ _ _ _).mono ?_; rintro e w' ⟨rfl, rfl⟩) | (go_at_call 15; refine (Cap_c _ _).mono ?_; rintro e w' ⟨rfl, rfl⟩) | (go_at_call 17; refine (Out_c _ _ _).mono ?_; rintro e w' ⟨rfl, rfl⟩) | (go_at_call 19; refine (Salt_c _ _).mono ?_; rintro e w' ⟨rfl, rfl⟩) | (go_at_call 21; refine (Iter_c _ _).mono ?_; rintro e w' ⟨rfl, rfl⟩) | (go_at_call 16; refine (rCap_c _ _).mono ?_; rintro e w' ⟨rfl, rfl⟩) | (go_at_call 18; refine (rOut_c _ _ _).mono ?_; rintro e w' ⟨rfl, rfl⟩) | (go_at_call 20; refine (rSalt_c _ _).mono ?_; rintro e w' ⟨rfl, rfl⟩) | (go_at_call 22; refine (rIter_c _ _).mono ?_; rintro e w' ⟨rfl, rfl⟩))
  go_ret
  exact ⟨by simp [fitsV_eo], by (repeat (first | exact Below.refl _ _ | (refine bl_alloc ?_ _) | (refine bl_drewN ?_ _) | (refine bl_drew ?_) | (refine bl_call (by assumption) ?_) | (refine bl_set _ _ (by simp <;> omega) ?_) | assumption))⟩
end Go.Proofs.Ytekblfcmmkipgaa.Prm

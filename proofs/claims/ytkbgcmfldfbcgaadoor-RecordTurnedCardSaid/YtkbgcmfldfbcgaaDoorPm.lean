/- Contracts of package params and of its reference, by hand, for seats without the print's texts. -/
import Derived.Test.YtkbgcmfldfbcgaaDoorRq
import Derived.Test.YtkbgcmfldfbcgaaDoorGb
namespace Go.Proofs.YtkbgcmfldfbcgaaDoor
open Go.RowKit
set_option maxRecDepth 100000
set_option linter.unusedSimpArgs false
set_option linter.unusedVariables false
/-- 0 where it may be, else the error. -/
def eo (b : Bool) (e : Int) : Int := if b = true then 0 else e
theorem when_c (b : Bool) (e : Int) (w : World) : Calls Tryd.prog 33 #[.bool b, .int .i64 e] w fun x w' => x = .returned (.int .i64 (eo (!b) e)) ∧ w' = w := by
  go_enter Tryd.func33, Tryd.ntmps33
  cases b
  · go_wp2
    go_ret
    exact ⟨rfl, rfl⟩
  · go_wp2
    go_ret
    exact ⟨rfl, rfl⟩
def inside (lo n hi : Int) : Bool := decide (lo ≤ n ∧ n ≤ hi)
theorem Iter_c (n : Int) (w : World) : Calls Tryd.prog 20 #[.int .i64 n] w fun x w' => x = .returned (.int .i64 (eo (inside 1 n 16777216) 7)) ∧ w' = w := by
  go_enter Tryd.func20, Tryd.ntmps20
  by_cases h : n < 1
  · go_wp2_with (go_at_call 33; refine (when_c _ _ _).mono ?_; rintro e w' ⟨rfl, rfl⟩)
    go_ret
    exact ⟨by (simp [eo, inside]; try omega), rfl⟩
  · go_wp2_with (go_at_call 33; refine (when_c _ _ _).mono ?_; rintro e w' ⟨rfl, rfl⟩)
    go_ret
    exact ⟨by (simp [eo, inside]; try omega), rfl⟩
theorem Salt_c (s : ByteArray) (w : World) : Calls Tryd.prog 16 #[.string s] w fun x w' => x = .returned (.int .i64 (eo (inside 1 (s.size : Int) 64) 6)) ∧ w' = w := by
  go_enter Tryd.func16, Tryd.ntmps16
  by_cases h : (s.size : Int) < 1
  · go_wp2_with (go_at_call 33; refine (when_c _ _ _).mono ?_; rintro e w' ⟨rfl, rfl⟩)
    go_ret
    exact ⟨by (simp [eo, inside]; try omega), rfl⟩
  · go_wp2_with (go_at_call 33; refine (when_c _ _ _).mono ?_; rintro e w' ⟨rfl, rfl⟩)
    go_ret
    exact ⟨by (simp [eo, inside]; try omega), rfl⟩
theorem Profile_c (n : Int) (w : World) : Calls Tryd.prog 19 #[.int .i64 n] w fun x w' => x = .returned (.int .i64 (eo (inside 1 n 5) 9)) ∧ w' = w := by
  go_enter Tryd.func19, Tryd.ntmps19
  by_cases h : n < 1
  · go_wp2_with (go_at_call 33; refine (when_c _ _ _).mono ?_; rintro e w' ⟨rfl, rfl⟩)
    go_ret
    exact ⟨by (simp [eo, inside]; try omega), rfl⟩
  · go_wp2_with (go_at_call 33; refine (when_c _ _ _).mono ?_; rintro e w' ⟨rfl, rfl⟩)
    go_ret
    exact ⟨by (simp [eo, inside]; try omega), rfl⟩
theorem pnames_c (w : World) : Calls Tryd.prog 24 #[] w fun e w' => e = .returned (.slice (some ⟨w.heap.size, 0, none⟩) 5 5) ∧ w'.heap[w.heap.size]? = some (.cells #[.string pn1, .string pn2, .string pn3, .string pn4, .string pn5] 9 (0, 0)) ∧ Below w.heap.size w w' := by
  go_enter Tryd.func24, Tryd.ntmps24
  go_wp2_with fail
  exact bodyPost_ret (v := .slice (some ⟨w.heap.size, 0, none⟩) 5 5) (by simp [results, Tryd.results24, go_sem]) rfl ⟨rfl, blk_new _ _, (by (repeat (first | exact Below.refl _ _ | (refine bl_alloc ?_ _) | (refine bl_drewN ?_ _) | (refine bl_drew ?_) | (refine bl_call (by assumption) ?_) | (refine bl_set _ _ (by simp <;> omega) ?_) | assumption)))⟩
theorem Name_c (n : Int) (w : World) : Calls Tryd.prog 9 #[.int .i64 n] w fun e w' => e = .returned (.string (proN n)) ∧ Below w.heap.size w w' := by
  by_cases h : 1 ≤ n ∧ n ≤ 5
  · have hi : inside 1 n 5 = true := by simp [inside, h]
    have hP := fun w => Profile_c n w
    rw [hi] at hP
    have : n = 1 ∨ n = 2 ∨ n = 3 ∨ n = 4 ∨ n = 5 := by omega
    rcases this with rfl | rfl | rfl | rfl | rfl
    all_goals
      go_enter Tryd.func9, Tryd.ntmps9
      go_wp2_with (first | (go_at_call 19; refine (hP _).mono ?_; rintro e w' ⟨rfl, rfl⟩) | (go_at_call 24; refine (pnames_c _).mono ?_; rintro e w1 ⟨rfl, hk, hb⟩; have c0 := blk_cell hk 0; have c1 := blk_cell hk 1; have c2 := blk_cell hk 2; have c3 := blk_cell hk 3; have c4 := blk_cell hk 4))
    · exact bodyPost_ret (v := .string pn1) (by simp [results, Tryd.results9, go_sem]) rfl ⟨rfl, hb⟩
    · exact bodyPost_ret (v := .string pn2) (by simp [results, Tryd.results9, go_sem]) rfl ⟨rfl, hb⟩
    · exact bodyPost_ret (v := .string pn3) (by simp [results, Tryd.results9, go_sem]) rfl ⟨rfl, hb⟩
    · exact bodyPost_ret (v := .string pn4) (by simp [results, Tryd.results9, go_sem]) rfl ⟨rfl, hb⟩
    · exact bodyPost_ret (v := .string pn5) (by simp [results, Tryd.results9, go_sem]) rfl ⟨rfl, hb⟩
  · have hi : inside 1 n 5 = false := by simp only [inside, decide_eq_false_iff_not]; exact h
    have hP := fun w => Profile_c n w
    rw [hi] at hP
    have hn : proN n = ⟨#[]⟩ := by
      unfold proN
      rw [if_neg (by omega), if_neg (by omega), if_neg (by omega), if_neg (by omega), if_neg (by omega)]
    rw [hn]
    go_enter Tryd.func9, Tryd.ntmps9
    go_wp2_with (go_at_call 19; refine (hP _).mono ?_; rintro e w' ⟨rfl, rfl⟩)
    exact bodyPost_ret (v := .string ⟨#[]⟩) (by simp [results, Tryd.results9, go_sem]) rfl ⟨rfl, Below.refl _ _⟩
end Go.Proofs.YtkbgcmfldfbcgaaDoor

/- Contracts of audit.names, name. -/
import Derived.Test.YtcophjjjkonpjaaDoorAz
namespace Go.Proofs.YtcophjjjkonpjaaDoor
open Go.RowKit
set_option maxRecDepth 100000
set_option linter.unusedSimpArgs false
set_option linter.unusedVariables false
def nm0 : ByteArray := ⟨#[63]⟩
def nm1 : ByteArray := ⟨#[108, 111, 97, 100]⟩
def nm2 : ByteArray := ⟨#[115, 116, 111, 114, 101]⟩
def nm3 : ByteArray := ⟨#[114, 101, 108, 101, 97, 115, 101]⟩
def nm4 : ByteArray := ⟨#[116, 97, 107, 101]⟩
def nm5 : ByteArray := ⟨#[103, 105, 118, 101]⟩
theorem names_c (w : World) : Calls Tryd.prog 31 #[] w fun e w' => e = .returned (.slice (some ⟨w.heap.size, 0, none⟩) 6 6) ∧ w'.heap[w.heap.size]? = some (.cells #[.string nm0, .string nm1, .string nm2, .string nm3, .string nm4, .string nm5] 9 (0, 0)) ∧ Below w.heap.size w w' := by
  go_enter Tryd.func31, Tryd.ntmps31
  go_wp2_with fail
  exact bodyPost_ret (v := .slice (some ⟨w.heap.size, 0, none⟩) 6 6) (by simp [results, Tryd.results31, go_sem]) rfl ⟨rfl, blk_new _ _, (by (repeat (first | exact Below.refl _ _ | (refine bl_alloc ?_ _) | (refine bl_drewN ?_ _) | (refine bl_drew ?_) | (refine bl_call (by assumption) ?_) | (refine bl_set _ _ (by simp <;> omega) ?_) | assumption)))⟩
/-- A kind's name. -/
def nmB (k : Int) : ByteArray := if k = 1 then nm1 else if k = 2 then nm2 else if k = 3 then nm3 else if k = 4 then nm4 else if k = 5 then nm5 else nm0
theorem name_c (k : Int) (w : World) : Calls Tryd.prog 23 #[.int .i64 k] w fun e w' => e = .returned (.string (nmB k)) ∧ Below w.heap.size w w' := by
  by_cases h1 : k < 1
  · have hn : nmB k = nm0 := by unfold nmB; simp only [show ¬ k = 1 by omega, show ¬ k = 2 by omega, show ¬ k = 3 by omega, show ¬ k = 4 by omega, show ¬ k = 5 by omega, if_false]
    rw [hn]
    go_enter Tryd.func23, Tryd.ntmps23
    go_wp2_with (go_at_call 31; refine (names_c _).mono ?_; rintro e w1 ⟨rfl, hk, hb⟩; have c0 := blk_cell hk 0)
    exact bodyPost_ret (v := .string nm0) (by simp [results, Tryd.results23, go_sem]) rfl ⟨rfl, hb⟩
  · by_cases h2 : k > 5
    · have hn : nmB k = nm0 := by unfold nmB; simp only [show ¬ k = 1 by omega, show ¬ k = 2 by omega, show ¬ k = 3 by omega, show ¬ k = 4 by omega, show ¬ k = 5 by omega, if_false]
      rw [hn]
      go_enter Tryd.func23, Tryd.ntmps23
      go_wp2_with (go_at_call 31; refine (names_c _).mono ?_; rintro e w1 ⟨rfl, hk, hb⟩; have c0 := blk_cell hk 0)
      exact bodyPost_ret (v := .string nm0) (by simp [results, Tryd.results23, go_sem]) rfl ⟨rfl, hb⟩
    · have h : k = 1 ∨ k = 2 ∨ k = 3 ∨ k = 4 ∨ k = 5 := by omega
      rcases h with rfl | rfl | rfl | rfl | rfl
      · go_enter Tryd.func23, Tryd.ntmps23
        go_wp2_with (go_at_call 31; refine (names_c _).mono ?_; rintro e w1 ⟨rfl, hk, hb⟩; have c0 := blk_cell hk 1)
        exact bodyPost_ret (v := .string nm1) (by simp [results, Tryd.results23, go_sem]) rfl ⟨rfl, hb⟩
      · go_enter Tryd.func23, Tryd.ntmps23
        go_wp2_with (go_at_call 31; refine (names_c _).mono ?_; rintro e w1 ⟨rfl, hk, hb⟩; have c0 := blk_cell hk 2)
        exact bodyPost_ret (v := .string nm2) (by simp [results, Tryd.results23, go_sem]) rfl ⟨rfl, hb⟩
      · go_enter Tryd.func23, Tryd.ntmps23
        go_wp2_with (go_at_call 31; refine (names_c _).mono ?_; rintro e w1 ⟨rfl, hk, hb⟩; have c0 := blk_cell hk 3)
        exact bodyPost_ret (v := .string nm3) (by simp [results, Tryd.results23, go_sem]) rfl ⟨rfl, hb⟩
      · go_enter Tryd.func23, Tryd.ntmps23
        go_wp2_with (go_at_call 31; refine (names_c _).mono ?_; rintro e w1 ⟨rfl, hk, hb⟩; have c0 := blk_cell hk 4)
        exact bodyPost_ret (v := .string nm4) (by simp [results, Tryd.results23, go_sem]) rfl ⟨rfl, hb⟩
      · go_enter Tryd.func23, Tryd.ntmps23
        go_wp2_with (go_at_call 31; refine (names_c _).mono ?_; rintro e w1 ⟨rfl, hk, hb⟩; have c0 := blk_cell hk 5)
        exact bodyPost_ret (v := .string nm5) (by simp [results, Tryd.results23, go_sem]) rfl ⟨rfl, hb⟩
theorem nmB_size (k : Int) : (nmB k).size ≤ 7 := by
  unfold nmB
  repeat' split
  all_goals decide
end Go.Proofs.YtcophjjjkonpjaaDoor

/- Draws from a seed: New, Count, Fake. -/
import Derived.Test.YtahbnjnpkhehdaaNs
namespace Go.Proofs.Ytahbnjnpkhehdaa
open Go.RowKit Go.Lib
set_option maxRecDepth 100000
set_option linter.unusedSimpArgs false
set_option linter.unusedVariables false
attribute [local go_sem] evR_tmp evR_const evR_global evR_func
theorem nCount_c (g : Nat) (seed : ByteArray) (c : Nat) (hc : c < 1000000000) (w : World) (hk : w.heap[g]? = some (.cells (srcC seed c) 46 (0, 0))) : Calls Try.prog 14 #[.pointer (some ⟨g, 0, none⟩)] w fun e w' => e = .returned (.int .i64 (c : Int)) ∧ Below w.heap.size w w' := by
  have cg : w.cell? ⟨g, 1, none⟩ = some (.int .u64 (c : Int)) := blk_cell hk 1
  have hw : IntKind.i64.wrap (c : Int) = (c : Int) := by rw [IntWalk.i64_in _ (by omega)]
  go_enter Try.func14, Try.ntmps14
  go_wp2
  exact bodyPost_ret (v := .int .i64 (c : Int)) (by simp [results, Try.results14, go_sem]) rfl ⟨rfl, Below.refl _ _⟩
theorem nNew_c (seed : ByteArray) (w : World) : Calls Try.prog 7 #[.string seed] w fun e w' => e = .returned (.pointer (some ⟨w.heap.size, 0, none⟩)) ∧ w'.heap[w.heap.size]? = some (.cells (srcC seed 0) 46 (0, 0)) ∧ Below w.heap.size w w' := by
  go_enter Try.func7, Try.ntmps7
  go_wp2
  exact bodyPost_ret (v := .pointer (some ⟨w.heap.size, 0, none⟩)) (by simp [results, Try.results7, go_sem]) rfl ⟨rfl, blk_new _ _, (by (repeat (first | exact Below.refl _ _ | (refine bl_alloc ?_ _) | (refine bl_drewN ?_ _) | (refine bl_drew ?_) | (refine bl_call (by assumption) ?_) | (refine bl_set _ _ (by simp <;> omega) ?_) | assumption)))⟩
set_option maxHeartbeats 2000000 in
theorem nFake_c (seed user : ByteArray) (hs : seed.size ≤ 400000) (hu : user.size ≤ 400000) (n : Int) (w : World) : Calls Try.prog 17 #[.string seed, .string user, .int .i64 n] w fun e w' => e = .returned (.string ((macText seed user).extract 0 (min (max n 0) 32).toNat)) ∧ Below w.heap.size w w' := by
  have hP := fun w => hPlain_c seed user (by omega) (by omega) w
  have hl : (macText seed user).size = 32 := by simp [macText, ByteArray.size, refBytes_length _ (macK_length _ _), macw]
  generalize macText seed user = t at hP hl ⊢
  obtain ⟨m, hm⟩ : ∃ m, m = (min (max n 0) 32).toNat := ⟨_, rfl⟩
  have hmv : (if (32 : Int) < (if n < 0 then 0 else n) then 32 else (if n < 0 then 0 else n)) = (m : Int) := by
    have : (m : Int) = min (max n 0) 32 := by omega
    rw [this]; split <;> split at * <;> omega
  have hm32 : m ≤ t.size := by omega
  have hm32' : (m : Int) ≤ (t.size : Int) := by omega
  rw [← hm]
  replace hm := Lib.hid hm
  replace hl := Lib.hid hl
  go_enter Try.func17, Try.ntmps17
  go_wp2_with (go_at_call 23; refine (hP _).mono ?_; rintro e w3 ⟨rfl, hb3⟩)
  all_goals exact bodyPost_ret (v := .string (t.extract 0 m)) (by simp [results, Try.results17, go_sem]) rfl ⟨rfl, hb3⟩
end Go.Proofs.Ytahbnjnpkhehdaa

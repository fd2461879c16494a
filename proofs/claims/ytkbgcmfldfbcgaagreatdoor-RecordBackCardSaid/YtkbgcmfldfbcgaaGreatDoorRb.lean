/- record.check, record.Encode. -/
import Derived.Test.YtkbgcmfldfbcgaaGreatDoorRa
import Derived.Test.YtkbgcmfldfbcgaaGreatDoorBg
namespace Go.Proofs.YtkbgcmfldfbcgaaGreatDoor
open Go.RowKit
set_option maxRecDepth 100000
set_option linter.unusedSimpArgs false
set_option linter.unusedVariables false
def recV (r : Rcd) : Value := .agg #[.int .i64 r.p, .int .i64 r.n, .string r.a, .string r.b, .string r.c]
theorem first_chk (r : Rcd) : firstE (eo (inside 1 r.p 5) 9) (eo (inside 1 r.n 16777216) 7) (eo (inside 1 (r.a.size : Int) 64) 6) (sumE r.b) (sumE r.c) = chkR r := by
  have e : inside 1 (r.a.size : Int) 64 = decide (1 ≤ r.a.size ∧ r.a.size ≤ 64) := by
    simp only [inside]
    congr 1
    rw [show ((1 : Int) ≤ (r.a.size : Int) ∧ (r.a.size : Int) ≤ 64) = (1 ≤ r.a.size ∧ r.a.size ≤ 64) from propext (by omega)]
  rw [e]
  unfold firstE chkR sumE
  simp only [eo, inside, decide_eq_true_eq]
  by_cases h1 : 1 ≤ r.p ∧ r.p ≤ 5 <;> by_cases h2 : 1 ≤ r.n ∧ r.n ≤ 16777216 <;> by_cases h3 : 1 ≤ r.a.size ∧ r.a.size ≤ 64 <;> by_cases h4 : r.b.size = 32 <;> by_cases h5 : r.c.size = 32 <;> simp [h1, h2, h3, h4, h5]
set_option maxHeartbeats 2000000 in
theorem check_c (r : Rcd) (w : World) : Calls Tryz.prog 23 #[recV r] w fun x w' => x = .returned (.int .i64 (chkR r)) ∧ Below w.heap.size w w' := by
  rw [← first_chk r]
  have hP := fun w => (Profile_c r.p w).mono (R' := fun e w' => e = .returned (.int .i64 (eo (inside 1 r.p 5) 9)) ∧ Below w.heap.size w w') (by rintro e w' ⟨rfl, rfl⟩; exact ⟨rfl, Below.refl _ _⟩)
  have hI := fun w => (Iter_c r.n w).mono (R' := fun e w' => e = .returned (.int .i64 (eo (inside 1 r.n 16777216) 7)) ∧ Below w.heap.size w w') (by rintro e w' ⟨rfl, rfl⟩; exact ⟨rfl, Below.refl _ _⟩)
  have hS := fun w => (Salt_c r.a w).mono (R' := fun e w' => e = .returned (.int .i64 (eo (inside 1 (r.a.size : Int) 64) 6)) ∧ Below w.heap.size w w') (by rintro e w' ⟨rfl, rfl⟩; exact ⟨rfl, Below.refl _ _⟩)
  have hB := fun s w => (sum_c s w).mono (R' := fun e w' => e = .returned (.int .i64 (sumE s)) ∧ Below w.heap.size w w') (by rintro e w' ⟨rfl, rfl⟩; exact ⟨rfl, Below.refl _ _⟩)
  have hF := fun (w : World) (g : Nat) (hk : w.heap[g]? = some (.cells #[.int .i64 (eo (inside 1 r.p 5) 9), .int .i64 (eo (inside 1 r.n 16777216) 7), .int .i64 (eo (inside 1 (r.a.size : Int) 64) 6), .int .i64 (sumE r.b), .int .i64 (sumE r.c)] 25 (0, 0))) => First_c _ _ _ _ _ g w hk
  generalize eo (inside 1 r.p 5) 9 = e1 at hP hF ⊢
  generalize eo (inside 1 r.n 16777216) 7 = e2 at hI hF ⊢
  generalize eo (inside 1 (r.a.size : Int) 64) 6 = e3 at hS hF ⊢
  replace hF := Lib.hid hF
  unfold recV
  go_enter Tryz.func23, Tryz.ntmps23
  go_upto_region 1 with fail
  refine gen_world fun W hW => ?_
  have hk : W.heap[w.heap.size]? = some (.cells #[.int .i64 r.p, .int .i64 r.n, .string r.a, .string r.b, .string r.c] 24 (0, 0)) := by subst hW; exact blk_new _ _
  have hA : Below w.heap.size w W := by subst hW; (repeat (first | exact Below.refl _ _ | (refine bl_alloc ?_ _) | (refine bl_drewN ?_ _) | (refine bl_drew ?_) | (refine bl_call (by assumption) ?_) | (refine bl_set _ _ (by simp <;> omega) ?_) | assumption))
  have c0 := blk_cell hk 0
  have c1 := blk_cell hk 1
  have c2 := blk_cell hk 2
  have c3 := blk_cell hk 3
  have c4 := blk_cell hk 4
  simp only [List.getElem?_toArray, List.getElem?_cons_zero, List.getElem?_cons_succ] at c0 c1 c2 c3 c4
  clear hk hW
  refine wp_region_grow (fun w' => Below W.heap.size W w') 15 (by kernel_rfl) (by kernel_rfl) ⟨rfl, rfl, rfl, Nat.le_refl _, fun _ _ => rfl⟩ ?_
  simp only [List.take_succ_cons, List.take_zero, List.drop_succ_cons, List.drop_zero]
  repeat (first | go_big_quiet_skip | (go_big_quiet_want; go_big_quiet_op; first | go_big_quiet_on | (apply Exists.intro; refine ⟨fun w1 hw1 => ?_, ?_⟩; (first | exact rfl | (simp only [grow_cell hw1 c0, Result.andThen_ok]; exact ⟨trivial, rfl⟩) | (simp only [grow_cell hw1 c1, Result.andThen_ok]; exact ⟨trivial, rfl⟩) | (simp only [grow_cell hw1 c2, Result.andThen_ok]; exact ⟨trivial, rfl⟩) | (simp only [grow_cell hw1 c3, Result.andThen_ok]; exact ⟨trivial, rfl⟩) | (simp only [grow_cell hw1 c4, Result.andThen_ok]; exact ⟨trivial, rfl⟩) | (go_at_call 41; refine Calls_grow hw1 (hP w1)) | (go_at_call 36; refine Calls_grow hw1 (hI w1)) | (go_at_call 16; refine Calls_grow hw1 (hS w1)) | (go_at_call 17; refine Calls_grow hw1 (hB _ w1))); go_big_quiet_on)))
  refine wpQuiet_nil ?_
  intro w1 hw1
  have hA2 := bl_call hw1 hA
  clear hw1
  go_wp2_with (go_at_call 40; refine (hF.out _ _ (blk_new _ _)).mono ?_; rintro e w5 ⟨rfl, rfl⟩)
  exact bodyPost_ret (v := .int .i64 (firstE e1 e2 e3 (sumE r.b) (sumE r.c))) (by simp [results, Tryz.results23, go_sem]) rfl ⟨rfl, by (repeat (first | exact Below.refl _ _ | (refine bl_alloc ?_ _) | (refine bl_drewN ?_ _) | (refine bl_drew ?_) | (refine bl_call (by assumption) ?_) | (refine bl_set _ _ (by simp <;> omega) ?_) | assumption))⟩
end Go.Proofs.YtkbgcmfldfbcgaaGreatDoor

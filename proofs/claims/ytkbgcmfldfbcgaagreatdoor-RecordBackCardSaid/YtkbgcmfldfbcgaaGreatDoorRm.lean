/- The contract of RecordBack. -/
import Derived.Test.YtkbgcmfldfbcgaaGreatDoorRl
namespace Go.Proofs.YtkbgcmfldfbcgaaGreatDoor
open Go.RowKit
set_option maxRecDepth 100000
set_option linter.unusedSimpArgs false
set_option linter.unusedVariables false
set_option maxHeartbeats 1000000 in
theorem Back_a (r : Rcd) (ha : 100 < r.a.size) (hb : True) (hc : True) (w : World) (ht : TabP w) (hm : MaxL w) : Calls Tryz.prog 4 #[recV r] w fun x w' => x = .returned (.bool true) ∧ Below w.heap.size w w' := by
  have hW := Lib.hid (fun w ht hm => awake26_c w ht hm)
  replace ht := Lib.hid ht
  replace hm := Lib.hid hm
  obtain ⟨rp, rn, ra, rb, rc⟩ := r
  simp only at ha hb hc
  unfold recV
  simp only
  have qa : 100 < (ra.size : Int) := by omega
  have da : decide (100 < (ra.size : Int)) = true := by simp; omega
  clear ha hb hc
  go_enter Tryz.func4, Tryz.ntmps4
  go_upto_region 1 with fail
  refine gen_world fun W hW1 => ?_
  have hk : W.heap[w.heap.size]? = some (.cells #[.int .i64 rp, .int .i64 rn, .string ra, .string rb, .string rc] 24 (0, 0)) := by subst hW1; exact blk_new _ _
  have hA : Below w.heap.size w W := by subst hW1; (repeat (first | exact Below.refl _ _ | (refine bl_alloc ?_ _) | (refine bl_drewN ?_ _) | (refine bl_drew ?_) | (refine bl_call (by assumption) ?_) | (refine bl_set _ _ (by simp <;> omega) ?_) | assumption))
  clear hW1
  have ht1 := Lib.hid (tabP_below ht.out rfl hA)
  have hm1 := Lib.hid (maxL_grow hm.out hA)
  clear ht hm
  go_upto_region 3 with (go_at_call 5; refine (hW.out _ ht1.out hm1.out).mono ?_; rintro e w5 ⟨rfl, hb⟩)
  have kr := grow_blk hb hk
  have hA5 := bl_call hb hA
  have ht5 := Lib.hid (tabP_below ht1.out rfl hb)
  have hm5 := Lib.hid (maxL_grow hm1.out hb)
  clear hk hA hb ht1 hm1 hW
  have c0 : w5.cell? ⟨w.heap.size, 0, none⟩ = some (.int .i64 rp) := blk_cell kr 0
  have c1 : w5.cell? ⟨w.heap.size, 1, none⟩ = some (.int .i64 rn) := blk_cell kr 1
  have c2 : w5.cell? ⟨w.heap.size, 2, none⟩ = some (.string ra) := blk_cell kr 2
  have c3 : w5.cell? ⟨w.heap.size, 3, none⟩ = some (.string rb) := blk_cell kr 3
  have c4 : w5.cell? ⟨w.heap.size, 4, none⟩ = some (.string rc) := blk_cell kr 4
  clear kr
  go_wp2_with fail
  exact bodyPost_ret (v := .bool true) (by simp [results, Tryz.results4, go_sem]) rfl ⟨rfl, hA5⟩
set_option maxHeartbeats 1000000 in
theorem Back_b (r : Rcd) (ha : ¬ 100 < r.a.size) (hb : 100 < r.b.size) (hc : True) (w : World) (ht : TabP w) (hm : MaxL w) : Calls Tryz.prog 4 #[recV r] w fun x w' => x = .returned (.bool true) ∧ Below w.heap.size w w' := by
  have hW := Lib.hid (fun w ht hm => awake26_c w ht hm)
  replace ht := Lib.hid ht
  replace hm := Lib.hid hm
  obtain ⟨rp, rn, ra, rb, rc⟩ := r
  simp only at ha hb hc
  unfold recV
  simp only
  have qa : ¬ 100 < (ra.size : Int) := by omega
  have da : decide (100 < (ra.size : Int)) = false := by simp; omega
  have qb : 100 < (rb.size : Int) := by omega
  have db : decide (100 < (rb.size : Int)) = true := by simp; omega
  clear ha hb hc
  go_enter Tryz.func4, Tryz.ntmps4
  go_upto_region 1 with fail
  refine gen_world fun W hW1 => ?_
  have hk : W.heap[w.heap.size]? = some (.cells #[.int .i64 rp, .int .i64 rn, .string ra, .string rb, .string rc] 24 (0, 0)) := by subst hW1; exact blk_new _ _
  have hA : Below w.heap.size w W := by subst hW1; (repeat (first | exact Below.refl _ _ | (refine bl_alloc ?_ _) | (refine bl_drewN ?_ _) | (refine bl_drew ?_) | (refine bl_call (by assumption) ?_) | (refine bl_set _ _ (by simp <;> omega) ?_) | assumption))
  clear hW1
  have ht1 := Lib.hid (tabP_below ht.out rfl hA)
  have hm1 := Lib.hid (maxL_grow hm.out hA)
  clear ht hm
  go_upto_region 3 with (go_at_call 5; refine (hW.out _ ht1.out hm1.out).mono ?_; rintro e w5 ⟨rfl, hb⟩)
  have kr := grow_blk hb hk
  have hA5 := bl_call hb hA
  have ht5 := Lib.hid (tabP_below ht1.out rfl hb)
  have hm5 := Lib.hid (maxL_grow hm1.out hb)
  clear hk hA hb ht1 hm1 hW
  have c0 : w5.cell? ⟨w.heap.size, 0, none⟩ = some (.int .i64 rp) := blk_cell kr 0
  have c1 : w5.cell? ⟨w.heap.size, 1, none⟩ = some (.int .i64 rn) := blk_cell kr 1
  have c2 : w5.cell? ⟨w.heap.size, 2, none⟩ = some (.string ra) := blk_cell kr 2
  have c3 : w5.cell? ⟨w.heap.size, 3, none⟩ = some (.string rb) := blk_cell kr 3
  have c4 : w5.cell? ⟨w.heap.size, 4, none⟩ = some (.string rc) := blk_cell kr 4
  clear kr
  go_wp2_with fail
  exact bodyPost_ret (v := .bool true) (by simp [results, Tryz.results4, go_sem]) rfl ⟨rfl, hA5⟩
set_option maxHeartbeats 1000000 in
theorem Back_c (r : Rcd) (ha : ¬ 100 < r.a.size) (hb : ¬ 100 < r.b.size) (hc : 100 < r.c.size) (w : World) (ht : TabP w) (hm : MaxL w) : Calls Tryz.prog 4 #[recV r] w fun x w' => x = .returned (.bool true) ∧ Below w.heap.size w w' := by
  have hW := Lib.hid (fun w ht hm => awake26_c w ht hm)
  replace ht := Lib.hid ht
  replace hm := Lib.hid hm
  obtain ⟨rp, rn, ra, rb, rc⟩ := r
  simp only at ha hb hc
  unfold recV
  simp only
  have qa : ¬ 100 < (ra.size : Int) := by omega
  have da : decide (100 < (ra.size : Int)) = false := by simp; omega
  have qb : ¬ 100 < (rb.size : Int) := by omega
  have db : decide (100 < (rb.size : Int)) = false := by simp; omega
  have qc : 100 < (rc.size : Int) := by omega
  have dc : decide (100 < (rc.size : Int)) = true := by simp; omega
  clear ha hb hc
  go_enter Tryz.func4, Tryz.ntmps4
  go_upto_region 1 with fail
  refine gen_world fun W hW1 => ?_
  have hk : W.heap[w.heap.size]? = some (.cells #[.int .i64 rp, .int .i64 rn, .string ra, .string rb, .string rc] 24 (0, 0)) := by subst hW1; exact blk_new _ _
  have hA : Below w.heap.size w W := by subst hW1; (repeat (first | exact Below.refl _ _ | (refine bl_alloc ?_ _) | (refine bl_drewN ?_ _) | (refine bl_drew ?_) | (refine bl_call (by assumption) ?_) | (refine bl_set _ _ (by simp <;> omega) ?_) | assumption))
  clear hW1
  have ht1 := Lib.hid (tabP_below ht.out rfl hA)
  have hm1 := Lib.hid (maxL_grow hm.out hA)
  clear ht hm
  go_upto_region 3 with (go_at_call 5; refine (hW.out _ ht1.out hm1.out).mono ?_; rintro e w5 ⟨rfl, hb⟩)
  have kr := grow_blk hb hk
  have hA5 := bl_call hb hA
  have ht5 := Lib.hid (tabP_below ht1.out rfl hb)
  have hm5 := Lib.hid (maxL_grow hm1.out hb)
  clear hk hA hb ht1 hm1 hW
  have c0 : w5.cell? ⟨w.heap.size, 0, none⟩ = some (.int .i64 rp) := blk_cell kr 0
  have c1 : w5.cell? ⟨w.heap.size, 1, none⟩ = some (.int .i64 rn) := blk_cell kr 1
  have c2 : w5.cell? ⟨w.heap.size, 2, none⟩ = some (.string ra) := blk_cell kr 2
  have c3 : w5.cell? ⟨w.heap.size, 3, none⟩ = some (.string rb) := blk_cell kr 3
  have c4 : w5.cell? ⟨w.heap.size, 4, none⟩ = some (.string rc) := blk_cell kr 4
  clear kr
  go_wp2_with fail
  exact bodyPost_ret (v := .bool true) (by simp [results, Tryz.results4, go_sem]) rfl ⟨rfl, hA5⟩
set_option maxHeartbeats 2000000 in
theorem Back_no (r : Rcd) (ha : ¬ 100 < r.a.size) (hb : ¬ 100 < r.b.size) (hc : ¬ 100 < r.c.size) (he : chkR r ≠ 0) (w : World) (ht : TabP w) (hm : MaxL w) : Calls Tryz.prog 4 #[recV r] w fun x w' => x = .returned (.bool true) ∧ Below w.heap.size w w' := by
  have hW := Lib.hid (fun w ht hm => awake26_c w ht hm)
  replace ht := Lib.hid ht
  replace hm := Lib.hid hm
  have hE := fun w => rEnc_no r he w
  have hQ := fun w => rErr_c r w
  have hR := fun w => Right_c r w
  obtain ⟨rp, rn, ra, rb, rc⟩ := r
  simp only at ha hb hc
  unfold recV at hE hR ⊢
  simp only at hE hQ hR ⊢
  have qa : ¬ 100 < (ra.size : Int) := by omega
  have da : decide (100 < (ra.size : Int)) = false := by simp; omega
  have qb : ¬ 100 < (rb.size : Int) := by omega
  have db : decide (100 < (rb.size : Int)) = false := by simp; omega
  have qc : ¬ 100 < (rc.size : Int) := by omega
  have dc : decide (100 < (rc.size : Int)) = false := by simp; omega
  generalize chkR _ = E at he hE hQ hR
  have e0 : (E == 0) = false := beq_eq_false_iff_ne.2 he
  have e1 : (E != 0) = true := bne_iff_ne.2 he
  have e2 : (E != E) = false := by simp
  rw [e0] at hR
  replace hE := Lib.hid hE
  replace hQ := Lib.hid hQ
  replace hR := Lib.hid hR
  clear ha hb hc
  go_enter Tryz.func4, Tryz.ntmps4
  go_upto_region 1 with fail
  refine gen_world fun W hW1 => ?_
  have hk : W.heap[w.heap.size]? = some (.cells #[.int .i64 rp, .int .i64 rn, .string ra, .string rb, .string rc] 24 (0, 0)) := by subst hW1; exact blk_new _ _
  have hA : Below w.heap.size w W := by subst hW1; (repeat (first | exact Below.refl _ _ | (refine bl_alloc ?_ _) | (refine bl_drewN ?_ _) | (refine bl_drew ?_) | (refine bl_call (by assumption) ?_) | (refine bl_set _ _ (by simp <;> omega) ?_) | assumption))
  clear hW1
  have ht1 := Lib.hid (tabP_below ht.out rfl hA)
  have hm1 := Lib.hid (maxL_grow hm.out hA)
  clear ht hm
  go_upto_region 3 with (go_at_call 5; refine (hW.out _ ht1.out hm1.out).mono ?_; rintro e w5 ⟨rfl, hb⟩)
  have kr := grow_blk hb hk
  have hA5 := bl_call hb hA
  have ht5 := Lib.hid (tabP_below ht1.out rfl hb)
  have hm5 := Lib.hid (maxL_grow hm1.out hb)
  clear hk hA hb ht1 hm1 hW
  have c0 : w5.cell? ⟨w.heap.size, 0, none⟩ = some (.int .i64 rp) := blk_cell kr 0
  have c1 : w5.cell? ⟨w.heap.size, 1, none⟩ = some (.int .i64 rn) := blk_cell kr 1
  have c2 : w5.cell? ⟨w.heap.size, 2, none⟩ = some (.string ra) := blk_cell kr 2
  have c3 : w5.cell? ⟨w.heap.size, 3, none⟩ = some (.string rb) := blk_cell kr 3
  have c4 : w5.cell? ⟨w.heap.size, 4, none⟩ = some (.string rc) := blk_cell kr 4
  clear ht5 hm5
  go_upto_region 6 with (go_at_call 8; refine (hE.out _).mono ?_; rintro e w6 ⟨rfl, hb6⟩)
  have k6 := grow_blk hb6 kr
  have hA6 := bl_call hb6 hA5
  clear kr hA5 hb6 c0 c1 c2 c3 c4 hE
  have c0 : w6.cell? ⟨w.heap.size, 0, none⟩ = some (.int .i64 rp) := blk_cell k6 0
  have c1 : w6.cell? ⟨w.heap.size, 1, none⟩ = some (.int .i64 rn) := blk_cell k6 1
  have c2 : w6.cell? ⟨w.heap.size, 2, none⟩ = some (.string ra) := blk_cell k6 2
  have c3 : w6.cell? ⟨w.heap.size, 3, none⟩ = some (.string rb) := blk_cell k6 3
  have c4 : w6.cell? ⟨w.heap.size, 4, none⟩ = some (.string rc) := blk_cell k6 4
  go_upto_region 7 with (go_at_call 9; refine (hQ.out _).mono ?_; rintro e w7 ⟨rfl, hb7⟩)
  have k7 := grow_blk hb7 k6
  have hA7 := bl_call hb7 hA6
  clear k6 hA6 hb7 c0 c1 c2 c3 c4 hQ
  have c0 : w7.cell? ⟨w.heap.size, 0, none⟩ = some (.int .i64 rp) := blk_cell k7 0
  have c1 : w7.cell? ⟨w.heap.size, 1, none⟩ = some (.int .i64 rn) := blk_cell k7 1
  have c2 : w7.cell? ⟨w.heap.size, 2, none⟩ = some (.string ra) := blk_cell k7 2
  have c3 : w7.cell? ⟨w.heap.size, 3, none⟩ = some (.string rb) := blk_cell k7 3
  have c4 : w7.cell? ⟨w.heap.size, 4, none⟩ = some (.string rc) := blk_cell k7 4
  clear k7
  go_wp2_with (go_at_call 10; refine (hR.out _).mono ?_; rintro e w8 ⟨rfl, hb8⟩)
  all_goals exact bodyPost_ret (v := .bool true) (by simp [results, Tryz.results4, go_sem]) rfl ⟨rfl, bl_call hb8 hA7⟩
set_option maxHeartbeats 2000000 in
theorem Back_yes (r : Rcd) (ha : ¬ 100 < r.a.size) (hb : ¬ 100 < r.b.size) (hc : ¬ 100 < r.c.size) (he : chkR r = 0) (w : World) (ht : TabP w) (hm : MaxL w) : Calls Tryz.prog 4 #[recV r] w fun x w' => x = .returned (.bool true) ∧ Below w.heap.size w w' := by
  have hW := Lib.hid (fun w ht hm => awake26_c w ht hm)
  replace ht := Lib.hid ht
  replace hm := Lib.hid hm
  have hE := fun w ht => rEnc_c r he w ht
  have hQ := fun w => rErr_c r w
  have hR := fun w => Right_c r w
  have hD := fun w hm => recDec_c (textR r) w hm
  have hX := fun w => rText_c r he w
  rw [dec_text r he] at hD
  rw [he] at hQ hR
  simp only [drV] at hD
  generalize textR r = T at hE hD hX
  obtain ⟨rp, rn, ra, rb, rc⟩ := r
  simp only at ha hb hc
  unfold recV at hE hR hD ⊢
  simp only at hE hQ hR hX hD ⊢
  have qa : ¬ 100 < (ra.size : Int) := by omega
  have da : decide (100 < (ra.size : Int)) = false := by simp; omega
  have qb : ¬ 100 < (rb.size : Int) := by omega
  have db : decide (100 < (rb.size : Int)) = false := by simp; omega
  have qc : ¬ 100 < (rc.size : Int) := by omega
  have dc : decide (100 < (rc.size : Int)) = false := by simp; omega
  have e0 : ((0 : Int) == 0) = true := rfl
  rw [e0] at hR
  clear e0 he
  replace hE := Lib.hid hE
  replace hQ := Lib.hid hQ
  replace hR := Lib.hid hR
  replace hD := Lib.hid hD
  replace hX := Lib.hid hX
  clear ha hb hc
  go_enter Tryz.func4, Tryz.ntmps4
  go_upto_region 1 with fail
  refine gen_world fun W hW1 => ?_
  have hk : W.heap[w.heap.size]? = some (.cells #[.int .i64 rp, .int .i64 rn, .string ra, .string rb, .string rc] 24 (0, 0)) := by subst hW1; exact blk_new _ _
  have hA : Below w.heap.size w W := by subst hW1; (repeat (first | exact Below.refl _ _ | (refine bl_alloc ?_ _) | (refine bl_drewN ?_ _) | (refine bl_drew ?_) | (refine bl_call (by assumption) ?_) | (refine bl_set _ _ (by simp <;> omega) ?_) | assumption))
  clear hW1
  have ht1 := Lib.hid (tabP_below ht.out rfl hA)
  have hm1 := Lib.hid (maxL_grow hm.out hA)
  clear ht hm
  go_upto_region 3 with (go_at_call 5; refine (hW.out _ ht1.out hm1.out).mono ?_; rintro e w5 ⟨rfl, hb⟩)
  have kr := grow_blk hb hk
  have hA5 := bl_call hb hA
  have ht5 := Lib.hid (tabP_below ht1.out rfl hb)
  have hm5 := Lib.hid (maxL_grow hm1.out hb)
  clear hk hA hb ht1 hm1 hW
  have c0 : w5.cell? ⟨w.heap.size, 0, none⟩ = some (.int .i64 rp) := blk_cell kr 0
  have c1 : w5.cell? ⟨w.heap.size, 1, none⟩ = some (.int .i64 rn) := blk_cell kr 1
  have c2 : w5.cell? ⟨w.heap.size, 2, none⟩ = some (.string ra) := blk_cell kr 2
  have c3 : w5.cell? ⟨w.heap.size, 3, none⟩ = some (.string rb) := blk_cell kr 3
  have c4 : w5.cell? ⟨w.heap.size, 4, none⟩ = some (.string rc) := blk_cell kr 4
  go_upto_region 6 with (go_at_call 8; refine (hE.out _ ht5.out).mono ?_; rintro e w6 ⟨rfl, hb6⟩)
  have k6 := grow_blk hb6 kr
  have hA6 := bl_call hb6 hA5
  have hm6 := Lib.hid (maxL_grow hm5.out hb6)
  clear kr hA5 hb6 c0 c1 c2 c3 c4 hE ht5 hm5
  have c0 : w6.cell? ⟨w.heap.size, 0, none⟩ = some (.int .i64 rp) := blk_cell k6 0
  have c1 : w6.cell? ⟨w.heap.size, 1, none⟩ = some (.int .i64 rn) := blk_cell k6 1
  have c2 : w6.cell? ⟨w.heap.size, 2, none⟩ = some (.string ra) := blk_cell k6 2
  have c3 : w6.cell? ⟨w.heap.size, 3, none⟩ = some (.string rb) := blk_cell k6 3
  have c4 : w6.cell? ⟨w.heap.size, 4, none⟩ = some (.string rc) := blk_cell k6 4
  go_upto_region 7 with (go_at_call 9; refine (hQ.out _).mono ?_; rintro e w7 ⟨rfl, hb7⟩)
  have k7 := grow_blk hb7 k6
  have hA7 := bl_call hb7 hA6
  have hm7 := Lib.hid (maxL_grow hm6.out hb7)
  clear k6 hA6 hb7 c0 c1 c2 c3 c4 hQ hm6
  have c0 : w7.cell? ⟨w.heap.size, 0, none⟩ = some (.int .i64 rp) := blk_cell k7 0
  have c1 : w7.cell? ⟨w.heap.size, 1, none⟩ = some (.int .i64 rn) := blk_cell k7 1
  have c2 : w7.cell? ⟨w.heap.size, 2, none⟩ = some (.string ra) := blk_cell k7 2
  have c3 : w7.cell? ⟨w.heap.size, 3, none⟩ = some (.string rb) := blk_cell k7 3
  have c4 : w7.cell? ⟨w.heap.size, 4, none⟩ = some (.string rc) := blk_cell k7 4
  go_upto_region 9 with (go_at_call 10; refine (hR.out _).mono ?_; rintro e w8 ⟨rfl, hb8⟩)
  have k8 := grow_blk hb8 k7
  have hA8 := bl_call hb8 hA7
  have hm8 := Lib.hid (maxL_grow hm7.out hb8)
  clear k7 hA7 hb8 c0 c1 c2 c3 c4 hR hm7
  go_upto_region 12 with (go_at_call 6; refine (hD.out _ hm8.out).mono ?_; rintro e w9 ⟨rfl, hb9⟩)
  have k9 := grow_blk hb9 k8
  have hA9 := bl_call hb9 hA8
  clear k8 hA8 hb9 hD hm8
  refine gen_world fun W10 hW10 => ?_
  obtain ⟨B, hB⟩ : ∃ B, B = w9.heap.size := ⟨_, rfl⟩
  rw [← hB]
  have k10 : W10.heap[w.heap.size]? = some (.cells #[.int .i64 rp, .int .i64 rn, .string ra, .string rb, .string rc] 24 (0, 0)) := by rw [hW10]; exact blk_alloc k9 _
  have kB : W10.heap[B]? = some (.cells #[.int .i64 rp, .int .i64 rn, .string ra, .string rb, .string rc] 24 (0, 0)) := by rw [hW10]; exact blk_new' hB _
  have hA10 : Below w.heap.size w W10 := by rw [hW10]; (repeat (first | exact Below.refl _ _ | (refine bl_alloc ?_ _) | (refine bl_drewN ?_ _) | (refine bl_drew ?_) | (refine bl_call (by assumption) ?_) | (refine bl_set _ _ (by simp <;> omega) ?_) | assumption))
  clear hW10 k9 hA9 hB
  have c0 : W10.cell? ⟨w.heap.size, 0, none⟩ = some (.int .i64 rp) := blk_cell k10 0
  have c1 : W10.cell? ⟨w.heap.size, 1, none⟩ = some (.int .i64 rn) := blk_cell k10 1
  have c2 : W10.cell? ⟨w.heap.size, 2, none⟩ = some (.string ra) := blk_cell k10 2
  have c3 : W10.cell? ⟨w.heap.size, 3, none⟩ = some (.string rb) := blk_cell k10 3
  have c4 : W10.cell? ⟨w.heap.size, 4, none⟩ = some (.string rc) := blk_cell k10 4
  have b0 : W10.cell? ⟨B, 0, none⟩ = some (.int .i64 rp) := blk_cell kB 0
  have b1 : W10.cell? ⟨B, 1, none⟩ = some (.int .i64 rn) := blk_cell kB 1
  have b2 : W10.cell? ⟨B, 2, none⟩ = some (.string ra) := blk_cell kB 2
  have b3 : W10.cell? ⟨B, 3, none⟩ = some (.string rb) := blk_cell kB 3
  have b4 : W10.cell? ⟨B, 4, none⟩ = some (.string rc) := blk_cell kB 4
  clear k10 kB
  go_wp2_with (go_at_call 11; refine (hX.out _).mono ?_; rintro e w11 ⟨rfl, hb11⟩; replace c0 := grow_cell hb11 c0; replace c1 := grow_cell hb11 c1; replace c2 := grow_cell hb11 c2; replace c3 := grow_cell hb11 c3; replace c4 := grow_cell hb11 c4; replace b0 := grow_cell hb11 b0; replace b1 := grow_cell hb11 b1; replace b2 := grow_cell hb11 b2; replace b3 := grow_cell hb11 b3; replace b4 := grow_cell hb11 b4)
  all_goals exact bodyPost_ret (v := .bool true) (by simp [results, Tryz.results4, go_sem]) rfl ⟨rfl, bl_call hb11 hA10⟩
theorem RecordBack_c (r : Rcd) (w : World) (ht : TabP w) (hm : MaxL w) : Calls Tryz.prog 4 #[recV r] w fun x w' => x = .returned (.bool true) ∧ Below w.heap.size w w' := by
  by_cases h1 : 100 < r.a.size
  · exact Back_a r h1 trivial trivial w ht hm
  by_cases h2 : 100 < r.b.size
  · exact Back_b r h1 h2 trivial w ht hm
  by_cases h3 : 100 < r.c.size
  · exact Back_c r h1 h2 h3 w ht hm
  by_cases h4 : chkR r = 0
  · exact Back_yes r h1 h2 h3 h4 w ht hm
  · exact Back_no r h1 h2 h3 h4 w ht hm
end Go.Proofs.YtkbgcmfldfbcgaaGreatDoor

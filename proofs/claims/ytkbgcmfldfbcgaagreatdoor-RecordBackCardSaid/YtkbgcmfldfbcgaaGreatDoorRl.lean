/- The contracts of RecordAny and RecordBack. -/
import Derived.Test.YtkbgcmfldfbcgaaGreatDoorRk
namespace Go.Proofs.YtkbgcmfldfbcgaaGreatDoor
open Go.RowKit
set_option maxRecDepth 100000
set_option linter.unusedSimpArgs false
set_option linter.unusedVariables false
theorem badR_ne (s : ByteArray) (e : Int) (h : decR s = .bad e) : e ≠ 0 := by
  unfold decR at h
  repeat' split at h
  all_goals first | (injection h with h; omega) | cases h
theorem maxL_grow {w w' : World} (h : MaxL w) (hb : Below w.heap.size w w') : MaxL w' := by
  obtain ⟨m, hm⟩ := h
  exact ⟨m, grow_cell hb hm⟩
set_option maxHeartbeats 2000000 in
theorem RecordAny_c (s : ByteArray) (w : World) (ht : TabP w) (hm : MaxL w) : Calls Tryz.prog 3 #[.string s] w fun x w' => x = .returned (.bool true) ∧ Below w.heap.size w w' := by
  have hW := Lib.hid (fun w ht hm => awake26_c w ht hm)
  by_cases hz : 2500 < s.size
  · have hz' : 2500 < (s.size : Int) := by omega
    clear hz
    replace ht := Lib.hid ht
    replace hm := Lib.hid hm
    go_enter Tryz.func3, Tryz.ntmps3
    go_wp2_with (go_at_call 5; refine (hW.out _ ht.out hm.out).mono ?_; rintro e w5 ⟨rfl, hb⟩)
    exact bodyPost_ret (v := .bool true) (by simp [results, Tryz.results3, go_sem]) rfl ⟨rfl, hb⟩
  have hz' : ¬ 2500 < (s.size : Int) := by omega
  clear hz
  have hD := fun w hm => recDec_c s w hm
  have hQ := fun w => qDecode_c s w
  cases hd : decR s with
  | bad e =>
    have he := badR_ne s e hd
    rw [hd] at hD hQ
    simp only [drV, recV, noR] at hD hQ
    have e0 : (e != 0) = true := bne_iff_ne.2 he
    clear hd
    replace hD := Lib.hid hD
    replace hQ := Lib.hid hQ
    replace ht := Lib.hid ht
    replace hm := Lib.hid hm
    go_enter Tryz.func3, Tryz.ntmps3
    go_upto_region 3 with (go_at_call 5; refine (hW.out _ ht.out hm.out).mono ?_; rintro e w5 ⟨rfl, hb⟩)
    have hm5 := maxL_grow hm.out hb
    replace hm5 := Lib.hid hm5
    clear hW ht hm
    go_upto_region 6 with (go_at_call 6; refine (hD.out _ hm5.out).mono ?_; rintro e w6 ⟨rfl, hb6⟩)
    have hA6 := bl_call hb6 hb
    clear hb hb6 hD hm5
    refine gen_world fun W7 hW => ?_
    obtain ⟨A, hA⟩ : ∃ A, A = w6.heap.size := ⟨_, rfl⟩
    rw [← hA]
    have kA : W7.heap[A]? = some (.cells #[.int .i64 0, .int .i64 0, .string ⟨#[]⟩, .string ⟨#[]⟩, .string ⟨#[]⟩] 24 (0, 0)) := by rw [hW]; exact blk_new' hA _
    have hA7 : Below w.heap.size w W7 := by rw [hW]; (repeat (first | exact Below.refl _ _ | (refine bl_alloc ?_ _) | (refine bl_drewN ?_ _) | (refine bl_drew ?_) | (refine bl_call (by assumption) ?_) | (refine bl_set _ _ (by simp <;> omega) ?_) | assumption))
    clear hW hA hA6
    go_upto_region 7 with (go_at_call 7; refine (hQ.out _).mono ?_; rintro e w8 ⟨rfl, hb8⟩)
    have kA8 := grow_blk hb8 kA
    have hA8 := bl_call hb8 hA7
    clear kA hb8 hA7 hQ
    refine gen_world fun W9 hW => ?_
    obtain ⟨B, hB⟩ : ∃ B, B = w8.heap.size := ⟨_, rfl⟩
    rw [← hB]
    have kA : W9.heap[A]? = some (.cells #[.int .i64 0, .int .i64 0, .string ⟨#[]⟩, .string ⟨#[]⟩, .string ⟨#[]⟩] 24 (0, 0)) := by rw [hW]; exact blk_alloc kA8 _
    have kB : W9.heap[B]? = some (.cells #[.int .i64 0, .int .i64 0, .string ⟨#[]⟩, .string ⟨#[]⟩, .string ⟨#[]⟩] 24 (0, 0)) := by rw [hW]; exact blk_new' hB _
    have hA9 : Below w.heap.size w W9 := by rw [hW]; (repeat (first | exact Below.refl _ _ | (refine bl_alloc ?_ _) | (refine bl_drewN ?_ _) | (refine bl_drew ?_) | (refine bl_call (by assumption) ?_) | (refine bl_set _ _ (by simp <;> omega) ?_) | assumption))
    clear hW hB hA8 kA8
    have a0 : W9.cell? ⟨A, 0, none⟩ = some (.int .i64 0) := blk_cell kA 0
    have a1 : W9.cell? ⟨A, 1, none⟩ = some (.int .i64 0) := blk_cell kA 1
    have a2 : W9.cell? ⟨A, 2, none⟩ = some (.string ⟨#[]⟩) := blk_cell kA 2
    have a3 : W9.cell? ⟨A, 3, none⟩ = some (.string ⟨#[]⟩) := blk_cell kA 3
    have a4 : W9.cell? ⟨A, 4, none⟩ = some (.string ⟨#[]⟩) := blk_cell kA 4
    have b0 : W9.cell? ⟨B, 0, none⟩ = some (.int .i64 0) := blk_cell kB 0
    have b1 : W9.cell? ⟨B, 1, none⟩ = some (.int .i64 0) := blk_cell kB 1
    have b2 : W9.cell? ⟨B, 2, none⟩ = some (.string ⟨#[]⟩) := blk_cell kB 2
    have b3 : W9.cell? ⟨B, 3, none⟩ = some (.string ⟨#[]⟩) := blk_cell kB 3
    have b4 : W9.cell? ⟨B, 4, none⟩ = some (.string ⟨#[]⟩) := blk_cell kB 4
    clear kA kB
    go_wp2_with fail
    all_goals exact bodyPost_ret (v := .bool true) (by simp [results, Tryz.results3, go_sem]) rfl ⟨rfl, hA9⟩
  | ok r =>
    obtain ⟨hc, hT⟩ := text_dec s r hd
    have hE := fun w ht => rEnc_c r hc w ht
    rw [hT] at hE
    rw [hd] at hD hQ
    simp only [drV] at hD hQ
    unfold recV at hD hQ hE
    obtain ⟨rp, rn, ra, rb, rc⟩ := r
    simp only at hD hQ hE
    clear hd hc hT
    replace hD := Lib.hid hD
    replace hQ := Lib.hid hQ
    replace hE := Lib.hid hE
    replace ht := Lib.hid ht
    replace hm := Lib.hid hm
    go_enter Tryz.func3, Tryz.ntmps3
    go_upto_region 3 with (go_at_call 5; refine (hW.out _ ht.out hm.out).mono ?_; rintro e w5 ⟨rfl, hb⟩)
    have hm5 := maxL_grow hm.out hb
    replace hm5 := Lib.hid hm5
    clear hW hm
    go_upto_region 6 with (go_at_call 6; refine (hD.out _ hm5.out).mono ?_; rintro e w6 ⟨rfl, hb6⟩)
    have hA6 := bl_call hb6 hb
    clear hb hb6 hD hm5
    refine gen_world fun W7 hW => ?_
    obtain ⟨A, hA⟩ : ∃ A, A = w6.heap.size := ⟨_, rfl⟩
    rw [← hA]
    have kA : W7.heap[A]? = some (.cells #[.int .i64 rp, .int .i64 rn, .string ra, .string rb, .string rc] 24 (0, 0)) := by rw [hW]; exact blk_new' hA _
    have hA7 : Below w.heap.size w W7 := by rw [hW]; (repeat (first | exact Below.refl _ _ | (refine bl_alloc ?_ _) | (refine bl_drewN ?_ _) | (refine bl_drew ?_) | (refine bl_call (by assumption) ?_) | (refine bl_set _ _ (by simp <;> omega) ?_) | assumption))
    clear hW hA hA6
    go_upto_region 7 with (go_at_call 7; refine (hQ.out _).mono ?_; rintro e w8 ⟨rfl, hb8⟩)
    have kA8 := grow_blk hb8 kA
    have hA8 := bl_call hb8 hA7
    clear kA hb8 hA7 hQ
    refine gen_world fun W9 hW => ?_
    obtain ⟨B, hB⟩ : ∃ B, B = w8.heap.size := ⟨_, rfl⟩
    rw [← hB]
    have kA : W9.heap[A]? = some (.cells #[.int .i64 rp, .int .i64 rn, .string ra, .string rb, .string rc] 24 (0, 0)) := by rw [hW]; exact blk_alloc kA8 _
    have kB : W9.heap[B]? = some (.cells #[.int .i64 rp, .int .i64 rn, .string ra, .string rb, .string rc] 24 (0, 0)) := by rw [hW]; exact blk_new' hB _
    have hA9 : Below w.heap.size w W9 := by rw [hW]; (repeat (first | exact Below.refl _ _ | (refine bl_alloc ?_ _) | (refine bl_drewN ?_ _) | (refine bl_drew ?_) | (refine bl_call (by assumption) ?_) | (refine bl_set _ _ (by simp <;> omega) ?_) | assumption))
    clear hW hB hA8 kA8
    have ht9 := Lib.hid (tabP_below ht.out rfl hA9)
    have a0 : W9.cell? ⟨A, 0, none⟩ = some (.int .i64 rp) := blk_cell kA 0
    have a1 : W9.cell? ⟨A, 1, none⟩ = some (.int .i64 rn) := blk_cell kA 1
    have a2 : W9.cell? ⟨A, 2, none⟩ = some (.string ra) := blk_cell kA 2
    have a3 : W9.cell? ⟨A, 3, none⟩ = some (.string rb) := blk_cell kA 3
    have a4 : W9.cell? ⟨A, 4, none⟩ = some (.string rc) := blk_cell kA 4
    have b0 : W9.cell? ⟨B, 0, none⟩ = some (.int .i64 rp) := blk_cell kB 0
    have b1 : W9.cell? ⟨B, 1, none⟩ = some (.int .i64 rn) := blk_cell kB 1
    have b2 : W9.cell? ⟨B, 2, none⟩ = some (.string ra) := blk_cell kB 2
    have b3 : W9.cell? ⟨B, 3, none⟩ = some (.string rb) := blk_cell kB 3
    have b4 : W9.cell? ⟨B, 4, none⟩ = some (.string rc) := blk_cell kB 4
    clear kA kB ht
    go_wp2_with (go_at_call 8; refine (hE.out _ ht9.out).mono ?_; rintro e w10 ⟨rfl, hb10⟩)
    all_goals exact bodyPost_ret (v := .bool true) (by simp [results, Tryz.results3, go_sem]) rfl ⟨rfl, bl_call hb10 hA9⟩
theorem Right_c (r : Rcd) (w : World) : Calls Tryz.prog 10 #[recV r] w fun x w' => x = .returned (.bool (chkR r == 0)) ∧ Below w.heap.size w w' := by
  have hC := Lib.hid (fun w => check_c r w)
  obtain ⟨rp, rn, ra, rb, rc⟩ := r
  generalize chkR _ = E at hC ⊢
  unfold recV at hC ⊢
  simp only at hC ⊢
  go_enter Tryz.func10, Tryz.ntmps10
  go_upto_region 1 with fail
  refine gen_world fun W hW => ?_
  have hk : W.heap[w.heap.size]? = some (.cells #[.int .i64 rp, .int .i64 rn, .string ra, .string rb, .string rc] 24 (0, 0)) := by subst hW; exact blk_new _ _
  have hA : Below w.heap.size w W := by subst hW; (repeat (first | exact Below.refl _ _ | (refine bl_alloc ?_ _) | (refine bl_drewN ?_ _) | (refine bl_drew ?_) | (refine bl_call (by assumption) ?_) | (refine bl_set _ _ (by simp <;> omega) ?_) | assumption))
  clear hW
  have c0 : W.cell? ⟨w.heap.size, 0, none⟩ = some (.int .i64 rp) := blk_cell hk 0
  have c1 : W.cell? ⟨w.heap.size, 1, none⟩ = some (.int .i64 rn) := blk_cell hk 1
  have c2 : W.cell? ⟨w.heap.size, 2, none⟩ = some (.string ra) := blk_cell hk 2
  have c3 : W.cell? ⟨w.heap.size, 3, none⟩ = some (.string rb) := blk_cell hk 3
  have c4 : W.cell? ⟨w.heap.size, 4, none⟩ = some (.string rc) := blk_cell hk 4
  clear hk
  go_wp2_with (go_at_call 23; refine (hC.out _).mono ?_; rintro e w5 ⟨rfl, hb⟩)
  exact bodyPost_ret (v := .bool (E == 0)) (by simp [results, Tryz.results10, go_sem]) rfl ⟨rfl, bl_call hb hA⟩
end Go.Proofs.YtkbgcmfldfbcgaaGreatDoor

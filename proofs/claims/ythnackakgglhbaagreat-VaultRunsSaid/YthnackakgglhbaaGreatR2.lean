/- Contract of sabretacheref16.Step. -/
import Derived.Test.YthnackakgglhbaaGreatR1
import Derived.Deep.OwnRows
namespace Go.Proofs.YthnackakgglhbaaGreat
open Go.RowKit
set_option maxRecDepth 100000
set_option linter.unusedSimpArgs false
set_option linter.unusedVariables false
attribute [local go_sem] evR_tmp evR_const evR_global evR_func xor_iw and_iw or_iw not_iw not_iw' add_iw sub_iw neg_iw shl_iwI shr_iwI IntKind.wrap_u32' shr10 shr3 shr24 shr16 shr8 shl8 great_eq small_eq
theorem round8_eq (k w a b c d e f g h : W32) : round8 k w [a, b, c, d, e, f, g, h] = [onew e f g h k w + twow a b c, a, b, c, d + onew e f g h k w, e, f, g] := by
  simp [round8, sumw]
theorem not_iw3 (x : W32) : bits .xor .u32 (if IntKind.u32.signed = true then -1 else IntKind.u32.max) (iw x) = iw (~~~x) := not_iw x
attribute [local go_sem] not_iw3
set_option maxHeartbeats 8000000 in
theorem rStep_c (h b : List W32) (hh : h.length = 8) (hb : b.length = 16) (w : World) : Calls Tryz.prog 52 #[.agg (cw h), .agg (cw b)] w fun e w' => e = .returned (.agg (cw (stepw h b))) ∧ Below w.heap.size w w' := by
  have L8 := Lib.hid hh
  have L16 := Lib.hid hb
  clear hh hb
  go_enter Tryz.func52, Tryz.ntmps52
  go_upto_region 1 with (fail)
  refine gen_world fun W hW => ?_
  have k2 : W.heap[w.heap.size]? = some (.cells (cw h) 54 (0, 0)) := by subst hW; (repeat (first | (with_reducible assumption) | ((with_reducible refine blk_new' ?_ _); (simp; done)) | ((with_reducible refine blk_alloc ?_ _)) | ((with_reducible refine blk_far ?_ ?_ _); (simp <;> omega))))
  have k3 : W.heap[w.heap.size + 1]? = some (.cells (cw b) 89 (0, 0)) := by subst hW; (repeat (first | (with_reducible assumption) | ((with_reducible refine blk_new' ?_ _); (simp; done)) | ((with_reducible refine blk_alloc ?_ _)) | ((with_reducible refine blk_far ?_ ?_ _); (simp <;> omega))))
  have k4 : W.heap[w.heap.size + 1 + 1]? = some (.cells (Array.replicate 8 (.int .u32 0)) 54 (0, 0)) := by subst hW; exact blk_new' (by simp) _
  have HB : Below w.heap.size w W := by subst hW; (repeat (first | exact Below.refl _ _ | (refine bl_alloc ?_ _) | (refine bl_drewN ?_ _) | (refine bl_drew ?_) | (refine bl_call (by assumption) ?_) | (refine bl_set _ _ (by simp <;> omega) ?_) | assumption))
  clear hW
  have q4 := blk_lt k4
  go_upto_region 2 with (go_at_call 74; refine (table_c _).mono ?_; rintro e w1 ⟨g5, rfl, l5, k5, hw1⟩)
  replace k2 := grow_blk hw1 k2
  replace k3 := grow_blk hw1 k3
  replace k4 := grow_blk hw1 k4
  replace HB := bl_call hw1 HB
  have m5 : w.heap.size + 1 + 1 < g5 := by omega
  clear hw1 l5 q4
  have q5 := blk_lt k5
  obtain ⟨i, hi, hz0, hz1, hz2⟩ := info_parts (P := Tryz.prog) (e := 53) (z := .int .u32 0) (size := 1) (bytes := 4) (by kernel_rfl)
  refine wp_region_lit ?_
  refine wpList_make_row _ rfl _ _ 110 rfl 53 i (.int .u32 0) Tryz.underlying110 hi hz0 hz1 rfl .i64 .i64 64 rfl rfl (by omega) (by omega) ?_
  refine gen_list fun W2 hW => ?_
  have k6 : W2.heap[w1.heap.size]? = some (.cells (cw (wAt b 0)) 53 (0, 0)) := by subst hW; rw [show wAt b 0 = padTo 64 [] from rfl, padTo_nil]; exact (blk_new _ _).trans (by kernel_rfl)
  replace k2 : W2.heap[w.heap.size]? = some (.cells (cw h) 54 (0, 0)) := by subst hW; exact blk_alloc k2 _
  replace k3 : W2.heap[w.heap.size + 1]? = some (.cells (cw b) 89 (0, 0)) := by subst hW; exact blk_alloc k3 _
  replace k4 : W2.heap[w.heap.size + 1 + 1]? = some (.cells (Array.replicate 8 (.int .u32 0)) 54 (0, 0)) := by subst hW; exact blk_alloc k4 _
  replace k5 : W2.heap[g5]? = some (.cells (cw kTab) 53 (0, 0)) := by subst hW; exact blk_alloc k5 _
  replace HB : Below w.heap.size w W2 := by subst hW; exact bl_alloc HB _
  have m56 : g5 < w1.heap.size := q5
  generalize w1.heap.size = g6 at *
  clear hW q5 hi hz0 hz1 hz2
  go_wp2_with fail
  have HB0 := HB
  have k20 := k2
  have k30 := k3
  have k40 := k4
  have k50 := k5
  have k60 := k6
  clear HB k2 k3 k4 k5 k6
  go_loopw [7] (fun i wr => ∃ n : Nat, n ≤ 64 ∧ i = .int .i64 (n : Int) ∧ Below w.heap.size w wr ∧ wr.heap[w.heap.size]? = some (.cells (cw h) 54 (0, 0)) ∧ wr.heap[w.heap.size + 1]? = some (.cells (cw b) 89 (0, 0)) ∧ wr.heap[w.heap.size + 1 + 1]? = some (.cells (Array.replicate 8 (.int .u32 0)) 54 (0, 0)) ∧ wr.heap[g5]? = some (.cells (cw kTab) 53 (0, 0)) ∧ wr.heap[g6]? = some (.cells (cw (wAt b n)) 53 (0, 0))) (fun i _ => 64 - (intOf i).toNat)
  case atStart => exact ⟨0, by omega, rfl, HB0, k20, k30, k40, k50, k60⟩
  case round =>
    clear HB0 k20 k30 k40 k50 k60
    obtain ⟨n, hn, rfl, HB, k2, k3, k4, k5, k6⟩ := hrel
    have pn : (0 : Int) ≤ (n : Int) := by omega
    by_cases hlt : n < 64
    · have hlt' : (n : Int) < 64 := by omega
      by_cases hlo : n < 16
      · have hlo' : (n : Int) < 16 := by omega
        have c3 := blk_cell k3 n
        rw [cw_at _ _ (by rw [L16.out]; exact hlo)] at c3
        go_upto_region 7 with (fail)
        refine wp_region_R 6 [3, 6, 7] (by kernel_rfl) (by kernel_rfl) (by kernel_rfl) (by kernel_rfl) ?_
        intro K_ ops_ hops_ hK
        replace hops_ := Lib.hid hops_
        apply Exists.intro
        intro R_ hb_
        simp only [↓baseR, ↓nthR_succ, ↓nthR_zero] at hb_
        simp only [List.take_succ_cons, List.take_zero, List.drop_succ_cons, List.drop_zero]
        repeat (first
          
          
          
          | (apply LexR_det (by rfl) (by rfl) (by rfl) (fun w1 hw1 hd1 => ?_) (fun _ hr_ => ?_); rotate_right 2; (go_simp; first | done | rfl | (rw [grow_cell hw1 c3]; focus ((try simp); first | done | rfl))))
          | (apply LexR_box (by rfl) (by rfl) (by rfl) (fun w1 hw1 hd1 => ?_) (fun _ hr_ => ?_); rotate_right 2; (go_simp; first | done | rfl))
          | (apply LexR_bs (t := 76) (e := 80) (z := .agg #[.int .u32 0]) (ho := rfl) (by rfl) (by rfl) Tryz.underlying76 (by kernel_rfl) (by decide) (by decide) (fun _ => ?_) (fun _ => ?_) (fun _ => ?_) (fun _ hr_ => ?_); rotate_right 4; (go_simp; rfl); (exact ⟨rfl, rfl, rfl⟩); (simp only [List.map_cons, List.map_nil, List.flatMap_cons, List.flatMap_nil, Value.cells, List.cons_append, List.nil_append, List.append_nil]; rfl)))
        apply LexR_end
        refine hK _ _ ?_
        clear hK K_
        repeat clear hr_
        clear hb_ R_ hops_ ops_
        intro w1 hw1 hf1
        apply tailR (fun _ => ?_) (fun _ => ?_) ?_
        rotate_right 2
        · simp only [putAll, Act.put, List.setIfInBounds_toArray, List.set_cons_succ, List.set_cons_zero]; first | done | rfl
        · simp only [List.drop_succ_cons, List.drop_zero]; first | done | rfl
        simp [allFacts, contOf, Exp.putAt, Exp.fact, Exp.fresh, Exp.blk] at hf1
        clear hf1 c3
        replace k2 := grow_blk hw1 k2
        replace k3 := grow_blk hw1 k3
        replace k4 := grow_blk hw1 k4
        replace k5 := grow_blk hw1 k5
        replace k6 := grow_blk hw1 k6
        replace HB := bl_call hw1 HB
        clear hw1
        have c6 := blk_cell k6 n
        rw [cw_at _ _ (by rw [wAt_len b L16.out n hn]; exact hlt)] at c6
        have f6 := blk_frozen k6 n
        go_wp2_with fail
        go_roundw
        case measure => simp [intOf]; omega
        refine ⟨n + 1, by omega, congrArg (Value.int .i64) (by omega), bl_set _ _ (by simp; omega) HB, blk_far k2 (by simp; omega) _, blk_far k3 (by simp; omega) _, blk_far k4 (by simp; omega) _, blk_far k5 (by simp; omega) _, ?_⟩
        rw [← wAt_low b L16.out n hlo, ← cw_set]
        exact blk_set k6 n _
      · obtain ⟨m, rfl⟩ : ∃ m, n = m + 16 := ⟨n - 16, by omega⟩
        have hlm : m < 48 := by omega
        rw [wAt_hi b L16.out m] at k6
        have L64 := Lib.hid (spreadAt_length b L16.out m (by omega))
        have lk6 := blk_lt k6
        have c14 := blk_cell k6 (m + 14)
        rw [cw_at _ _ (by rw [L64.out]; omega), spreadAt_at b L16.out _ _ (by omega)] at c14
        have hlo' : ¬ ((m : Int) + 16 < 16) := by omega
        have hlt2 : (m : Int) + 16 < 64 := by omega
        have e15 : IntKind.i64.wrap ((m : Int) + 16 - 15) = (m : Int) + 1 := by rw [IntWalk.i64_in _ (by omega)]; try omega
        have p15 : 0 ≤ (m : Int) + 1 := by omega
        have b15 : (m : Int) + 1 < 64 := by omega
        have t15 : ((m : Int) + 1).toNat = m + 1 := by omega
        have e2 : IntKind.i64.wrap ((m : Int) + 16 - 2) = (m : Int) + 14 := by rw [IntWalk.i64_in _ (by omega)]; try omega
        have p2 : 0 ≤ (m : Int) + 14 := by omega
        have b2 : (m : Int) + 14 < 64 := by omega
        have t2 : ((m : Int) + 14).toNat = m + 14 := by omega
        have e7 : IntKind.i64.wrap ((m : Int) + 16 - 7) = (m : Int) + 9 := by rw [IntWalk.i64_in _ (by omega)]; try omega
        have p7 : 0 ≤ (m : Int) + 9 := by omega
        have b7 : (m : Int) + 9 < 64 := by omega
        have t7 : ((m : Int) + 9).toNat = m + 9 := by omega
        have e16 : IntKind.i64.wrap ((m : Int)) = (m : Int) := by rw [IntWalk.i64_in _ (by omega)]; try omega
        have p16 : 0 ≤ (m : Int) := by omega
        have b16 : (m : Int) < 64 := by omega
        have t16 : ((m : Int)).toNat = m := by omega
        go_upto_region 8 with (fail)
        refine wp_region_R 21 [6, 7] (by kernel_rfl) (by kernel_rfl) (by kernel_rfl) (by kernel_rfl) ?_
        intro K_ ops_ hops_ hK
        replace hops_ := Lib.hid hops_
        apply Exists.intro
        intro R_ hb_
        simp only [↓baseR, ↓nthR_succ, ↓nthR_zero] at hb_
        simp only [List.take_succ_cons, List.take_zero, List.drop_succ_cons, List.drop_zero]
        repeat (first
          
          
          | (apply LexR_callF (f := 75) (by rfl) (by rfl) (by rfl) Tryz.func75 (by kernel_rfl) (by kernel_rfl) (fun _ => ?_) (fun w1 hw1 hd1 => ?_) (fun _ hr_ => ?_); rotate_right 3; (go_simp; first | done | rfl); exact (rot_c _ _ (by omega) (by omega) w1))
          | (apply LexR_det (by rfl) (by rfl) (by rfl) (fun w1 hw1 hd1 => ?_) (fun _ hr_ => ?_); rotate_right 2; (go_simp; first | done | rfl | (rw [grow_cell hw1 c14]; focus ((try simp); first | done | rfl))))
          | (apply LexR_box (by rfl) (by rfl) (by rfl) (fun w1 hw1 hd1 => ?_) (fun _ hr_ => ?_); rotate_right 2; (go_simp; first | done | rfl))
          | (apply LexR_bs (t := 76) (e := 80) (z := .agg #[.int .u32 0]) (ho := rfl) (by rfl) (by rfl) Tryz.underlying76 (by kernel_rfl) (by decide) (by decide) (fun _ => ?_) (fun _ => ?_) (fun _ => ?_) (fun _ hr_ => ?_); rotate_right 4; (go_simp; rfl); (exact ⟨rfl, rfl, rfl⟩); (simp only [List.map_cons, List.map_nil, List.flatMap_cons, List.flatMap_nil, Value.cells, List.cons_append, List.nil_append, List.append_nil]; rfl)))
        apply LexR_end
        refine hK _ _ ?_
        clear hK K_
        repeat clear hr_
        clear hb_ R_ hops_ ops_
        intro w1 hw1 hf1
        apply tailR (fun _ => ?_) (fun _ => ?_) ?_
        rotate_right 2
        · simp only [putAll, Act.put, List.setIfInBounds_toArray, List.set_cons_succ, List.set_cons_zero]; first | done | rfl
        · simp only [List.drop_succ_cons, List.drop_zero]; first | done | rfl
        simp [allFacts, contOf, Exp.putAt, Exp.fact, Exp.fresh, Exp.blk] at hf1
        clear hf1 c14 lk6
        replace k2 := grow_blk hw1 k2
        replace k3 := grow_blk hw1 k3
        replace k4 := grow_blk hw1 k4
        replace k5 := grow_blk hw1 k5
        replace k6 := grow_blk hw1 k6
        replace HB := bl_call hw1 HB
        clear hw1
        go_upto_region 9 with (fail)
        have lk6 := blk_lt k6
        have c1 := blk_cell k6 (m + 1)
        rw [cw_at _ _ (by rw [L64.out]; omega), spreadAt_at b L16.out _ _ (by omega)] at c1
        refine wp_region_R 21 [6, 7] (by kernel_rfl) (by kernel_rfl) (by kernel_rfl) (by kernel_rfl) ?_
        intro K_ ops_ hops_ hK
        replace hops_ := Lib.hid hops_
        apply Exists.intro
        intro R_ hb_
        simp only [↓baseR, ↓nthR_succ, ↓nthR_zero] at hb_
        simp only [List.take_succ_cons, List.take_zero, List.drop_succ_cons, List.drop_zero]
        repeat (first
          
          
          | (apply LexR_callF (f := 75) (by rfl) (by rfl) (by rfl) Tryz.func75 (by kernel_rfl) (by kernel_rfl) (fun _ => ?_) (fun w1 hw1 hd1 => ?_) (fun _ hr_ => ?_); rotate_right 3; (go_simp; first | done | rfl); exact (rot_c _ _ (by omega) (by omega) w1))
          | (apply LexR_det (by rfl) (by rfl) (by rfl) (fun w1 hw1 hd1 => ?_) (fun _ hr_ => ?_); rotate_right 2; (go_simp; first | done | rfl | (rw [grow_cell hw1 c1]; focus ((try simp); first | done | rfl))))
          | (apply LexR_box (by rfl) (by rfl) (by rfl) (fun w1 hw1 hd1 => ?_) (fun _ hr_ => ?_); rotate_right 2; (go_simp; first | done | rfl))
          | (apply LexR_bs (t := 76) (e := 80) (z := .agg #[.int .u32 0]) (ho := rfl) (by rfl) (by rfl) Tryz.underlying76 (by kernel_rfl) (by decide) (by decide) (fun _ => ?_) (fun _ => ?_) (fun _ => ?_) (fun _ hr_ => ?_); rotate_right 4; (go_simp; rfl); (exact ⟨rfl, rfl, rfl⟩); (simp only [List.map_cons, List.map_nil, List.flatMap_cons, List.flatMap_nil, Value.cells, List.cons_append, List.nil_append, List.append_nil]; rfl)))
        apply LexR_end
        refine hK _ _ ?_
        clear hK K_
        repeat clear hr_
        clear hb_ R_ hops_ ops_
        intro w1 hw1 hf1
        apply tailR (fun _ => ?_) (fun _ => ?_) ?_
        rotate_right 2
        · simp only [putAll, Act.put, List.setIfInBounds_toArray, List.set_cons_succ, List.set_cons_zero]; first | done | rfl
        · simp only [List.drop_succ_cons, List.drop_zero]; first | done | rfl
        simp [allFacts, contOf, Exp.putAt, Exp.fact, Exp.fresh, Exp.blk] at hf1
        clear hf1 c1 lk6
        replace k2 := grow_blk hw1 k2
        replace k3 := grow_blk hw1 k3
        replace k4 := grow_blk hw1 k4
        replace k5 := grow_blk hw1 k5
        replace k6 := grow_blk hw1 k6
        replace HB := bl_call hw1 HB
        clear hw1
        go_upto_region 10 with (fail)
        have lk6 := blk_lt k6
        have c9 := blk_cell k6 (m + 9)
        rw [cw_at _ _ (by rw [L64.out]; omega), spreadAt_at b L16.out _ _ (by omega)] at c9
        have c0 := blk_cell k6 (m)
        rw [cw_at _ _ (by rw [L64.out]; omega), spreadAt_at b L16.out _ _ (by omega)] at c0
        have t0 : ((m : Int) + 16).toNat = m + 16 := by omega
        refine wp_region_R 18 [6, 7, 8, 9] (by kernel_rfl) (by kernel_rfl) (by kernel_rfl) (by kernel_rfl) ?_
        intro K_ ops_ hops_ hK
        replace hops_ := Lib.hid hops_
        apply Exists.intro
        intro R_ hb_
        simp only [↓baseR, ↓nthR_succ, ↓nthR_zero] at hb_
        simp only [List.take_succ_cons, List.take_zero, List.drop_succ_cons, List.drop_zero]
        repeat (first
          
          
          
          | (apply LexR_det (by rfl) (by rfl) (by rfl) (fun w1 hw1 hd1 => ?_) (fun _ hr_ => ?_); rotate_right 2; (go_simp; first | done | rfl | (rw [grow_cell hw1 c9]; focus ((try simp); first | done | rfl)) | (rw [grow_cell hw1 c0]; focus ((try simp); first | done | rfl))))
          | (apply LexR_box (by rfl) (by rfl) (by rfl) (fun w1 hw1 hd1 => ?_) (fun _ hr_ => ?_); rotate_right 2; (go_simp; first | done | rfl))
          | (apply LexR_bs (t := 76) (e := 80) (z := .agg #[.int .u32 0]) (ho := rfl) (by rfl) (by rfl) Tryz.underlying76 (by kernel_rfl) (by decide) (by decide) (fun _ => ?_) (fun _ => ?_) (fun _ => ?_) (fun _ hr_ => ?_); rotate_right 4; (go_simp; rfl); (exact ⟨rfl, rfl, rfl⟩); (simp only [List.map_cons, List.map_nil, List.flatMap_cons, List.flatMap_nil, Value.cells, List.cons_append, List.nil_append, List.append_nil]; rfl)))
        apply LexR_end
        refine hK _ _ ?_
        clear hK K_
        repeat clear hr_
        clear hb_ R_ hops_ ops_
        intro w1 hw1 hf1
        apply tailR (fun _ => ?_) (fun _ => ?_) ?_
        rotate_right 2
        · simp only [putAll, Act.put, List.setIfInBounds_toArray, List.set_cons_succ, List.set_cons_zero]; first | done | rfl
        · simp only [List.drop_succ_cons, List.drop_zero]; first | done | rfl
        simp [allFacts, contOf, Exp.putAt, Exp.fact, Exp.fresh, Exp.blk] at hf1
        rw [next_eq]
        clear hf1 c9 c0 lk6
        replace k2 := grow_blk hw1 k2
        replace k3 := grow_blk hw1 k3
        replace k4 := grow_blk hw1 k4
        replace k5 := grow_blk hw1 k5
        replace k6 := grow_blk hw1 k6
        replace HB := bl_call hw1 HB
        clear hw1
        have cs := blk_cell k6 (m + 16)
        rw [cw_at _ _ (by rw [L64.out]; omega)] at cs
        have fs := blk_frozen k6 (m + 16)
        go_wp2_with fail
        go_roundw
        case measure => simp [intOf]; omega
        refine ⟨m + 16 + 1, by omega, congrArg (Value.int .i64) (by omega), bl_set _ _ (by simp; omega) HB, blk_far k2 (by simp; omega) _, blk_far k3 (by simp; omega) _, blk_far k4 (by simp; omega) _, blk_far k5 (by simp; omega) _, ?_⟩
        rw [show m + 16 + 1 = (m + 1) + 16 by omega, wAt_hi b L16.out (m + 1), ← spreadAt_set b L16.out m hlm, ← cw_set]
        exact blk_set k6 (m + 16) _
    · obtain rfl : n = 64 := by omega
      have hlt' : ¬ ((64 : Nat) : Int) < 64 := by omega
      rw [show wAt b 64 = spreadTo b 48 from (wAt_hi b L16.out 48).trans (spreadAt_end b)] at k6
      have L64 := Lib.hid (show (spreadTo b 48).length = 64 by rw [spreadTo_length b L16.out])
      obtain ⟨ws, hws⟩ : ∃ ws, ws = spreadTo b 48 := ⟨_, rfl⟩
      rw [← hws] at k6 L64
      replace hws := Lib.hid hws
      go_upto_region 11 with (fail)
      have q6 := blk_lt k6
      refine wp_region_R 3 [2] (by kernel_rfl) (by kernel_rfl) (by kernel_rfl) (by kernel_rfl) ?_
      intro K_ ops_ hops_ hK
      replace hops_ := Lib.hid hops_
      apply Exists.intro
      intro R_ hb_
      simp only [↓baseR, ↓nthR_succ, ↓nthR_zero] at hb_
      simp only [List.take_succ_cons, List.take_zero, List.drop_succ_cons, List.drop_zero]
      repeat (first
        | (apply LexR_det (by rfl) (by rfl) (by rfl) (fun w1 hw1 hd1 => ?_) (fun _ hr_ => ?_); rotate_right 2; (refine run_load_rowR (ty := 54) rfl ?_ (grow_blk hw1 k2) Tryz.underlying54 rfl ?_; (focus (go_simp; done)); (rw [cw_size, L8.out]; kernel_rfl)))
        | (apply LexR_put (j := 1) (ho := rfl); (go_simp; rfl); (go_simp; rfl); rfl; rfl; (focus (first | decide | (simp; done))); rfl; rfl; kernel_rfl; kernel_rfl; (first | exact cw_one _ | simp [Value.oneCell']); (first | (rw [cw_size, L64.out]; rfl) | (rw [cw_size, L8.out]; rfl) | (rw [cw_size]; rfl) | rfl); intro _)
        
        | (apply LexR_det (by rfl) (by rfl) (by rfl) (fun w1 hw1 hd1 => ?_) (fun _ hr_ => ?_); rotate_right 2; (go_simp; first | done | rfl ))
        | (apply LexR_box (by rfl) (by rfl) (by rfl) (fun w1 hw1 hd1 => ?_) (fun _ hr_ => ?_); rotate_right 2; (go_simp; first | done | rfl))
        | (apply LexR_bs (t := 76) (e := 80) (z := .agg #[.int .u32 0]) (ho := rfl) (by rfl) (by rfl) Tryz.underlying76 (by kernel_rfl) (by decide) (by decide) (fun _ => ?_) (fun _ => ?_) (fun _ => ?_) (fun _ hr_ => ?_); rotate_right 4; (go_simp; rfl); (exact ⟨rfl, rfl, rfl⟩); (simp only [List.map_cons, List.map_nil, List.flatMap_cons, List.flatMap_nil, Value.cells, List.cons_append, List.nil_append, List.append_nil]; rfl)))
      apply LexR_end
      refine hK _ _ ?_
      clear hK K_
      repeat clear hr_
      clear hb_ R_ hops_ ops_
      intro w1 hw1 hf1
      apply tailR (fun _ => ?_) (fun _ => ?_) ?_
      rotate_right 2
      · simp only [putAll, Act.put, List.setIfInBounds_toArray, List.set_cons_succ, List.set_cons_zero]; first | done | rfl
      · simp only [List.drop_succ_cons, List.drop_zero]; first | done | rfl
      simp [allFacts, contOf, Exp.putAt, Exp.fact, Exp.fresh, Exp.blk] at hf1
      obtain ⟨k10, l10⟩ := hf1
      obtain ⟨g10, e_⟩ := name_blk k10
      subst e_
      replace k2 := grow_blk hw1 k2
      replace k4 := grow_blk hw1 k4
      replace k5 := grow_blk hw1 k5
      replace k6 := grow_blk hw1 k6
      replace HB := bl_call hw1 HB
      have m10 : g6 < g10 := by omega
      clear hw1 l10 q6 k3
      go_wp2_with fail
      have HB0 := HB
      have k20 := k2
      have k40 := k4
      have k50 := k5
      have k60 := k6
      have k100 : w1.heap[g10]? = some (.cells (cw (roundsTo h ws 0)) 54 (0, 0)) := k10
      clear HB k2 k4 k5 k6 k10
      go_loopw [11] (fun i wr => ∃ n : Nat, n ≤ 64 ∧ i = .int .i64 (n : Int) ∧ Below w.heap.size w wr ∧ wr.heap[w.heap.size]? = some (.cells (cw h) 54 (0, 0)) ∧ wr.heap[w.heap.size + 1 + 1]? = some (.cells (Array.replicate 8 (.int .u32 0)) 54 (0, 0)) ∧ wr.heap[g5]? = some (.cells (cw kTab) 53 (0, 0)) ∧ wr.heap[g6]? = some (.cells (cw ws) 53 (0, 0)) ∧ wr.heap[g10]? = some (.cells (cw (roundsTo h ws n)) 54 (0, 0))) (fun i _ => 64 - (intOf i).toNat)
      case atStart => exact ⟨0, by omega, rfl, HB0, k20, k40, k50, k60, k100⟩
      case round =>
        clear HB0 k20 k40 k50 k60 k100
        obtain ⟨n, hn, rfl, HB, k2, k4, k5, k6, k10⟩ := hrel
        have pn : (0 : Int) ≤ (n : Int) := by omega
        by_cases hlt : n < 64
        · have hlt' : (n : Int) < 64 := by omega
          have hl := roundsTo_length h ws L8.out n
          obtain ⟨a0, a1, a2, a3, a4, a5, a6, a7, hst⟩ : ∃ a0 a1 a2 a3 a4 a5 a6 a7, roundsTo h ws n = [a0, a1, a2, a3, a4, a5, a6, a7] := by
            match e : roundsTo h ws n, hl with
            | [a0, a1, a2, a3, a4, a5, a6, a7], _ => exact ⟨a0, a1, a2, a3, a4, a5, a6, a7, rfl⟩
          have hnext : roundsTo h ws (n + 1) = round8 (at32 kTab n) (at32 ws n) [a0, a1, a2, a3, a4, a5, a6, a7] := by rw [← hst]; rfl
          have Hnext := Lib.hid hnext
          rw [hst] at k10
          replace k10 : wr.heap[g10]? = some (.cells #[.int .u32 (iw a0), .int .u32 (iw a1), .int .u32 (iw a2), .int .u32 (iw a3), .int .u32 (iw a4), .int .u32 (iw a5), .int .u32 (iw a6), .int .u32 (iw a7)] 54 (0, 0)) := k10
          clear hl hst hnext
          have c5 := blk_cell k5 n
          rw [cw_at _ _ (by exact hlt)] at c5
          have c6 := blk_cell k6 n
          rw [cw_at _ _ (by rw [L64.out]; exact hlt)] at c6
          go_upto_region 15 with (fail)
          refine wp_region_R 38 [5, 6, 10, 11] (by kernel_rfl) (by kernel_rfl) (by kernel_rfl) (by kernel_rfl) ?_
          intro K_ ops_ hops_ hK
          replace hops_ := Lib.hid hops_
          apply Exists.intro
          intro R_ hb_
          simp only [↓baseR, ↓nthR_succ, ↓nthR_zero] at hb_
          simp only [List.take_succ_cons, List.take_zero, List.drop_succ_cons, List.drop_zero]
          repeat (first
            
            
            | (apply LexR_callF (f := 75) (by rfl) (by rfl) (by rfl) Tryz.func75 (by kernel_rfl) (by kernel_rfl) (fun _ => ?_) (fun w1 hw1 hd1 => ?_) (fun _ hr_ => ?_); rotate_right 3; (go_simp; first | done | rfl); exact (rot_c _ _ (by omega) (by omega) w1))
            | (apply LexR_det (by rfl) (by rfl) (by rfl) (fun w1 hw1 hd1 => ?_) (fun _ hr_ => ?_); rotate_right 2; (go_simp; first | done | rfl | (rw [blk_cell (grow_blk hw1 k10)]; focus ((try simp); first | done | rfl)) | (rw [grow_cell hw1 c5]; focus ((try simp); first | done | rfl)) | (rw [grow_cell hw1 c6]; focus ((try simp); first | done | rfl))))
            | (apply LexR_box (by rfl) (by rfl) (by rfl) (fun w1 hw1 hd1 => ?_) (fun _ hr_ => ?_); rotate_right 2; (go_simp; first | done | rfl))
            | (apply LexR_bs (t := 76) (e := 80) (z := .agg #[.int .u32 0]) (ho := rfl) (by rfl) (by rfl) Tryz.underlying76 (by kernel_rfl) (by decide) (by decide) (fun _ => ?_) (fun _ => ?_) (fun _ => ?_) (fun _ hr_ => ?_); rotate_right 4; (go_simp; rfl); (exact ⟨rfl, rfl, rfl⟩); (simp only [List.map_cons, List.map_nil, List.flatMap_cons, List.flatMap_nil, Value.cells, List.cons_append, List.nil_append, List.append_nil]; rfl)))
          apply LexR_end
          refine hK _ _ ?_
          clear hK K_
          repeat clear hr_
          clear hb_ R_ hops_ ops_
          intro w1 hw1 hf1
          apply tailR (fun _ => ?_) (fun _ => ?_) ?_
          rotate_right 2
          · simp only [putAll, Act.put, List.setIfInBounds_toArray, List.set_cons_succ, List.set_cons_zero]; first | done | rfl
          · simp only [List.drop_succ_cons, List.drop_zero]; first | done | rfl
          simp [allFacts, contOf, Exp.putAt, Exp.fact, Exp.fresh, Exp.blk] at hf1
          rw [ch_eq, one_eq]
          clear hf1 c5 c6
          replace k2 := grow_blk hw1 k2
          replace k4 := grow_blk hw1 k4
          replace k5 := grow_blk hw1 k5
          replace k6 := grow_blk hw1 k6
          replace k10 := grow_blk hw1 k10
          replace HB := bl_call hw1 HB
          clear hw1
          go_upto_region 16 with (fail)
          refine wp_region_R 30 [10] (by kernel_rfl) (by kernel_rfl) (by kernel_rfl) (by kernel_rfl) ?_
          intro K_ ops_ hops_ hK
          replace hops_ := Lib.hid hops_
          apply Exists.intro
          intro R_ hb_
          simp only [↓baseR, ↓nthR_succ, ↓nthR_zero] at hb_
          simp only [List.take_succ_cons, List.take_zero, List.drop_succ_cons, List.drop_zero]
          repeat (first
            
            
            | (apply LexR_callF (f := 75) (by rfl) (by rfl) (by rfl) Tryz.func75 (by kernel_rfl) (by kernel_rfl) (fun _ => ?_) (fun w1 hw1 hd1 => ?_) (fun _ hr_ => ?_); rotate_right 3; (go_simp; first | done | rfl); exact (rot_c _ _ (by omega) (by omega) w1))
            | (apply LexR_det (by rfl) (by rfl) (by rfl) (fun w1 hw1 hd1 => ?_) (fun _ hr_ => ?_); rotate_right 2; (go_simp; first | done | rfl | (rw [blk_cell (grow_blk hw1 k10)]; focus ((try simp); first | done | rfl))))
            | (apply LexR_box (by rfl) (by rfl) (by rfl) (fun w1 hw1 hd1 => ?_) (fun _ hr_ => ?_); rotate_right 2; (go_simp; first | done | rfl))
            | (apply LexR_bs (t := 76) (e := 80) (z := .agg #[.int .u32 0]) (ho := rfl) (by rfl) (by rfl) Tryz.underlying76 (by kernel_rfl) (by decide) (by decide) (fun _ => ?_) (fun _ => ?_) (fun _ => ?_) (fun _ hr_ => ?_); rotate_right 4; (go_simp; rfl); (exact ⟨rfl, rfl, rfl⟩); (simp only [List.map_cons, List.map_nil, List.flatMap_cons, List.flatMap_nil, Value.cells, List.cons_append, List.nil_append, List.append_nil]; rfl)))
          apply LexR_end
          refine hK _ _ ?_
          clear hK K_
          repeat clear hr_
          clear hb_ R_ hops_ ops_
          intro w1 hw1 hf1
          apply tailR (fun _ => ?_) (fun _ => ?_) ?_
          rotate_right 2
          · simp only [putAll, Act.put, List.setIfInBounds_toArray, List.set_cons_succ, List.set_cons_zero]; first | done | rfl
          · simp only [List.drop_succ_cons, List.drop_zero]; first | done | rfl
          simp [allFacts, contOf, Exp.putAt, Exp.fact, Exp.fresh, Exp.blk] at hf1
          rw [maj_eq, two_eq]
          clear hf1
          replace k2 := grow_blk hw1 k2
          replace k4 := grow_blk hw1 k4
          replace k5 := grow_blk hw1 k5
          replace k6 := grow_blk hw1 k6
          replace k10 := grow_blk hw1 k10
          replace HB := bl_call hw1 HB
          clear hw1
          replace k10 : w1.heap[g10]? = some (.cells (cw (shiftAt [a0, a1, a2, a3, a4, a5, a6, a7] 7)) 54 (0, 0)) := k10
          have ew := Lib.hid (show onew a4 a5 a6 a7 (at32 kTab n) (at32 ws n) = onew a4 a5 a6 a7 (at32 kTab n) (at32 ws n) from rfl)
          obtain ⟨one, hone⟩ : ∃ one, one = onew a4 a5 a6 a7 (at32 kTab n) (at32 ws n) := ⟨_, rfl⟩
          obtain ⟨two, htwo⟩ : ∃ two, two = twow a0 a1 a2 := ⟨_, rfl⟩
          rw [← hone, ← htwo]
          replace hone := Lib.hid hone
          replace htwo := Lib.hid htwo
          clear ew
          go_wp2_with fail
          have HB0 := HB
          have k20 := k2
          have k40 := k4
          have k50 := k5
          have k60 := k6
          have k100 := k10
          clear HB k2 k4 k5 k6 k10
          go_loopw [14] (fun i wr => ∃ j : Nat, j ≤ 7 ∧ i = .int .i64 (j : Int) ∧ Below w.heap.size w wr ∧ wr.heap[w.heap.size]? = some (.cells (cw h) 54 (0, 0)) ∧ wr.heap[w.heap.size + 1 + 1]? = some (.cells (Array.replicate 8 (.int .u32 0)) 54 (0, 0)) ∧ wr.heap[g5]? = some (.cells (cw kTab) 53 (0, 0)) ∧ wr.heap[g6]? = some (.cells (cw ws) 53 (0, 0)) ∧ wr.heap[g10]? = some (.cells (cw (shiftAt [a0, a1, a2, a3, a4, a5, a6, a7] j)) 54 (0, 0))) (fun i _ => (intOf i).toNat)
          case atStart => exact ⟨7, by omega, rfl, HB0, k20, k40, k50, k60, k100⟩
          case round =>
            clear HB0 k20 k40 k50 k60 k100
            obtain ⟨j, hj, rfl, HB, k2, k4, k5, k6, k10⟩ := hrel
            by_cases hj0 : 0 < j
            · obtain ⟨j, rfl⟩ : ∃ i, j = i + 1 := ⟨j - 1, by omega⟩
              have hj7 : j < 7 := by omega
              have c10 := blk_cell k10 j
              rw [cw_at _ _ (by rw [shiftAt_len]; omega), shiftAt_at _ _ hj7] at c10
              have cs := blk_cell k10 (j + 1)
              rw [cw_at _ _ (by rw [shiftAt_len]; omega)] at cs
              have fs := blk_frozen k10 (j + 1)
              have hjp : 0 < (j : Int) + 1 := by omega
              have e1 : IntKind.i64.wrap ((j : Int)) = (j : Int) := by rw [IntWalk.i64_in _ (by omega)]; try omega
              have p1 : 0 ≤ (j : Int) := by omega
              have b1 : (j : Int) < 8 := by omega
              have t1 : ((j : Int)).toNat = j := by omega
              have pj1 : (0 : Int) ≤ (j : Int) + 1 := by omega
              have bj1 : (j : Int) + 1 < 8 := by omega
              have tj1 : ((j : Int) + 1).toNat = j + 1 := by omega
              go_wp2_with fail
              go_roundw
              case measure => simp [intOf] <;> omega
              refine ⟨j, by omega, congrArg (Value.int .i64) (by omega), bl_set _ _ (by simp; omega) HB, blk_far k2 (by simp; omega) _, blk_far k4 (by simp; omega) _, blk_far k5 (by simp; omega) _, blk_far k6 (by simp; omega) _, ?_⟩
              rw [← shiftAt_set _ _ hj7, ← cw_set]
              exact blk_set k10 (j + 1) _
            · obtain rfl : j = 0 := by omega
              have hj1 : ¬ ((0 : Nat) : Int) > 0 := by omega
              rw [shiftAt_end] at k10
              go_upto_region 21 with (fail)
              have c4 := blk_cell k10 4
              rw [cw_at _ _ (by simp)] at c4
              have f4 := blk_frozen k10 4
              go_upto_region 22 with (fail)
              refine gen_world fun W3 hW => ?_
              replace HB : Below w.heap.size w W3 := by subst hW; exact bl_set _ _ (by simp; omega) HB
              replace k2 := far_eq hW k2 (by simp; omega)
              replace k4 := far_eq hW k4 (by simp; omega)
              replace k5 := far_eq hW k5 (by simp; omega)
              replace k6 := far_eq hW k6 (by simp; omega)
              replace k10 : W3.heap[g10]? = some (.cells (cw [a0, a0, a1, a2, a3 + one, a4, a5, a6]) 54 (0, 0)) := by subst hW; exact blk_set k10 4 _
              clear hW c4 f4
              have c0 := blk_cell k10 0
              rw [cw_at _ _ (by simp)] at c0
              have f0 := blk_frozen k10 0
              go_wp2_with fail
              go_roundw
              case measure => simp [intOf] <;> omega
              refine ⟨n + 1, by omega, congrArg (Value.int .i64) (by omega), bl_set _ _ (by simp; omega) HB, blk_far k2 (by simp; omega) _, blk_far k4 (by simp; omega) _, blk_far k5 (by simp; omega) _, blk_far k6 (by simp; omega) _, ?_⟩
              rw [Hnext.out, round8_eq, ← hone.out, ← htwo.out]
              exact blk_set k10 0 _
        · obtain rfl : n = 64 := by omega
          have hlt2 : ¬ ((64 : Nat) : Int) < 64 := by omega
          have LR := Lib.hid (roundsTo_length h ws L8.out 64)
          obtain ⟨rs, hrs⟩ : ∃ rs, rs = roundsTo h ws 64 := ⟨_, rfl⟩
          rw [← hrs] at k10 LR
          replace hrs := Lib.hid hrs
          clear hlt hn k5 k6
          go_upto_region 23 with (fail)
          go_wp2_with fail
          replace k10 : wr.heap[g10]? = some (.cells (cw (addTo rs h 0)) 54 (0, 0)) := by rw [addTo_zero]; exact k10
          have HB0 := HB
          have k20 := k2
          have k40 := k4
          have k100 := k10
          clear HB k2 k4 k10
          go_loopw [15] (fun i wr => ∃ n : Nat, n ≤ 8 ∧ i = .int .i64 (n : Int) ∧ Below w.heap.size w wr ∧ wr.heap[w.heap.size]? = some (.cells (cw h) 54 (0, 0)) ∧ wr.heap[w.heap.size + 1 + 1]? = some (.cells (Array.replicate 8 (.int .u32 0)) 54 (0, 0)) ∧ wr.heap[g10]? = some (.cells (cw (addTo rs h n)) 54 (0, 0))) (fun i _ => 8 - (intOf i).toNat)
          case atStart => exact ⟨0, by omega, rfl, HB0, k20, k40, k100⟩
          case round =>
            clear HB0 k20 k40 k100
            obtain ⟨n, hn, rfl, HB, k2, k4, k10⟩ := hrel
            by_cases hlt : n < 8
            · have hlt' : (n : Int) < 8 := by omega
              have pn : (0 : Int) ≤ (n : Int) := by omega
              have c10 := blk_cell k10 n
              rw [cw_at _ _ (by rw [addTo_len rs h LR.out L8.out n hn]; exact hlt), addTo_at rs h LR.out L8.out n hlt] at c10
              have c2 := blk_cell k2 n
              rw [cw_at _ _ (by rw [L8.out]; exact hlt)] at c2
              go_upto_region 26 with (fail)
              refine wp_region_R 9 [2, 10, 15] (by kernel_rfl) (by kernel_rfl) (by kernel_rfl) (by kernel_rfl) ?_
              intro K_ ops_ hops_ hK
              replace hops_ := Lib.hid hops_
              apply Exists.intro
              intro R_ hb_
              simp only [↓baseR, ↓nthR_succ, ↓nthR_zero] at hb_
              simp only [List.take_succ_cons, List.take_zero, List.drop_succ_cons, List.drop_zero]
              repeat (first
                
                
                
                | (apply LexR_det (by rfl) (by rfl) (by rfl) (fun w1 hw1 hd1 => ?_) (fun _ hr_ => ?_); rotate_right 2; (go_simp; first | done | rfl | (rw [grow_cell hw1 c10]; focus ((try simp); first | done | rfl)) | (rw [grow_cell hw1 c2]; focus ((try simp); first | done | rfl))))
                | (apply LexR_box (by rfl) (by rfl) (by rfl) (fun w1 hw1 hd1 => ?_) (fun _ hr_ => ?_); rotate_right 2; (go_simp; first | done | rfl))
                | (apply LexR_bs (t := 76) (e := 80) (z := .agg #[.int .u32 0]) (ho := rfl) (by rfl) (by rfl) Tryz.underlying76 (by kernel_rfl) (by decide) (by decide) (fun _ => ?_) (fun _ => ?_) (fun _ => ?_) (fun _ hr_ => ?_); rotate_right 4; (go_simp; rfl); (exact ⟨rfl, rfl, rfl⟩); (simp only [List.map_cons, List.map_nil, List.flatMap_cons, List.flatMap_nil, Value.cells, List.cons_append, List.nil_append, List.append_nil]; rfl)))
              apply LexR_end
              refine hK _ _ ?_
              clear hK K_
              repeat clear hr_
              clear hb_ R_ hops_ ops_
              intro w1 hw1 hf1
              apply tailR (fun _ => ?_) (fun _ => ?_) ?_
              rotate_right 2
              · simp only [putAll, Act.put, List.setIfInBounds_toArray, List.set_cons_succ, List.set_cons_zero]; first | done | rfl
              · simp only [List.drop_succ_cons, List.drop_zero]; first | done | rfl
              simp [allFacts, contOf, Exp.putAt, Exp.fact, Exp.fresh, Exp.blk] at hf1
              clear hf1 c10 c2
              replace k2 := grow_blk hw1 k2
              replace k4 := grow_blk hw1 k4
              replace k10 := grow_blk hw1 k10
              replace HB := bl_call hw1 HB
              clear hw1
              have cs := blk_cell k10 n
              rw [cw_at _ _ (by rw [addTo_len rs h LR.out L8.out n hn]; exact hlt)] at cs
              have fs := blk_frozen k10 n
              go_wp2_with fail
              go_roundw
              case measure => simp [intOf] <;> omega
              refine ⟨n + 1, by omega, congrArg (Value.int .i64) (by omega), bl_set _ _ (by simp; omega) HB, blk_far k2 (by simp; omega) _, blk_far k4 (by simp; omega) _, ?_⟩
              rw [← addTo_set rs h LR.out L8.out n hlt, ← cw_set]
              exact blk_set k10 n _
            · obtain rfl : n = 8 := by omega
              have hlt' : ¬ ((8 : Nat) : Int) < 8 := by omega
              rw [addTo_end rs h LR.out L8.out] at k10
              have hres : List.zipWith (fun x1 x2 => x1 + x2) rs h = stepw h b := by rw [hrs.out, hws.out]; rfl
              rw [hres] at k10
              have LZ := Lib.hid (stepw_length h b L8.out)
              go_upto_region 27 with (fail)
              refine wp_region_lit ?_
              refine wpList_load_row rfl _ _ rfl g10 rfl 54 (cw (stepw h b)) (0, 0) _ k10 Tryz.underlying54 rfl (by rw [cw_size, LZ.out]; kernel_rfl) ?_
              refine wpList_store_row rfl _ _ _ rfl (w.heap.size + 1 + 1) (cw (stepw h b)) rfl rfl 54 _ k4 (by rw [cw_size, LZ.out]; kernel_rfl) (by rw [cw_size, LZ.out]; rfl) (cw_one _) ?_
              refine gen_list fun W2 hW => ?_
              replace k4 : W2.heap[w.heap.size + 1 + 1]? = some (.cells (cw (stepw h b)) 54 (0, 0)) := by subst hW; exact setRow_blk k4 _
              replace HB : Below w.heap.size w W2 := by subst hW; exact bl_row _ _ (by omega) HB
              clear hW
              go_wp2
              exact bodyPost_ret (v := .agg (cw (stepw h b))) (results_cell_row Tryz.results52 _ _ (w.heap.size + 1 + 1) 54 (cw (stepw h b)) (0, 0) _ rfl k4 Tryz.underlying54 rfl (by rw [cw_size, LZ.out]; kernel_rfl)) rfl ⟨rfl, HB⟩
end Go.Proofs.YthnackakgglhbaaGreat

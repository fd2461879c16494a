/- The law ShaSteps, and what the laws of layer 16 share. -/
import Derived.Test.YtekblfcmmkipgaaSm
import Derived.Test.YtekblfcmmkipgaaR2
namespace Go.Proofs.Ytekblfcmmkipgaa
open Go.RowKit
set_option maxRecDepth 100000
set_option linter.unusedSimpArgs false
set_option linter.unusedVariables false
attribute [local go_sem] evR_tmp evR_const evR_global evR_func
theorem abc_sum : (sumText ⟨#[97, 98, 99]⟩).toList = [186, 120, 22, 191, 143, 1, 207, 234, 65, 65, 64, 222, 93, 174, 34, 35, 176, 3, 97, 163, 150, 23, 122, 156, 180, 16, 255, 97, 242, 0, 21, 173] := by decide +kernel
theorem awake16_c (w : World) : Calls Try.prog 24 #[] w fun e w' => e = .returned (.bool true) ∧ Below w.heap.size w w' := by
  have ha := abc_sum
  go_enter Try.func24, Try.ntmps24
  go_wp2_with (go_at_call 34; refine (Sum_c _ (by decide) _).mono ?_; rintro e w' ⟨rfl, HB⟩)
  exact bodyPost_ret (v := .bool true) (by simp [results, Try.results24, go_sem]) rfl ⟨rfl, HB⟩
theorem Is_c (h : List W32) (hh : h.length = 8) (w : World) : Calls Try.prog 26 #[.agg (cw h), .agg (cw h)] w fun e w' => e = .returned (.bool true) ∧ Below w.heap.size w w' := by
  have L8 := Lib.hid hh
  clear hh
  go_enter Try.func26, Try.ntmps26
  go_upto_region 1 with (fail)
  refine gen_world fun W hW => ?_
  have k2 : W.heap[w.heap.size]? = some (.cells (cw h) 45 (0, 0)) := by subst hW; (repeat (first | (with_reducible assumption) | ((with_reducible refine blk_new' ?_ _); (simp; done)) | ((with_reducible refine blk_alloc ?_ _)) | ((with_reducible refine blk_far ?_ ?_ _); (simp <;> omega))))
  have k3 : W.heap[w.heap.size + 1]? = some (.cells (cw h) 40 (0, 0)) := by subst hW; (repeat (first | (with_reducible assumption) | ((with_reducible refine blk_new' ?_ _); (simp; done)) | ((with_reducible refine blk_alloc ?_ _)) | ((with_reducible refine blk_far ?_ ?_ _); (simp <;> omega))))
  have HB : Below w.heap.size w W := by subst hW; (repeat (first | exact Below.refl _ _ | (refine bl_alloc ?_ _) | (refine bl_drewN ?_ _) | (refine bl_drew ?_) | (refine bl_call (by assumption) ?_) | (refine bl_set _ _ (by simp <;> omega) ?_) | assumption))
  clear hW
  go_wp2_with fail
  have k20 := k2
  have k30 := k3
  have HB0 := HB
  clear k2 k3 HB
  go_loopw [6] (fun i wr => ∃ n : Nat, n ≤ 8 ∧ i = .int .i64 (n : Int) ∧ Below w.heap.size w wr ∧ wr.heap[w.heap.size]? = some (.cells (cw h) 45 (0, 0)) ∧ wr.heap[w.heap.size + 1]? = some (.cells (cw h) 40 (0, 0))) (fun i _ => 8 - (intOf i).toNat)
  case atStart => exact ⟨0, by omega, rfl, HB0, k20, k30⟩
  case round =>
    clear HB0 k20 k30
    obtain ⟨n, hn, rfl, HB, k2, k3⟩ := hrel
    have pn : (0 : Int) ≤ (n : Int) := by omega
    by_cases hlt : n < 8
    · have hlt' : (n : Int) < 8 := by omega
      have c2 := blk_cell k2 n
      rw [cw_at _ _ (by rw [L8.out]; exact hlt)] at c2
      have c3 := blk_cell k3 n
      rw [cw_at _ _ (by rw [L8.out]; exact hlt)] at c3
      go_upto_region 4 with (fail)
      refine wp_region_R 9 [2, 3, 5] (by kernel_rfl) (by kernel_rfl) (by kernel_rfl) (by kernel_rfl) ?_
      intro K_ ops_ hops_ hK
      replace hops_ := Lib.hid hops_
      apply Exists.intro
      intro R_ hb_
      simp only [↓baseR, ↓nthR_succ, ↓nthR_zero] at hb_
      simp only [List.take_succ_cons, List.take_zero, List.drop_succ_cons, List.drop_zero]
      repeat (first
        
        
        | (apply LexR_new (f := 36) (by rfl) (by rfl) (by rfl) Try.func36 (by kernel_rfl) (by kernel_rfl) (fun _ => ?_) (fun w1 hw1 hd1 => ?_) (fun _ hr_ => ?_); rotate_right 3; (go_simp; first | done | rfl); exact (NewLog_c w1)) | (apply LexR_use (f := 37) (j := 0) (by rfl) (by rfl) (by rfl) Try.func37 (by kernel_rfl) (by kernel_rfl) (fun _ => ?_) (by simp) rfl (by simp) rfl rfl (fun w1 hw1 hg1 hk1 => ?_) (fun _ hr_ => ?_); rotate_right 3; (go_simp; first | done | rfl); exact (Release_new_c _ _ _ w1 hk1 hg1))
        | (apply LexR_det (by rfl) (by rfl) (by rfl) (fun w1 hw1 hd1 => ?_) (fun _ hr_ => ?_); rotate_right 2; (go_simp; first | done | rfl | (rw [grow_cell hw1 c2]; focus ((try simp); first | done | rfl)) | (rw [grow_cell hw1 c3]; focus ((try simp); first | done | rfl))))
        | (apply LexR_box (by rfl) (by rfl) (by rfl) (fun w1 hw1 hd1 => ?_) (fun _ hr_ => ?_); rotate_right 2; (go_simp; first | done | rfl))
        | (apply LexR_bs (t := 54) (e := 44) (z := .agg #[.int .u32 0]) (ho := rfl) (by rfl) (by rfl) Try.underlying54 (by kernel_rfl) (by decide) (by decide) (fun _ => ?_) (fun _ => ?_) (fun _ => ?_) (fun _ hr_ => ?_); rotate_right 4; (go_simp; rfl); (exact ⟨rfl, rfl, rfl⟩); (simp only [List.map_cons, List.map_nil, List.flatMap_cons, List.flatMap_nil, Value.cells, List.cons_append, List.nil_append, List.append_nil]; rfl)))
      apply LexR_end
      refine hK _ _ ?_
      clear hK K_
      repeat clear hr_
      clear hb_ R_ hops_ ops_
      intro w1 hw1 hf1
      apply tailR (fun _ => ?_) (fun _ => ?_) ?_
      rotate_right 2
      · simp only [putAll, Act.put, List.setIfInBounds_toArray, List.set_cons_succ, List.set_cons_zero]; first | done | rfl
      · simp only [List.drop_succ_cons, List.drop_zero]; first | done | rfl
      simp [allFacts, contOf, Exp.putAt, Exp.fact, Exp.fresh, Exp.blk] at hf1
      clear hf1 c2 c3
      replace k2 := grow_blk hw1 k2
      replace k3 := grow_blk hw1 k3
      replace HB := bl_call hw1 HB
      clear hw1
      go_wp2_with fail
      go_roundw
      case measure => simp [intOf] <;> omega
      exact ⟨n + 1, by omega, congrArg (Value.int .i64) (by omega), HB, k2, k3⟩
    · obtain rfl : n = 8 := by omega
      go_wp2
      exact bodyPost_ret (v := .bool true) (by simp [results, Try.results26, go_sem]) rfl ⟨rfl, HB⟩
/-- The first n words, noughts behind. -/
theorem pad_take_set (m : Nat) (h : List W32) (hm : h.length = m) (n : Nat) (hn : n < m) : (padTo m (h.take n)).set n (at32 h n) = padTo m (h.take (n + 1)) := by
  have := padTo_set m (h.take n) (at32 h n) (by simp; omega)
  rw [show (h.take n).length = n by simp; omega] at this
  rw [this, List.take_succ_eq_append_getElem (show n < h.length by omega)]
  simp [at32, hm, hn]
theorem pad_take_len (m : Nat) (h : List W32) (hm : h.length = m) (n : Nat) (hn : n ≤ m) : (padTo m (h.take n)).length = m := padTo_length _ _ (by simp; omega)
theorem pad_take_end (m : Nat) (h : List W32) (hm : h.length = m) : padTo m (h.take m) = h := by
  rw [List.take_of_length_le (by omega), padTo_full _ _ hm]
set_option maxHeartbeats 4000000 in
theorem ShaSteps_c (h b : List W32) (hh : h.length = 8) (hb : b.length = 16) (w : World) : Calls Try.prog 6 #[.agg (cw h), .agg (cw b)] w fun e w' => e = .returned (.bool true) ∧ Below w.heap.size w w' := by
  have L8 := Lib.hid hh
  have L16 := Lib.hid hb
  have LS := Lib.hid (stepw_length h b hh)
  clear hh hb
  go_enter Try.func6, Try.ntmps6
  go_upto_region 1 with (fail)
  refine gen_world fun W hW => ?_
  have k2 : W.heap[w.heap.size]? = some (.cells (cw h) 40 (0, 0)) := by subst hW; (repeat (first | (with_reducible assumption) | ((with_reducible refine blk_new' ?_ _); (simp; done)) | ((with_reducible refine blk_alloc ?_ _)) | ((with_reducible refine blk_far ?_ ?_ _); (simp <;> omega))))
  have k3 : W.heap[w.heap.size + 1]? = some (.cells (cw b) 41 (0, 0)) := by subst hW; (repeat (first | (with_reducible assumption) | ((with_reducible refine blk_new' ?_ _); (simp; done)) | ((with_reducible refine blk_alloc ?_ _)) | ((with_reducible refine blk_far ?_ ?_ _); (simp <;> omega))))
  have HB : Below w.heap.size w W := by subst hW; (repeat (first | exact Below.refl _ _ | (refine bl_alloc ?_ _) | (refine bl_drewN ?_ _) | (refine bl_drew ?_) | (refine bl_call (by assumption) ?_) | (refine bl_set _ _ (by simp <;> omega) ?_) | assumption))
  clear hW
  go_upto_region 3 with (go_at_call 24; refine (awake16_c _).mono ?_; rintro e w1 ⟨rfl, hw1⟩)
  replace k2 := grow_blk hw1 k2
  replace k3 := grow_blk hw1 k3
  replace HB := bl_call hw1 HB
  clear hw1
  have q3 := blk_lt k3
  refine wp_region_R 1 [] (by kernel_rfl) (by kernel_rfl) (by kernel_rfl) (by kernel_rfl) ?_
  intro K_ ops_ hops_ hK
  replace hops_ := Lib.hid hops_
  apply Exists.intro
  intro R_ hb_
  simp only [↓baseR, ↓nthR_succ, ↓nthR_zero] at hb_
  simp only [List.take_succ_cons, List.take_zero, List.drop_succ_cons, List.drop_zero]
  repeat (first
    
    
    
    | (apply LexR_det (by rfl) (by rfl) (by rfl) (fun w1 hw1 hd1 => ?_) (fun _ hr_ => ?_); rotate_right 2; (go_simp; first | done | rfl ))
    | (apply LexR_box (by rfl) (by rfl) (by rfl) (fun w1 hw1 hd1 => ?_) (fun _ hr_ => ?_); rotate_right 2; (go_simp; first | done | rfl))
    | (apply LexR_bs (t := 54) (e := 44) (z := .agg #[.int .u32 0]) (ho := rfl) (by rfl) (by rfl) Try.underlying54 (by kernel_rfl) (by decide) (by decide) (fun _ => ?_) (fun _ => ?_) (fun _ => ?_) (fun _ hr_ => ?_); rotate_right 4; (go_simp; rfl); (exact ⟨rfl, rfl, rfl⟩); (simp only [List.map_cons, List.map_nil, List.flatMap_cons, List.flatMap_nil, Value.cells, List.cons_append, List.nil_append, List.append_nil]; rfl)))
  apply LexR_end
  refine hK _ _ ?_
  clear hK K_
  repeat clear hr_
  clear hb_ R_ hops_ ops_
  intro w1 hw1 hf1
  apply tailR (fun _ => ?_) (fun _ => ?_) ?_
  rotate_right 2
  · simp only [putAll, Act.put, List.setIfInBounds_toArray, List.set_cons_succ, List.set_cons_zero]; first | done | rfl
  · simp only [List.drop_succ_cons, List.drop_zero]; first | done | rfl
  simp [allFacts, contOf, Exp.putAt, Exp.fact, Exp.fresh, Exp.blk] at hf1
  obtain ⟨k5, l5⟩ := hf1
  obtain ⟨g5, e_⟩ := name_blk k5
  subst e_
  replace k2 := grow_blk hw1 k2
  replace k3 := grow_blk hw1 k3
  replace HB := bl_call hw1 HB
  have m5 : w.heap.size + 1 < g5 := by omega
  clear hw1 l5 q3
  have q5 := blk_lt k5
  go_upto_region 4 with (fail)
  refine wp_region_R 1 [] (by kernel_rfl) (by kernel_rfl) (by kernel_rfl) (by kernel_rfl) ?_
  intro K_ ops_ hops_ hK
  replace hops_ := Lib.hid hops_
  apply Exists.intro
  intro R_ hb_
  simp only [↓baseR, ↓nthR_succ, ↓nthR_zero] at hb_
  simp only [List.take_succ_cons, List.take_zero, List.drop_succ_cons, List.drop_zero]
  repeat (first
    
    
    
    | (apply LexR_det (by rfl) (by rfl) (by rfl) (fun w1 hw1 hd1 => ?_) (fun _ hr_ => ?_); rotate_right 2; (go_simp; first | done | rfl ))
    | (apply LexR_box (by rfl) (by rfl) (by rfl) (fun w1 hw1 hd1 => ?_) (fun _ hr_ => ?_); rotate_right 2; (go_simp; first | done | rfl))
    | (apply LexR_bs (t := 54) (e := 44) (z := .agg #[.int .u32 0]) (ho := rfl) (by rfl) (by rfl) Try.underlying54 (by kernel_rfl) (by decide) (by decide) (fun _ => ?_) (fun _ => ?_) (fun _ => ?_) (fun _ hr_ => ?_); rotate_right 4; (go_simp; rfl); (exact ⟨rfl, rfl, rfl⟩); (simp only [List.map_cons, List.map_nil, List.flatMap_cons, List.flatMap_nil, Value.cells, List.cons_append, List.nil_append, List.append_nil]; rfl)))
  apply LexR_end
  refine hK _ _ ?_
  clear hK K_
  repeat clear hr_
  clear hb_ R_ hops_ ops_
  intro w1 hw1 hf1
  apply tailR (fun _ => ?_) (fun _ => ?_) ?_
  rotate_right 2
  · simp only [putAll, Act.put, List.setIfInBounds_toArray, List.set_cons_succ, List.set_cons_zero]; first | done | rfl
  · simp only [List.drop_succ_cons, List.drop_zero]; first | done | rfl
  simp [allFacts, contOf, Exp.putAt, Exp.fact, Exp.fresh, Exp.blk] at hf1
  obtain ⟨k6, l6⟩ := hf1
  obtain ⟨g6, e_⟩ := name_blk k6
  subst e_
  replace k2 := grow_blk hw1 k2
  replace k3 := grow_blk hw1 k3
  replace k5 := grow_blk hw1 k5
  replace HB := bl_call hw1 HB
  have m6 : g5 < g6 := by omega
  clear hw1 l6 q5
  go_upto_region 5 with (fail)
  refine wp_region_R 2 [2] (by kernel_rfl) (by kernel_rfl) (by kernel_rfl) (by kernel_rfl) ?_
  intro K_ ops_ hops_ hK
  replace hops_ := Lib.hid hops_
  apply Exists.intro
  intro R_ hb_
  simp only [↓baseR, ↓nthR_succ, ↓nthR_zero] at hb_
  simp only [List.take_succ_cons, List.take_zero, List.drop_succ_cons, List.drop_zero]
  repeat (first
    | (apply LexR_det (by rfl) (by rfl) (by rfl) (fun w1 hw1 hd1 => ?_) (fun _ hr_ => ?_); rotate_right 2; (refine run_load_rowR (ty := 40) rfl ?_ (grow_blk hw1 k2) Try.underlying40 rfl ?_; (focus (go_simp; done)); (rw [cw_size, L8.out]; kernel_rfl)))
    
    
    | (apply LexR_det (by rfl) (by rfl) (by rfl) (fun w1 hw1 hd1 => ?_) (fun _ hr_ => ?_); rotate_right 2; (go_simp; first | done | rfl ))
    | (apply LexR_box (by rfl) (by rfl) (by rfl) (fun w1 hw1 hd1 => ?_) (fun _ hr_ => ?_); rotate_right 2; (go_simp; first | done | rfl))
    | (apply LexR_bs (t := 54) (e := 44) (z := .agg #[.int .u32 0]) (ho := rfl) (by rfl) (by rfl) Try.underlying54 (by kernel_rfl) (by decide) (by decide) (fun _ => ?_) (fun _ => ?_) (fun _ => ?_) (fun _ hr_ => ?_); rotate_right 4; (go_simp; rfl); (exact ⟨rfl, rfl, rfl⟩); (simp only [List.map_cons, List.map_nil, List.flatMap_cons, List.flatMap_nil, Value.cells, List.cons_append, List.nil_append, List.append_nil]; rfl)))
  apply LexR_end
  refine hK _ _ ?_
  clear hK K_
  repeat clear hr_
  clear hb_ R_ hops_ ops_
  intro w1 hw1 hf1
  apply tailR (fun _ => ?_) (fun _ => ?_) ?_
  rotate_right 2
  · simp only [putAll, Act.put, List.setIfInBounds_toArray, List.set_cons_succ, List.set_cons_zero]; first | done | rfl
  · simp only [List.drop_succ_cons, List.drop_zero]; first | done | rfl
  simp [allFacts, contOf, Exp.putAt, Exp.fact, Exp.fresh, Exp.blk] at hf1
  clear hf1
  replace k2 := grow_blk hw1 k2
  replace k3 := grow_blk hw1 k3
  replace k5 := grow_blk hw1 k5
  replace k6 := grow_blk hw1 k6
  replace HB := bl_call hw1 HB
  clear hw1
  go_wp2_with fail
  have HB0 := HB
  have k20 := k2
  have k30 := k3
  have k50 : w1.heap[g5]? = some (.cells (cw (padTo 8 (h.take 0))) 45 (0, 0)) := by rw [List.take_zero, padTo_nil]; exact k5
  have k60 := k6
  clear HB k2 k3 k5 k6
  go_loopw [14] (fun i wr => ∃ n : Nat, n ≤ 8 ∧ i = .int .i64 (n : Int) ∧ Below w.heap.size w wr ∧ wr.heap[w.heap.size]? = some (.cells (cw h) 40 (0, 0)) ∧ wr.heap[w.heap.size + 1]? = some (.cells (cw b) 41 (0, 0)) ∧ wr.heap[g5]? = some (.cells (cw (padTo 8 (h.take n))) 45 (0, 0)) ∧ wr.heap[g6]? = some (.cells (Array.replicate 16 (.int .u32 0)) 46 (0, 0))) (fun i _ => 8 - (intOf i).toNat)
  case atStart => exact ⟨0, by omega, rfl, HB0, k20, k30, k50, k60⟩
  case round =>
    clear HB0 k20 k30 k50 k60
    obtain ⟨n, hn, rfl, HB, k2, k3, k5, k6⟩ := hrel
    have pn : (0 : Int) ≤ (n : Int) := by omega
    by_cases hlt : n < 8
    · have hlt' : (n : Int) < 8 := by omega
      have ck : (cw h)[((n : Nat) : Int).toNat]? = some (.int .u32 (iw (at32 h n))) := by rw [Int.toNat_natCast]; exact cw_at h n (by rw [L8.out]; exact hlt)
      go_upto_region 7 with (fail)
      refine wp_region_R 4 [13, 14] (by kernel_rfl) (by kernel_rfl) (by kernel_rfl) (by kernel_rfl) ?_
      intro K_ ops_ hops_ hK
      replace hops_ := Lib.hid hops_
      apply Exists.intro
      intro R_ hb_
      simp only [↓baseR, ↓nthR_succ, ↓nthR_zero] at hb_
      simp only [List.take_succ_cons, List.take_zero, List.drop_succ_cons, List.drop_zero]
      repeat (first
        | (apply LexR_det (by rfl) (by rfl) (by rfl) (fun w1 hw1 hd1 => ?_) (fun _ hr_ => ?_); rotate_right 2; (refine run_index_wordR rfl ?_ ?_ Try.underlying40 Try.underlying39 (by kernel_rfl) pn hlt' ck; (focus (go_simp; done)); (focus (go_simp; done))))
        
        
        | (apply LexR_det (by rfl) (by rfl) (by rfl) (fun w1 hw1 hd1 => ?_) (fun _ hr_ => ?_); rotate_right 2; (go_simp; first | done | rfl ))
        | (apply LexR_box (by rfl) (by rfl) (by rfl) (fun w1 hw1 hd1 => ?_) (fun _ hr_ => ?_); rotate_right 2; (go_simp; first | done | rfl))
        | (apply LexR_bs (t := 54) (e := 44) (z := .agg #[.int .u32 0]) (ho := rfl) (by rfl) (by rfl) Try.underlying54 (by kernel_rfl) (by decide) (by decide) (fun _ => ?_) (fun _ => ?_) (fun _ => ?_) (fun _ hr_ => ?_); rotate_right 4; (go_simp; rfl); (exact ⟨rfl, rfl, rfl⟩); (simp only [List.map_cons, List.map_nil, List.flatMap_cons, List.flatMap_nil, Value.cells, List.cons_append, List.nil_append, List.append_nil]; rfl)))
      apply LexR_end
      refine hK _ _ ?_
      clear hK K_
      repeat clear hr_
      clear hb_ R_ hops_ ops_
      intro w1 hw1 hf1
      apply tailR (fun _ => ?_) (fun _ => ?_) ?_
      rotate_right 2
      · simp only [putAll, Act.put, List.setIfInBounds_toArray, List.set_cons_succ, List.set_cons_zero]; first | done | rfl
      · simp only [List.drop_succ_cons, List.drop_zero]; first | done | rfl
      simp [allFacts, contOf, Exp.putAt, Exp.fact, Exp.fresh, Exp.blk] at hf1
      clear hf1 ck
      replace k2 := grow_blk hw1 k2
      replace k3 := grow_blk hw1 k3
      replace k5 := grow_blk hw1 k5
      replace k6 := grow_blk hw1 k6
      replace HB := bl_call hw1 HB
      clear hw1
      go_upto_region 8 with (fail)
      have q6 := blk_lt k6
      refine wp_region_R 4 [5, 7, 8] (by kernel_rfl) (by kernel_rfl) (by kernel_rfl) (by kernel_rfl) ?_
      intro K_ ops_ hops_ hK
      replace hops_ := Lib.hid hops_
      apply Exists.intro
      intro R_ hb_
      simp only [↓baseR, ↓nthR_succ, ↓nthR_zero] at hb_
      simp only [List.take_succ_cons, List.take_zero, List.drop_succ_cons, List.drop_zero]
      repeat (first
        
        
        | (apply LexR_callF (f := 25) (by rfl) (by rfl) (by rfl) Try.func25 (by kernel_rfl) (by kernel_rfl) (fun _ => ?_) (fun w1 hw1 hd1 => ?_) (fun _ hr_ => ?_); rotate_right 3; (go_simp; first | done | rfl); exact (Of_i _ w1))
        | (apply LexR_det (by rfl) (by rfl) (by rfl) (fun w1 hw1 hd1 => ?_) (fun _ hr_ => ?_); rotate_right 2; (go_simp; first | done | rfl ))
        | (apply LexR_box (by rfl) (by rfl) (by rfl) (fun w1 hw1 hd1 => ?_) (fun _ hr_ => ?_); rotate_right 2; (go_simp; first | done | rfl))
        | (apply LexR_bs (t := 54) (e := 44) (z := .agg #[.int .u32 0]) (ho := rfl) (by rfl) (by rfl) Try.underlying54 (by kernel_rfl) (by decide) (by decide) (fun _ => ?_) (fun _ => ?_) (fun _ => ?_) (fun _ hr_ => ?_); rotate_right 4; (go_simp; rfl); (exact ⟨rfl, rfl, rfl⟩); (simp only [List.map_cons, List.map_nil, List.flatMap_cons, List.flatMap_nil, Value.cells, List.cons_append, List.nil_append, List.append_nil]; rfl)))
      apply LexR_end
      refine hK _ _ ?_
      clear hK K_
      repeat clear hr_
      clear hb_ R_ hops_ ops_
      intro w1 hw1 hf1
      apply tailR (fun _ => ?_) (fun _ => ?_) ?_
      rotate_right 2
      · simp only [putAll, Act.put, List.setIfInBounds_toArray, List.set_cons_succ, List.set_cons_zero]; first | done | rfl
      · simp only [List.drop_succ_cons, List.drop_zero]; first | done | rfl
      simp [allFacts, contOf, Exp.putAt, Exp.fact, Exp.fresh, Exp.blk] at hf1
      clear hf1 q6
      replace k2 := grow_blk hw1 k2
      replace k3 := grow_blk hw1 k3
      replace k5 := grow_blk hw1 k5
      replace k6 := grow_blk hw1 k6
      replace HB := bl_call hw1 HB
      clear hw1
      have cs := blk_cell k5 n
      rw [cw_at _ _ (by rw [pad_take_len 8 h L8.out n hn]; exact hlt)] at cs
      have fs := blk_frozen k5 n
      go_wp2_with fail
      go_roundw
      case measure => simp [intOf] <;> omega
      refine ⟨n + 1, by omega, congrArg (Value.int .i64) (by omega), bl_set _ _ (by simp; omega) HB, blk_far k2 (by simp; omega) _, blk_far k3 (by simp; omega) _, ?_, blk_far k6 (by simp; omega) _⟩
      rw [← pad_take_set 8 h L8.out n hlt, ← cw_set]
      exact blk_set k5 n _
    · obtain rfl : n = 8 := by omega
      have hlt' : ¬ ((8 : Nat) : Int) < 8 := by omega
      rw [pad_take_end 8 h L8.out] at k5
      go_upto_region 10 with (fail)
      have LB := L16
      refine wp_region_R 2 [3] (by kernel_rfl) (by kernel_rfl) (by kernel_rfl) (by kernel_rfl) ?_
      intro K_ ops_ hops_ hK
      replace hops_ := Lib.hid hops_
      apply Exists.intro
      intro R_ hb_
      simp only [↓baseR, ↓nthR_succ, ↓nthR_zero] at hb_
      simp only [List.take_succ_cons, List.take_zero, List.drop_succ_cons, List.drop_zero]
      repeat (first
        | (apply LexR_det (by rfl) (by rfl) (by rfl) (fun w1 hw1 hd1 => ?_) (fun _ hr_ => ?_); rotate_right 2; (refine run_load_rowR (ty := 41) rfl ?_ (grow_blk hw1 k3) Try.underlying41 rfl ?_; (focus (go_simp; done)); (rw [cw_size, L16.out]; kernel_rfl)))
        
        
        | (apply LexR_det (by rfl) (by rfl) (by rfl) (fun w1 hw1 hd1 => ?_) (fun _ hr_ => ?_); rotate_right 2; (go_simp; first | done | rfl ))
        | (apply LexR_box (by rfl) (by rfl) (by rfl) (fun w1 hw1 hd1 => ?_) (fun _ hr_ => ?_); rotate_right 2; (go_simp; first | done | rfl))
        | (apply LexR_bs (t := 54) (e := 44) (z := .agg #[.int .u32 0]) (ho := rfl) (by rfl) (by rfl) Try.underlying54 (by kernel_rfl) (by decide) (by decide) (fun _ => ?_) (fun _ => ?_) (fun _ => ?_) (fun _ hr_ => ?_); rotate_right 4; (go_simp; rfl); (exact ⟨rfl, rfl, rfl⟩); (simp only [List.map_cons, List.map_nil, List.flatMap_cons, List.flatMap_nil, Value.cells, List.cons_append, List.nil_append, List.append_nil]; rfl)))
      apply LexR_end
      refine hK _ _ ?_
      clear hK K_
      repeat clear hr_
      clear hb_ R_ hops_ ops_
      intro w1 hw1 hf1
      apply tailR (fun _ => ?_) (fun _ => ?_) ?_
      rotate_right 2
      · simp only [putAll, Act.put, List.setIfInBounds_toArray, List.set_cons_succ, List.set_cons_zero]; first | done | rfl
      · simp only [List.drop_succ_cons, List.drop_zero]; first | done | rfl
      simp [allFacts, contOf, Exp.putAt, Exp.fact, Exp.fresh, Exp.blk] at hf1
      clear hf1
      replace k2 := grow_blk hw1 k2
      replace k3 := grow_blk hw1 k3
      replace k5 := grow_blk hw1 k5
      replace k6 := grow_blk hw1 k6
      replace HB := bl_call hw1 HB
      clear hw1
      go_wp2_with fail
      have HB0 := HB
      have k20 := k2
      have k30 := k3
      have k50 := k5
      have k60 : w1.heap[g6]? = some (.cells (cw (padTo 16 (b.take 0))) 46 (0, 0)) := by rw [List.take_zero, padTo_nil]; exact k6
      clear HB k2 k3 k5 k6
      go_loopw [24] (fun i wr => ∃ n : Nat, n ≤ 16 ∧ i = .int .i64 (n : Int) ∧ Below w.heap.size w wr ∧ wr.heap[w.heap.size]? = some (.cells (cw h) 40 (0, 0)) ∧ wr.heap[w.heap.size + 1]? = some (.cells (cw b) 41 (0, 0)) ∧ wr.heap[g5]? = some (.cells (cw h) 45 (0, 0)) ∧ wr.heap[g6]? = some (.cells (cw (padTo 16 (b.take n))) 46 (0, 0))) (fun i _ => 16 - (intOf i).toNat)
      case atStart => exact ⟨0, by omega, rfl, HB0, k20, k30, k50, k60⟩
      case round =>
        clear HB0 k20 k30 k50 k60
        obtain ⟨n, hn, rfl, HB, k2, k3, k5, k6⟩ := hrel
        have pn : (0 : Int) ≤ (n : Int) := by omega
        by_cases hlt : n < 16
        · have hlt2 : (n : Int) < 16 := by omega
          have ck : (cw b)[((n : Nat) : Int).toNat]? = some (.int .u32 (iw (at32 b n))) := by rw [Int.toNat_natCast]; exact cw_at b n (by rw [L16.out]; exact hlt)
          go_upto_region 12 with (fail)
          refine wp_region_R 4 [23, 24] (by kernel_rfl) (by kernel_rfl) (by kernel_rfl) (by kernel_rfl) ?_
          intro K_ ops_ hops_ hK
          replace hops_ := Lib.hid hops_
          apply Exists.intro
          intro R_ hb_
          simp only [↓baseR, ↓nthR_succ, ↓nthR_zero] at hb_
          simp only [List.take_succ_cons, List.take_zero, List.drop_succ_cons, List.drop_zero]
          repeat (first
            | (apply LexR_det (by rfl) (by rfl) (by rfl) (fun w1 hw1 hd1 => ?_) (fun _ hr_ => ?_); rotate_right 2; (refine run_index_wordR rfl ?_ ?_ Try.underlying41 Try.underlying39 (by kernel_rfl) pn hlt2 ck; (focus (go_simp; done)); (focus (go_simp; done))))
            
            
            | (apply LexR_det (by rfl) (by rfl) (by rfl) (fun w1 hw1 hd1 => ?_) (fun _ hr_ => ?_); rotate_right 2; (go_simp; first | done | rfl ))
            | (apply LexR_box (by rfl) (by rfl) (by rfl) (fun w1 hw1 hd1 => ?_) (fun _ hr_ => ?_); rotate_right 2; (go_simp; first | done | rfl))
            | (apply LexR_bs (t := 54) (e := 44) (z := .agg #[.int .u32 0]) (ho := rfl) (by rfl) (by rfl) Try.underlying54 (by kernel_rfl) (by decide) (by decide) (fun _ => ?_) (fun _ => ?_) (fun _ => ?_) (fun _ hr_ => ?_); rotate_right 4; (go_simp; rfl); (exact ⟨rfl, rfl, rfl⟩); (simp only [List.map_cons, List.map_nil, List.flatMap_cons, List.flatMap_nil, Value.cells, List.cons_append, List.nil_append, List.append_nil]; rfl)))
          apply LexR_end
          refine hK _ _ ?_
          clear hK K_
          repeat clear hr_
          clear hb_ R_ hops_ ops_
          intro w1 hw1 hf1
          apply tailR (fun _ => ?_) (fun _ => ?_) ?_
          rotate_right 2
          · simp only [putAll, Act.put, List.setIfInBounds_toArray, List.set_cons_succ, List.set_cons_zero]; first | done | rfl
          · simp only [List.drop_succ_cons, List.drop_zero]; first | done | rfl
          simp [allFacts, contOf, Exp.putAt, Exp.fact, Exp.fresh, Exp.blk] at hf1
          clear hf1 ck
          replace k2 := grow_blk hw1 k2
          replace k3 := grow_blk hw1 k3
          replace k5 := grow_blk hw1 k5
          replace k6 := grow_blk hw1 k6
          replace HB := bl_call hw1 HB
          clear hw1
          go_upto_region 13 with (fail)
          refine wp_region_R 4 [6, 9, 10] (by kernel_rfl) (by kernel_rfl) (by kernel_rfl) (by kernel_rfl) ?_
          intro K_ ops_ hops_ hK
          replace hops_ := Lib.hid hops_
          apply Exists.intro
          intro R_ hb_
          simp only [↓baseR, ↓nthR_succ, ↓nthR_zero] at hb_
          simp only [List.take_succ_cons, List.take_zero, List.drop_succ_cons, List.drop_zero]
          repeat (first
            
            
            | (apply LexR_callF (f := 25) (by rfl) (by rfl) (by rfl) Try.func25 (by kernel_rfl) (by kernel_rfl) (fun _ => ?_) (fun w1 hw1 hd1 => ?_) (fun _ hr_ => ?_); rotate_right 3; (go_simp; first | done | rfl); exact (Of_i _ w1))
            | (apply LexR_det (by rfl) (by rfl) (by rfl) (fun w1 hw1 hd1 => ?_) (fun _ hr_ => ?_); rotate_right 2; (go_simp; first | done | rfl ))
            | (apply LexR_box (by rfl) (by rfl) (by rfl) (fun w1 hw1 hd1 => ?_) (fun _ hr_ => ?_); rotate_right 2; (go_simp; first | done | rfl))
            | (apply LexR_bs (t := 54) (e := 44) (z := .agg #[.int .u32 0]) (ho := rfl) (by rfl) (by rfl) Try.underlying54 (by kernel_rfl) (by decide) (by decide) (fun _ => ?_) (fun _ => ?_) (fun _ => ?_) (fun _ hr_ => ?_); rotate_right 4; (go_simp; rfl); (exact ⟨rfl, rfl, rfl⟩); (simp only [List.map_cons, List.map_nil, List.flatMap_cons, List.flatMap_nil, Value.cells, List.cons_append, List.nil_append, List.append_nil]; rfl)))
          apply LexR_end
          refine hK _ _ ?_
          clear hK K_
          repeat clear hr_
          clear hb_ R_ hops_ ops_
          intro w1 hw1 hf1
          apply tailR (fun _ => ?_) (fun _ => ?_) ?_
          rotate_right 2
          · simp only [putAll, Act.put, List.setIfInBounds_toArray, List.set_cons_succ, List.set_cons_zero]; first | done | rfl
          · simp only [List.drop_succ_cons, List.drop_zero]; first | done | rfl
          simp [allFacts, contOf, Exp.putAt, Exp.fact, Exp.fresh, Exp.blk] at hf1
          clear hf1
          replace k2 := grow_blk hw1 k2
          replace k3 := grow_blk hw1 k3
          replace k5 := grow_blk hw1 k5
          replace k6 := grow_blk hw1 k6
          replace HB := bl_call hw1 HB
          clear hw1
          have cs := blk_cell k6 n
          rw [cw_at _ _ (by rw [pad_take_len 16 b L16.out n hn]; exact hlt)] at cs
          have fs := blk_frozen k6 n
          go_wp2_with fail
          go_roundw
          case measure => simp [intOf] <;> omega
          refine ⟨n + 1, by omega, congrArg (Value.int .i64) (by omega), bl_set _ _ (by simp; omega) HB, blk_far k2 (by simp; omega) _, blk_far k3 (by simp; omega) _, blk_far k5 (by simp; omega) _, ?_⟩
          rw [← pad_take_set 16 b L16.out n hlt, ← cw_set]
          exact blk_set k6 n _
        · obtain rfl : n = 16 := by omega
          have hlt2 : ¬ ((16 : Nat) : Int) < 16 := by omega
          rw [pad_take_end 16 b L16.out] at k6
          go_upto_region 15 with (fail)
          refine wp_region_R 13 [2, 3, 5, 6] (by kernel_rfl) (by kernel_rfl) (by kernel_rfl) (by kernel_rfl) ?_
          intro K_ ops_ hops_ hK
          replace hops_ := Lib.hid hops_
          apply Exists.intro
          intro R_ hb_
          simp only [↓baseR, ↓nthR_succ, ↓nthR_zero] at hb_
          simp only [List.take_succ_cons, List.take_zero, List.drop_succ_cons, List.drop_zero]
          repeat (first
            | (apply LexR_det (by rfl) (by rfl) (by rfl) (fun w1 hw1 hd1 => ?_) (fun _ hr_ => ?_); rotate_right 2; (refine run_load_rowR (ty := 45) rfl ?_ (grow_blk hw1 k5) Try.underlying45 rfl ?_; (focus (go_simp; done)); (rw [cw_size, L8.out]; kernel_rfl))) | (apply LexR_det (by rfl) (by rfl) (by rfl) (fun w1 hw1 hd1 => ?_) (fun _ hr_ => ?_); rotate_right 2; (refine run_load_rowR (ty := 46) rfl ?_ (grow_blk hw1 k6) Try.underlying46 rfl ?_; (focus (go_simp; done)); (rw [cw_size, L16.out]; kernel_rfl))) | (apply LexR_det (by rfl) (by rfl) (by rfl) (fun w1 hw1 hd1 => ?_) (fun _ hr_ => ?_); rotate_right 2; (refine run_load_rowR (ty := 40) rfl ?_ (grow_blk hw1 k2) Try.underlying40 rfl ?_; (focus (go_simp; done)); (rw [cw_size, L8.out]; kernel_rfl))) | (apply LexR_det (by rfl) (by rfl) (by rfl) (fun w1 hw1 hd1 => ?_) (fun _ hr_ => ?_); rotate_right 2; (refine run_load_rowR (ty := 41) rfl ?_ (grow_blk hw1 k3) Try.underlying41 rfl ?_; (focus (go_simp; done)); (rw [cw_size, L16.out]; kernel_rfl)))
            
            | (apply LexR_callF (f := 27) (by rfl) (by rfl) (by rfl) Try.func27 (by kernel_rfl) (by kernel_rfl) (fun _ => ?_) (fun w1 hw1 hd1 => ?_) (fun _ hr_ => ?_); rotate_right 3; (go_simp; first | done | rfl); exact (Step_c _ _ L8.out L16.out w1)) | (apply LexR_callF (f := 28) (by rfl) (by rfl) (by rfl) Try.func28 (by kernel_rfl) (by kernel_rfl) (fun _ => ?_) (fun w1 hw1 hd1 => ?_) (fun _ hr_ => ?_); rotate_right 3; (go_simp; first | done | rfl); exact (rStep_c _ _ L8.out L16.out w1)) | (apply LexR_callF (f := 26) (by rfl) (by rfl) (by rfl) Try.func26 (by kernel_rfl) (by kernel_rfl) (fun _ => ?_) (fun w1 hw1 hd1 => ?_) (fun _ hr_ => ?_); rotate_right 3; (go_simp; first | done | rfl); exact (Is_c _ LS.out w1)) | (apply LexR_callF (f := 29) (by rfl) (by rfl) (wanted_guard rfl (by rw [hops_.out]; rfl) rfl (by go_simp)) Try.func29 (by kernel_rfl) (by kernel_rfl) (fun _ => ?_) (fun w1 hw1 hd1 => ?_) (fun _ hr_ => ?_); rotate_right 3; (go_simp; first | done | rfl); exact (First_c w1)) | (apply LexR_callF (f := 30) (by rfl) (by rfl) (wanted_guard rfl (by rw [hops_.out]; rfl) rfl (by go_simp)) Try.func30 (by kernel_rfl) (by kernel_rfl) (fun _ => ?_) (fun w1 hw1 hd1 => ?_) (fun _ hr_ => ?_); rotate_right 3; (go_simp; first | done | rfl); exact (rFirst_c w1)) | (apply LexR_callF (f := 26) (by rfl) (by rfl) (wanted_guard rfl (by rw [hops_.out]; rfl) rfl (by go_simp)) Try.func26 (by kernel_rfl) (by kernel_rfl) (fun _ => ?_) (fun w1 hw1 hd1 => ?_) (fun _ hr_ => ?_); rotate_right 3; (go_simp; first | done | rfl); exact (Is_c _ (by rfl) w1))
            | (apply LexR_det (by rfl) (by rfl) (by rfl) (fun w1 hw1 hd1 => ?_) (fun _ hr_ => ?_); rotate_right 2; (go_simp; first | done | rfl ))
            | (apply LexR_box (by rfl) (by rfl) (by rfl) (fun w1 hw1 hd1 => ?_) (fun _ hr_ => ?_); rotate_right 2; (go_simp; first | done | rfl))
            | (apply LexR_bs (t := 54) (e := 44) (z := .agg #[.int .u32 0]) (ho := rfl) (by rfl) (by rfl) Try.underlying54 (by kernel_rfl) (by decide) (by decide) (fun _ => ?_) (fun _ => ?_) (fun _ => ?_) (fun _ hr_ => ?_); rotate_right 4; (go_simp; rfl); (exact ⟨rfl, rfl, rfl⟩); (simp only [List.map_cons, List.map_nil, List.flatMap_cons, List.flatMap_nil, Value.cells, List.cons_append, List.nil_append, List.append_nil]; rfl)))
          apply LexR_end
          refine hK _ _ ?_
          clear hK K_
          repeat clear hr_
          clear hb_ R_ hops_ ops_
          intro w1 hw1 hf1
          apply tailR (fun _ => ?_) (fun _ => ?_) ?_
          rotate_right 2
          · simp only [putAll, Act.put, List.setIfInBounds_toArray, List.set_cons_succ, List.set_cons_zero]; first | done | rfl
          · simp only [List.drop_succ_cons, List.drop_zero]; first | done | rfl
          simp [allFacts, contOf, Exp.putAt, Exp.fact, Exp.fresh, Exp.blk] at hf1
          replace HB := bl_call hw1 HB
          go_wp2
          exact bodyPost_ret (v := .bool true) (by simp [results, Try.results6, go_sem]) rfl ⟨rfl, HB⟩
end Go.Proofs.Ytekblfcmmkipgaa

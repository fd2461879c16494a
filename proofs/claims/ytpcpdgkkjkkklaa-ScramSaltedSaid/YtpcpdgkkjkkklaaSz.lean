/- The law ScramSalted. -/
import Derived.Test.YtpcpdgkkjkkklaaSy
namespace Go.Proofs.Ytpcpdgkkjkkklaa
open Go.RowKit Go.Lib
set_option maxRecDepth 100000
set_option linter.unusedSimpArgs false
set_option linter.unusedVariables false
attribute [local go_sem] evR_tmp evR_const evR_global evR_func
set_option maxHeartbeats 8000000 in
theorem ScramSalted_all (h : List W32) (hh : h.length = 8) (w : World) : Calls Try.prog 5 #[.agg (cw h)] w fun e w' => e = .returned (.bool true) ∧ Below w.heap.size w w' := by
  have hK := fun w => sKeys_c h hh w
  have hB := fun w => rBytes_c h hh w
  have LB : (refBytes h).length = 32 := refBytes_length _ hh
  have hR := fun (w1 : World) (kv : Value) (hr : RowB w1 kv (refBytes h)) => rKeys_c (refBytes h) kv w1 (by omega) hr
  have LC := Lib.hid (stoW_length (refBytes h))
  have LS := Lib.hid (serW_length (refBytes h))
  have hI1 := fun w => is27_c _ LC.out w
  have hI2 := fun w => is27_c _ LS.out w
  rw [show (⟨(refBytes (stoW (refBytes h))).toArray⟩ : ByteArray) = stoB (refBytes h) from rfl] at hI1
  rw [show (⟨(refBytes (serW (refBytes h))).toArray⟩ : ByteArray) = serB (refBytes h) from rfl] at hI2
  generalize stoB (refBytes h) = x1 at hR hI1
  generalize serB (refBytes h) = x2 at hR hI2
  generalize stoW (refBytes h) = c1 at hK LC hI1
  generalize serW (refBytes h) = s1 at hK LS hI2
  generalize refBytes h = bs at hB LB hR
  have L8 := Lib.hid hh
  replace LB := Lib.hid LB
  replace hK := Lib.hid hK
  replace hB := Lib.hid hB
  replace hR := Lib.hid hR
  clear hh
  go_enter Try.func5, Try.ntmps5
  go_upto_region 1 with (fail)
  refine gen_world fun W hW => ?_
  have k2 : W.heap[w.heap.size]? = some (.cells (cw h) 33 (0, 0)) := by subst hW; (repeat (first | (with_reducible assumption) | ((with_reducible refine blk_new' ?_ _); (simp; done)) | ((with_reducible refine blk_alloc ?_ _)) | ((with_reducible refine blk_far ?_ ?_ _); (simp <;> omega))))
  have HB : Below w.heap.size w W := by subst hW; (repeat (first | exact Below.refl _ _ | (refine bl_alloc ?_ _) | (refine bl_drewN ?_ _) | (refine bl_drew ?_) | (refine bl_call (by assumption) ?_) | (refine bl_set _ _ (by simp <;> omega) ?_) | assumption))
  clear hW
  go_upto_region 3 with (go_at_call 7; refine (awake27_c _).mono ?_; rintro e w1 ⟨rfl, hw1⟩)
  replace k2 := grow_blk hw1 k2
  replace HB := bl_call hw1 HB
  clear hw1
  have q3 := blk_lt k2
  refine wp_region_R 1 [] (by kernel_rfl) (by kernel_rfl) (by kernel_rfl) (by kernel_rfl) ?_
  intro K_ ops_ hops_ hK
  replace hops_ := Lib.hid hops_
  apply Exists.intro
  intro R_ hb_
  simp only [↓baseR, ↓nthR_succ, ↓nthR_zero] at hb_
  simp only [List.take_succ_cons, List.take_zero, List.drop_succ_cons, List.drop_zero]
  repeat (first
    
    
    
    | (apply LexR_det (by rfl) (by rfl) (by rfl) (fun w1 hw1 hd1 => ?_) (fun _ hr_ => ?_); rotate_right 2; (go_simp; first | done | rfl ))
    | (apply LexR_box (by rfl) (by rfl) (by rfl) (fun w1 hw1 hd1 => ?_) (fun _ hr_ => ?_); rotate_right 2; (go_simp; first | done | rfl))
    | (apply LexR_bs (t := 60) (e := 36) (z := .agg #[.int .u32 0]) (ho := rfl) (by rfl) (by rfl) Try.underlying60 (by kernel_rfl) (by decide) (by decide) (fun _ => ?_) (fun _ => ?_) (fun _ => ?_) (fun _ hr_ => ?_); rotate_right 4; (go_simp; rfl); (exact ⟨rfl, rfl, rfl⟩); (simp only [List.map_cons, List.map_nil, List.flatMap_cons, List.flatMap_nil, Value.cells, List.cons_append, List.nil_append, List.append_nil]; rfl)))
  apply LexR_end
  refine hK _ _ ?_
  clear hK K_
  repeat clear hr_
  clear hb_ R_ hops_ ops_
  intro w1 hw1 hf1
  apply tailR (fun _ => ?_) (fun _ => ?_) ?_
  rotate_right 2
  · simp only [putAll, Act.put, List.setIfInBounds_toArray, List.set_cons_succ, List.set_cons_zero]; first | done | rfl
  · simp only [List.drop_succ_cons, List.drop_zero]; first | done | rfl
  simp [allFacts, contOf, Exp.putAt, Exp.fact, Exp.fresh, Exp.blk] at hf1
  obtain ⟨k5, l5⟩ := hf1
  obtain ⟨g5, e_⟩ := name_blk k5
  subst e_
  replace k2 := grow_blk hw1 k2
  replace HB := bl_call hw1 HB
  have m5 : w.heap.size < g5 := by omega
  clear hw1 l5 q3
  go_upto_region 4 with (fail)
  refine wp_region_R 2 [1] (by kernel_rfl) (by kernel_rfl) (by kernel_rfl) (by kernel_rfl) ?_
  intro K_ ops_ hops_ hK
  replace hops_ := Lib.hid hops_
  apply Exists.intro
  intro R_ hb_
  simp only [↓baseR, ↓nthR_succ, ↓nthR_zero] at hb_
  simp only [List.take_succ_cons, List.take_zero, List.drop_succ_cons, List.drop_zero]
  repeat (first
    | (apply LexR_det (by rfl) (by rfl) (by rfl) (fun w1 hw1 hd1 => ?_) (fun _ hr_ => ?_); rotate_right 2; (refine run_load_rowR (ty := 33) rfl ?_ (grow_blk hw1 k2) Try.underlying33 rfl ?_; (focus (go_simp; done)); (rw [cw_size, L8.out]; kernel_rfl)))
    
    
    | (apply LexR_det (by rfl) (by rfl) (by rfl) (fun w1 hw1 hd1 => ?_) (fun _ hr_ => ?_); rotate_right 2; (go_simp; first | done | rfl ))
    | (apply LexR_box (by rfl) (by rfl) (by rfl) (fun w1 hw1 hd1 => ?_) (fun _ hr_ => ?_); rotate_right 2; (go_simp; first | done | rfl))
    | (apply LexR_bs (t := 60) (e := 36) (z := .agg #[.int .u32 0]) (ho := rfl) (by rfl) (by rfl) Try.underlying60 (by kernel_rfl) (by decide) (by decide) (fun _ => ?_) (fun _ => ?_) (fun _ => ?_) (fun _ hr_ => ?_); rotate_right 4; (go_simp; rfl); (exact ⟨rfl, rfl, rfl⟩); (simp only [List.map_cons, List.map_nil, List.flatMap_cons, List.flatMap_nil, Value.cells, List.cons_append, List.nil_append, List.append_nil]; rfl)))
  apply LexR_end
  refine hK _ _ ?_
  clear hK K_
  repeat clear hr_
  clear hb_ R_ hops_ ops_
  intro w1 hw1 hf1
  apply tailR (fun _ => ?_) (fun _ => ?_) ?_
  rotate_right 2
  · simp only [putAll, Act.put, List.setIfInBounds_toArray, List.set_cons_succ, List.set_cons_zero]; first | done | rfl
  · simp only [List.drop_succ_cons, List.drop_zero]; first | done | rfl
  simp [allFacts, contOf, Exp.putAt, Exp.fact, Exp.fresh, Exp.blk] at hf1
  clear hf1
  replace k2 := grow_blk hw1 k2
  replace k5 := grow_blk hw1 k5
  replace HB := bl_call hw1 HB
  clear hw1
  go_wp2_with fail
  have HB0 := HB
  have k20 := k2
  have k50 : w1.heap[g5]? = some (.cells (cw (padTo 8 (h.take 0))) 37 (0, 0)) := by rw [List.take_zero, padTo_nil]; exact k5
  clear HB k2 k5
  go_loopw [13] (fun i wr => ∃ n : Nat, n ≤ 8 ∧ i = .int .i64 (n : Int) ∧ Below w.heap.size w wr ∧ wr.heap[w.heap.size]? = some (.cells (cw h) 33 (0, 0)) ∧ wr.heap[g5]? = some (.cells (cw (padTo 8 (h.take n))) 37 (0, 0))) (fun i _ => 8 - (intOf i).toNat)
  case atStart => exact ⟨0, by omega, rfl, HB0, k20, k50⟩
  case round =>
    clear HB0 k20 k50
    obtain ⟨n, hn, rfl, HB, k2, k5⟩ := hrel
    have pn : (0 : Int) ≤ (n : Int) := by omega
    by_cases hlt : n < 8
    · have hlt' : (n : Int) < 8 := by omega
      have ck : (cw h)[((n : Nat) : Int).toNat]? = some (.int .u32 (iw (at32 h n))) := by rw [Int.toNat_natCast]; exact cw_at h n (by rw [L8.out]; exact hlt)
      go_upto_region 6 with (fail)
      refine wp_region_R 4 [12, 13] (by kernel_rfl) (by kernel_rfl) (by kernel_rfl) (by kernel_rfl) ?_
      intro K_ ops_ hops_ hK
      replace hops_ := Lib.hid hops_
      apply Exists.intro
      intro R_ hb_
      simp only [↓baseR, ↓nthR_succ, ↓nthR_zero] at hb_
      simp only [List.take_succ_cons, List.take_zero, List.drop_succ_cons, List.drop_zero]
      repeat (first
        | (apply LexR_det (by rfl) (by rfl) (by rfl) (fun w1 hw1 hd1 => ?_) (fun _ hr_ => ?_); rotate_right 2; (refine run_index_wordR rfl ?_ ?_ Try.underlying33 Try.underlying32 (by kernel_rfl) pn hlt' ck; (focus (go_simp; done)); (focus (go_simp; done))))
        
        
        | (apply LexR_det (by rfl) (by rfl) (by rfl) (fun w1 hw1 hd1 => ?_) (fun _ hr_ => ?_); rotate_right 2; (go_simp; first | done | rfl ))
        | (apply LexR_box (by rfl) (by rfl) (by rfl) (fun w1 hw1 hd1 => ?_) (fun _ hr_ => ?_); rotate_right 2; (go_simp; first | done | rfl))
        | (apply LexR_bs (t := 60) (e := 36) (z := .agg #[.int .u32 0]) (ho := rfl) (by rfl) (by rfl) Try.underlying60 (by kernel_rfl) (by decide) (by decide) (fun _ => ?_) (fun _ => ?_) (fun _ => ?_) (fun _ hr_ => ?_); rotate_right 4; (go_simp; rfl); (exact ⟨rfl, rfl, rfl⟩); (simp only [List.map_cons, List.map_nil, List.flatMap_cons, List.flatMap_nil, Value.cells, List.cons_append, List.nil_append, List.append_nil]; rfl)))
      apply LexR_end
      refine hK _ _ ?_
      clear hK K_
      repeat clear hr_
      clear hb_ R_ hops_ ops_
      intro w1 hw1 hf1
      apply tailR (fun _ => ?_) (fun _ => ?_) ?_
      rotate_right 2
      · simp only [putAll, Act.put, List.setIfInBounds_toArray, List.set_cons_succ, List.set_cons_zero]; first | done | rfl
      · simp only [List.drop_succ_cons, List.drop_zero]; first | done | rfl
      simp [allFacts, contOf, Exp.putAt, Exp.fact, Exp.fresh, Exp.blk] at hf1
      clear hf1 ck
      replace k2 := grow_blk hw1 k2
      replace k5 := grow_blk hw1 k5
      replace HB := bl_call hw1 HB
      clear hw1
      go_upto_region 7 with (fail)
      refine wp_region_R 4 [3, 4, 5] (by kernel_rfl) (by kernel_rfl) (by kernel_rfl) (by kernel_rfl) ?_
      intro K_ ops_ hops_ hK
      replace hops_ := Lib.hid hops_
      apply Exists.intro
      intro R_ hb_
      simp only [↓baseR, ↓nthR_succ, ↓nthR_zero] at hb_
      simp only [List.take_succ_cons, List.take_zero, List.drop_succ_cons, List.drop_zero]
      repeat (first
        
        
        | (apply LexR_callF (f := 15) (by rfl) (by rfl) (by rfl) Try.func15 (by kernel_rfl) (by kernel_rfl) (fun _ => ?_) (fun w1 hw1 hd1 => ?_) (fun _ hr_ => ?_); rotate_right 3; (go_simp; first | done | rfl); exact (Of_i _ w1))
        | (apply LexR_det (by rfl) (by rfl) (by rfl) (fun w1 hw1 hd1 => ?_) (fun _ hr_ => ?_); rotate_right 2; (go_simp; first | done | rfl ))
        | (apply LexR_box (by rfl) (by rfl) (by rfl) (fun w1 hw1 hd1 => ?_) (fun _ hr_ => ?_); rotate_right 2; (go_simp; first | done | rfl))
        | (apply LexR_bs (t := 60) (e := 36) (z := .agg #[.int .u32 0]) (ho := rfl) (by rfl) (by rfl) Try.underlying60 (by kernel_rfl) (by decide) (by decide) (fun _ => ?_) (fun _ => ?_) (fun _ => ?_) (fun _ hr_ => ?_); rotate_right 4; (go_simp; rfl); (exact ⟨rfl, rfl, rfl⟩); (simp only [List.map_cons, List.map_nil, List.flatMap_cons, List.flatMap_nil, Value.cells, List.cons_append, List.nil_append, List.append_nil]; rfl)))
      apply LexR_end
      refine hK _ _ ?_
      clear hK K_
      repeat clear hr_
      clear hb_ R_ hops_ ops_
      intro w1 hw1 hf1
      apply tailR (fun _ => ?_) (fun _ => ?_) ?_
      rotate_right 2
      · simp only [putAll, Act.put, List.setIfInBounds_toArray, List.set_cons_succ, List.set_cons_zero]; first | done | rfl
      · simp only [List.drop_succ_cons, List.drop_zero]; first | done | rfl
      simp [allFacts, contOf, Exp.putAt, Exp.fact, Exp.fresh, Exp.blk] at hf1
      clear hf1
      replace k2 := grow_blk hw1 k2
      replace k5 := grow_blk hw1 k5
      replace HB := bl_call hw1 HB
      clear hw1
      have cs := blk_cell k5 n
      rw [cw_at _ _ (by rw [pad_take_len 8 h L8.out n hn]; exact hlt)] at cs
      have fs := blk_frozen k5 n
      go_wp2_with fail
      go_roundw
      case measure => simp [intOf] <;> omega
      refine ⟨n + 1, by omega, congrArg (Value.int .i64) (by omega), bl_set _ _ (by simp; omega) HB, blk_far k2 (by simp; omega) _, ?_⟩
      rw [← pad_take_set 8 h L8.out n hlt, ← cw_set]
      exact blk_set k5 n _
    · obtain rfl : n = 8 := by omega
      have hlt' : ¬ ((8 : Nat) : Int) < 8 := by omega
      rw [pad_take_end 8 h L8.out] at k5
      have hK2 := hK.out
      have hB2 := hB.out
      have hR2 := hR.out
      clear hK hB hR
      go_upto_region 10 with (first | (refine wpList_load_row rfl _ _ rfl g5 rfl 37 (cw h) (0, 0) _ k5 Try.underlying37 rfl (by rw [cw_size, L8.out]; kernel_rfl) ?_) | (go_at_call 16; refine (hK2 _).mono ?_; rintro e w3 ⟨rfl, hw3⟩) | (refine wpList_store_row rfl _ _ _ rfl w3.heap.size (cw c1) rfl rfl 37 _ (blk_alloc (blk_new w3 _) _) (by rw [cw_size, LC.out]; kernel_rfl) (by rw [cw_size, LC.out]; rfl) (cw_one _) ?_) | (refine wpList_store_row rfl _ _ _ rfl (w3.heap.size + 1) (cw s1) rfl rfl 37 _ (setRow_far (blk_new' (by simp) _) (by omega) _) (by rw [cw_size, LS.out]; kernel_rfl) (by rw [cw_size, LS.out]; rfl) (cw_one _) ?_))
      refine gen_world fun W4 hW => ?_
      have k6 : W4.heap[w3.heap.size]? = some (.cells (cw c1) 37 (0, 0)) := by subst hW; exact setRow_far (setRow_blk (blk_alloc (blk_new w3 _) _) _) (by omega) _
      have k7 : W4.heap[w3.heap.size + 1]? = some (.cells (cw s1) 37 (0, 0)) := by subst hW; exact setRow_blk (setRow_far (blk_new' (by simp) _) (by omega) _) _
      have hb2 : Below w3.heap.size w3 W4 := by subst hW; exact bl_row _ _ (by omega) (bl_row _ _ (Nat.le_refl _) (bl_alloc (bl_alloc (Below.refl _ _) _) _))
      have hb3 := bl_call hb2 hw3
      replace k2 := grow_blk hb3 k2
      replace HB := bl_call hb3 HB
      obtain ⟨g6, hg6⟩ : ∃ g, g = w3.heap.size := ⟨_, rfl⟩
      obtain ⟨g7, hg7⟩ : ∃ g, g = w3.heap.size + 1 := ⟨_, rfl⟩
      rw [← hg7] at k7 ⊢
      rw [← hg6] at k6 ⊢
      clear hW hb2 hb3 hw3 k5 hg6 hg7 hK2 w3
      go_upto_region 11 with (first | (refine wpList_load_row rfl _ _ rfl w.heap.size rfl 33 (cw h) (0, 0) _ k2 Try.underlying33 rfl (by rw [cw_size, L8.out]; kernel_rfl) ?_) | (go_at_call 18; refine (hB2 _).mono ?_; rintro e w5 ⟨g8, cap8, cur8, rfl, h1, h2, k8, t8, hb5⟩; have hR8 := rowOf cap8 k8 t8 LB.out) | (go_at_call 17; refine (hR2 _ _ hR8).mono ?_; rintro e w6 ⟨rfl, hb6⟩))
      have hb7 := bl_call hb6 hb5
      replace k6 := grow_blk hb7 k6
      replace k7 := grow_blk hb7 k7
      replace HB := bl_call hb7 HB
      clear hb5 hb6 hb7 hR8 k8 t8 h1 h2 k2 hB2 hR2
      refine wp_region_R 8 [6, 7, 8, 9] (by kernel_rfl) (by kernel_rfl) (by kernel_rfl) (by kernel_rfl) ?_
      intro K_ ops_ hops_ hK
      replace hops_ := Lib.hid hops_
      apply Exists.intro
      intro R_ hb_
      simp only [↓baseR, ↓nthR_succ, ↓nthR_zero] at hb_
      simp only [List.take_succ_cons, List.take_zero, List.drop_succ_cons, List.drop_zero]
      repeat (first
        | (apply LexR_det (by rfl) (by rfl) (by rfl) (fun w1 hw1 hd1 => ?_) (fun _ hr_ => ?_); rotate_right 2; (refine run_load_rowR (ty := 37) rfl ?_ (grow_blk hw1 k6) Try.underlying37 rfl ?_; (focus (go_simp; done)); (rw [cw_size, LC.out]; kernel_rfl))) | (apply LexR_det (by rfl) (by rfl) (wanted_guard rfl (by rw [hops_.out]; rfl) rfl (by go_simp)) (fun w1 hw1 hd1 => ?_) (fun _ hr_ => ?_); rotate_right 2; (refine run_load_rowR (ty := 37) rfl ?_ (grow_blk hw1 k7) Try.underlying37 rfl ?_; (focus (go_simp; done)); (rw [cw_size, LS.out]; kernel_rfl)))
        
        | (apply LexR_callF (f := 19) (by rfl) (by rfl) (by rfl) Try.func19 (by kernel_rfl) (by kernel_rfl) (fun _ => ?_) (fun w1 hw1 hd1 => ?_) (fun _ hr_ => ?_); rotate_right 3; (go_simp; first | done | rfl); (with_reducible exact (hI1 w1))) | (apply LexR_callF (f := 19) (by rfl) (by rfl) (wanted_guard rfl (by rw [hops_.out]; rfl) rfl (by go_simp)) Try.func19 (by kernel_rfl) (by kernel_rfl) (fun _ => ?_) (fun w1 hw1 hd1 => ?_) (fun _ hr_ => ?_); rotate_right 3; (go_simp; first | done | rfl); (with_reducible exact (hI2 w1))) | (apply LexR_det (by rfl) (by rfl) (wanted_guard rfl (by rw [hops_.out]; rfl) rfl (by go_simp)) (fun w1 hw1 hd1 => ?_) (fun _ hr_ => ?_); rotate_right 2; (go_simp; first | done | rfl ))
        | (apply LexR_det (by rfl) (by rfl) (by rfl) (fun w1 hw1 hd1 => ?_) (fun _ hr_ => ?_); rotate_right 2; (go_simp; first | done | rfl ))
        | (apply LexR_box (by rfl) (by rfl) (by rfl) (fun w1 hw1 hd1 => ?_) (fun _ hr_ => ?_); rotate_right 2; (go_simp; first | done | rfl))
        | (apply LexR_bs (t := 60) (e := 36) (z := .agg #[.int .u32 0]) (ho := rfl) (by rfl) (by rfl) Try.underlying60 (by kernel_rfl) (by decide) (by decide) (fun _ => ?_) (fun _ => ?_) (fun _ => ?_) (fun _ hr_ => ?_); rotate_right 4; (go_simp; rfl); (exact ⟨rfl, rfl, rfl⟩); (simp only [List.map_cons, List.map_nil, List.flatMap_cons, List.flatMap_nil, Value.cells, List.cons_append, List.nil_append, List.append_nil]; rfl)))
      apply LexR_end
      refine hK _ _ ?_
      clear hK K_
      repeat clear hr_
      clear hb_ R_ hops_ ops_
      intro w1 hw1 hf1
      apply tailR (fun _ => ?_) (fun _ => ?_) ?_
      rotate_right 2
      · simp only [putAll, Act.put, List.setIfInBounds_toArray, List.set_cons_succ, List.set_cons_zero]; first | done | rfl
      · simp only [List.drop_succ_cons, List.drop_zero]; first | done | rfl
      simp [allFacts, contOf, Exp.putAt, Exp.fact, Exp.fresh, Exp.blk] at hf1
      go_wp2
      exact bodyPost_ret (v := .bool true) (by simp [results, Try.results5, go_sem]) rfl ⟨rfl, bl_call hw1 HB⟩
end Go.Proofs.Ytpcpdgkkjkkklaa

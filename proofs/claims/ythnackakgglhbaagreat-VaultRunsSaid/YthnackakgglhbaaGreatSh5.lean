/- Contract of sha.Step. -/
import Derived.Test.YthnackakgglhbaaGreatSh4
import Derived.Test.YthnackakgglhbaaGreatLexR
import Derived.Lib.Hide
namespace Go.Proofs.YthnackakgglhbaaGreat
open Go.RowKit
set_option maxRecDepth 100000
set_option linter.unusedSimpArgs false
set_option linter.unusedVariables false
attribute [local go_sem] evR_tmp evR_const evR_global evR_func
/-- The first n words added. -/
def addTo (s h : List W32) (n : Nat) : List W32 := List.zipWith (· + ·) (s.take n) (h.take n) ++ s.drop n
theorem addTo_zero (s h : List W32) : addTo s h 0 = s := by simp [addTo]
theorem addTo_len (s h : List W32) (hs : s.length = 8) (hh : h.length = 8) (n : Nat) (hn : n ≤ 8) : (addTo s h n).length = 8 := by simp [addTo, hs, hh]; omega
theorem addTo_at (s h : List W32) (hs : s.length = 8) (hh : h.length = 8) (n : Nat) (hn : n < 8) : at32 (addTo s h n) n = at32 s n := by
  unfold at32 addTo
  rw [List.getD_eq_getElem?_getD, List.getD_eq_getElem?_getD, List.getElem?_append_right (by simp; omega)]
  simp [hs, hh]
  congr 2
  omega
theorem addTo_set (s h : List W32) (hs : s.length = 8) (hh : h.length = 8) (n : Nat) (hn : n < 8) : (addTo s h n).set n (at32 s n + at32 h n) = addTo s h (n + 1) := by
  apply List.ext_getElem?
  intro i
  have e1 : at32 s n = s[n] := by simp [at32, hs, hn]
  have e2 : at32 h n = h[n] := by simp [at32, hh, hn]
  rw [e1, e2]
  unfold addTo
  rcases Nat.lt_trichotomy i n with q | q | q
  · rw [List.getElem?_set_ne (by omega), List.getElem?_append_left (by simp; omega), List.getElem?_append_left (by simp; omega)]
    simp [List.getElem?_zipWith, List.getElem?_take, q, Nat.lt_succ_of_lt q]
  · subst q
    rw [List.getElem?_set_self (by simp; omega), List.getElem?_append_left (by simp; omega)]
    simp [List.getElem?_zipWith, List.getElem?_take, hs, hh, hn]
  · rw [List.getElem?_set_ne (by omega), List.getElem?_append_right (by simp; omega), List.getElem?_append_right (by simp; omega)]
    simp [hs, hh]
    congr 1
    omega
theorem addTo_end (s h : List W32) (hs : s.length = 8) (hh : h.length = 8) : addTo s h 8 = List.zipWith (· + ·) s h := by
  unfold addTo
  rw [List.take_of_length_le (by omega), List.take_of_length_le (by omega), List.drop_of_length_le (by omega), List.append_nil]
set_option maxHeartbeats 8000000 in
theorem Step_c (h b : List W32) (hh : h.length = 8) (hb : b.length = 16) (w : World) : Calls Tryz.prog 97 #[.agg (cw h), .agg (cw b)] w fun e w' => e = .returned (.agg (cw (stepw h b))) ∧ Below w.heap.size w w' := by
  have SP : Hid (∀ w1, Calls Tryz.prog 108 #[.agg (cw b)] w1 fun e w' => e = .returned (.agg (cw (spreadTo b 48))) ∧ Below w1.heap.size w1 w') := spread_c64 b hb
  have L64 : Hid ((spreadTo b 48).length = 64) := spreadTo_length b hb 48
  have L8 := Lib.hid hh
  have L16 := Lib.hid hb
  unfold stepw
  generalize spreadTo b 48 = ws at *
  clear hh hb
  go_enter Tryz.func97, Tryz.ntmps97
  go_upto_region 1 with (fail)
  refine gen_world fun W hW => ?_
  have k2 : W.heap[w.heap.size]? = some (.cells (cw h) 81 (0, 0)) := by subst hW; (repeat (first | (with_reducible assumption) | ((with_reducible refine blk_new' ?_ _); (simp; done)) | ((with_reducible refine blk_alloc ?_ _)) | ((with_reducible refine blk_far ?_ ?_ _); (simp <;> omega))))
  have k3 : W.heap[w.heap.size + 1]? = some (.cells (cw b) 140 (0, 0)) := by subst hW; (repeat (first | (with_reducible assumption) | ((with_reducible refine blk_new' ?_ _); (simp; done)) | ((with_reducible refine blk_alloc ?_ _)) | ((with_reducible refine blk_far ?_ ?_ _); (simp <;> omega))))
  have k4 : W.heap[w.heap.size + 1 + 1]? = some (.cells (Array.replicate 8 (.int .u32 0)) 81 (0, 0)) := by subst hW; exact blk_new' (by simp) _
  have HB : Below w.heap.size w W := by subst hW; (repeat (first | exact Below.refl _ _ | (refine bl_alloc ?_ _) | (refine bl_drewN ?_ _) | (refine bl_drew ?_) | (refine bl_call (by assumption) ?_) | (refine bl_set _ _ (by simp <;> omega) ?_) | assumption))
  clear hW
  have q4 := blk_lt k4
  refine wp_region_R 7 [3] (by kernel_rfl) (by kernel_rfl) (by kernel_rfl) (by kernel_rfl) ?_
  intro K_ ops_ hops_ hK
  replace hops_ := Lib.hid hops_
  apply Exists.intro
  intro R_ hb_
  simp only [↓baseR, ↓nthR_succ, ↓nthR_zero] at hb_
  simp only [List.take_succ_cons, List.take_zero, List.drop_succ_cons, List.drop_zero]
  repeat (first
    | (apply LexR_det (by rfl) (by rfl) (by rfl) (fun w1 hw1 hd1 => ?_) (fun _ hr_ => ?_); rotate_right 2; (refine run_load_rowR (ty := 140) rfl ?_ (grow_blk hw1 k3) Tryz.underlying140 rfl ?_; (focus (go_simp; done)); (rw [cw_size, L16.out]; kernel_rfl)))
    | (apply LexR_put (j := 3) (ho := rfl); (go_simp; rfl); (go_simp; rfl); rfl; rfl; (focus (first | decide | (simp; done))); rfl; rfl; kernel_rfl; kernel_rfl; (first | exact cw_one _ | simp [Value.oneCell']); (first | (rw [cw_size, L64.out]; rfl) | (rw [cw_size, L8.out]; rfl) | (rw [cw_size]; rfl) | rfl); intro _) | (apply LexR_put (j := 4) (ho := rfl); (go_simp; rfl); (go_simp; rfl); rfl; rfl; (focus (first | decide | (simp; done))); rfl; rfl; kernel_rfl; kernel_rfl; (first | exact cw_one _ | simp [Value.oneCell']); (first | (rw [cw_size, L64.out]; rfl) | (rw [cw_size, L8.out]; rfl) | (rw [cw_size]; rfl) | rfl); intro _)
    | (apply LexR_callF (f := 108) (by rfl) (by rfl) (by rfl) Tryz.func108 (by kernel_rfl) (by kernel_rfl) (fun _ => ?_) (fun w1 hw1 hd1 => ?_) (fun _ hr_ => ?_); rotate_right 3; (go_simp; first | done | rfl); exact (SP.out w1)) | (apply LexR_callF (f := 109) (by rfl) (by rfl) (by rfl) Tryz.func109 (by kernel_rfl) (by kernel_rfl) (fun _ => ?_) (fun w1 hw1 hd1 => ?_) (fun _ hr_ => ?_); rotate_right 3; (go_simp; first | done | rfl); exact (constants_c w1))
    | (apply LexR_det (by rfl) (by rfl) (by rfl) (fun w1 hw1 hd1 => ?_) (fun _ hr_ => ?_); rotate_right 2; (go_simp; first | done | rfl ))
    | (apply LexR_box (by rfl) (by rfl) (by rfl) (fun w1 hw1 hd1 => ?_) (fun _ hr_ => ?_); rotate_right 2; (go_simp; first | done | rfl))
    | (apply LexR_bs (t := 76) (e := 80) (z := .agg #[.int .u32 0]) (ho := rfl) (by rfl) (by rfl) Tryz.underlying76 (by kernel_rfl) (by decide) (by decide) (fun _ => ?_) (fun _ => ?_) (fun _ => ?_) (fun _ hr_ => ?_); rotate_right 4; (go_simp; rfl); (exact ⟨rfl, rfl, rfl⟩); (simp only [List.map_cons, List.map_nil, List.flatMap_cons, List.flatMap_nil, Value.cells, List.cons_append, List.nil_append, List.append_nil]; rfl)))
  apply LexR_end
  refine hK _ _ ?_
  clear hK K_
  repeat clear hr_
  clear hb_ R_ hops_ ops_
  intro w1 hw1 hf1
  apply tailR (fun _ => ?_) (fun _ => ?_) ?_
  rotate_right 2
  · simp only [putAll, Act.put, List.setIfInBounds_toArray, List.set_cons_succ, List.set_cons_zero]; first | done | rfl
  · simp only [List.drop_succ_cons, List.drop_zero]; first | done | rfl
  simp [allFacts, contOf, Exp.putAt, Exp.fact, Exp.fresh, Exp.blk] at hf1
  obtain ⟨k5, l5, n56, k6, l6⟩ := hf1
  replace k2 := grow_blk hw1 k2
  replace k4 := grow_blk hw1 k4
  replace HB := bl_call hw1 HB
  obtain ⟨g5, e_⟩ := name_blk k5
  subst e_
  obtain ⟨g6, e_⟩ := name_blk k6
  subst e_
  clear hw1
  go_upto_region 2 with (fail)
  have q5 := blk_lt k5
  have q6 := blk_lt k6
  refine wp_region_R 3 [2] (by kernel_rfl) (by kernel_rfl) (by kernel_rfl) (by kernel_rfl) ?_
  intro K_ ops_ hops_ hK
  replace hops_ := Lib.hid hops_
  apply Exists.intro
  intro R_ hb_
  simp only [↓baseR, ↓nthR_succ, ↓nthR_zero] at hb_
  simp only [List.take_succ_cons, List.take_zero, List.drop_succ_cons, List.drop_zero]
  repeat (first
    | (apply LexR_det (by rfl) (by rfl) (by rfl) (fun w1 hw1 hd1 => ?_) (fun _ hr_ => ?_); rotate_right 2; (refine run_load_rowR (ty := 81) rfl ?_ (grow_blk hw1 k2) Tryz.underlying81 rfl ?_; (focus (go_simp; done)); (rw [cw_size, L8.out]; kernel_rfl)))
    | (apply LexR_put (j := 1) (ho := rfl); (go_simp; rfl); (go_simp; rfl); rfl; rfl; (focus (first | decide | (simp; done))); rfl; rfl; kernel_rfl; kernel_rfl; (first | exact cw_one _ | simp [Value.oneCell']); (first | (rw [cw_size, L64.out]; rfl) | (rw [cw_size, L8.out]; rfl) | (rw [cw_size]; rfl) | rfl); intro _)
    
    | (apply LexR_det (by rfl) (by rfl) (by rfl) (fun w1 hw1 hd1 => ?_) (fun _ hr_ => ?_); rotate_right 2; (go_simp; first | done | rfl ))
    | (apply LexR_box (by rfl) (by rfl) (by rfl) (fun w1 hw1 hd1 => ?_) (fun _ hr_ => ?_); rotate_right 2; (go_simp; first | done | rfl))
    | (apply LexR_bs (t := 76) (e := 80) (z := .agg #[.int .u32 0]) (ho := rfl) (by rfl) (by rfl) Tryz.underlying76 (by kernel_rfl) (by decide) (by decide) (fun _ => ?_) (fun _ => ?_) (fun _ => ?_) (fun _ hr_ => ?_); rotate_right 4; (go_simp; rfl); (exact ⟨rfl, rfl, rfl⟩); (simp only [List.map_cons, List.map_nil, List.flatMap_cons, List.flatMap_nil, Value.cells, List.cons_append, List.nil_append, List.append_nil]; rfl)))
  apply LexR_end
  refine hK _ _ ?_
  clear hK K_
  repeat clear hr_
  clear hb_ R_ hops_ ops_
  intro w1 hw1 hf1
  apply tailR (fun _ => ?_) (fun _ => ?_) ?_
  rotate_right 2
  · simp only [putAll, Act.put, List.setIfInBounds_toArray, List.set_cons_succ, List.set_cons_zero]; first | done | rfl
  · simp only [List.drop_succ_cons, List.drop_zero]; first | done | rfl
  simp [allFacts, contOf, Exp.putAt, Exp.fact, Exp.fresh, Exp.blk] at hf1
  obtain ⟨k7, l7⟩ := hf1
  replace k2 := grow_blk hw1 k2
  replace k4 := grow_blk hw1 k4
  replace k5 := grow_blk hw1 k5
  replace k6 := grow_blk hw1 k6
  replace HB := bl_call hw1 HB
  obtain ⟨g7, e_⟩ := name_blk k7
  subst e_
  have m5 : w.heap.size + 1 + 1 < g5 := by omega
  have m6 : w.heap.size + 1 + 1 < g6 := by omega
  have m7 : w.heap.size + 1 + 1 < g7 := by omega
  have m57 : g5 < g7 := by omega
  have m67 : g6 < g7 := by omega
  clear q4 q5 q6 l5 l6 l7 n56
  clear hw1
  go_wp2_with fail
  go_loopw [20] (fun i wr => ∃ n : Nat, n ≤ 64 ∧ i = .int .i64 (n : Int) ∧ Below w.heap.size w wr ∧ wr.heap[w.heap.size]? = some (.cells (cw h) 81 (0, 0)) ∧
      wr.heap[w.heap.size + 1 + 1]? = some (.cells (Array.replicate 8 (.int .u32 0)) 81 (0, 0)) ∧ wr.heap[g5]? = some (.cells (cw ws) 123 (0, 0)) ∧
      wr.heap[g6]? = some (.cells (cw kTab) 148 (0, 0)) ∧ wr.heap[g7]? = some (.cells (cw (roundsTo h ws n)) 81 (0, 0))) (fun i _ => 64 - (intOf i).toNat)
  case atStart => exact ⟨0, by omega, rfl, HB, k2, k4, k5, k6, k7⟩
  case round =>
    clear HB k2 k4 k5 k6 k7
    obtain ⟨n, hn, rfl, HB, k2, k4, k5, k6, k7⟩ := hrel
    by_cases hlt : n < 64
    · have hl := roundsTo_length h ws L8.out n
      obtain ⟨a0, a1, a2, a3, a4, a5, a6, a7, hst⟩ : ∃ a0 a1 a2 a3 a4 a5 a6 a7, roundsTo h ws n = [a0, a1, a2, a3, a4, a5, a6, a7] := by
        match e : roundsTo h ws n, hl with
        | [a0, a1, a2, a3, a4, a5, a6, a7], _ => exact ⟨a0, a1, a2, a3, a4, a5, a6, a7, rfl⟩
      have hnext : roundsTo h ws (n + 1) = round8 (at32 kTab n) (at32 ws n) [a0, a1, a2, a3, a4, a5, a6, a7] := by rw [← hst]; rfl
      have Hnext := Lib.hid hnext
      rw [hst] at k7
      replace k7 : wr.heap[g7]? = some (.cells #[.int .u32 (iw a0), .int .u32 (iw a1), .int .u32 (iw a2), .int .u32 (iw a3), .int .u32 (iw a4), .int .u32 (iw a5), .int .u32 (iw a6), .int .u32 (iw a7)] 81 (0, 0)) := k7
      clear hl hst hnext
      go_upto_region 6 with (fail)
      refine wp_region_R 8 [7] (by kernel_rfl) (by kernel_rfl) (by kernel_rfl) (by kernel_rfl) ?_
      intro K_ ops_ hops_ hK
      replace hops_ := Lib.hid hops_
      apply Exists.intro
      intro R_ hb_
      simp only [↓baseR, ↓nthR_succ, ↓nthR_zero] at hb_
      simp only [List.take_succ_cons, List.take_zero, List.drop_succ_cons, List.drop_zero]
      repeat (first
        
        | (apply LexR_put (j := 4) (ho := rfl); (go_simp; rfl); (go_simp; rfl); rfl; rfl; (focus (first | decide | (simp; done))); rfl; rfl; kernel_rfl; kernel_rfl; (first | exact cw_one _ | simp [Value.oneCell']); (first | (rw [cw_size, L64.out]; rfl) | (rw [cw_size, L8.out]; rfl) | (rw [cw_size]; rfl) | rfl); intro _) | (apply LexR_put (j := 5) (ho := rfl); (go_simp; rfl); (go_simp; rfl); rfl; rfl; (focus (first | decide | (simp; done))); rfl; rfl; kernel_rfl; kernel_rfl; (first | exact cw_one _ | simp [Value.oneCell']); (first | (rw [cw_size, L64.out]; rfl) | (rw [cw_size, L8.out]; rfl) | (rw [cw_size]; rfl) | rfl); intro _)
        
        | (apply LexR_det (by rfl) (by rfl) (by rfl) (fun w1 hw1 hd1 => ?_) (fun _ hr_ => ?_); rotate_right 2; (go_simp; first | done | rfl | (rw [blk_cell (grow_blk hw1 k7)]; focus ((try simp); first | done | rfl))))
        | (apply LexR_box (by rfl) (by rfl) (by rfl) (fun w1 hw1 hd1 => ?_) (fun _ hr_ => ?_); rotate_right 2; (go_simp; first | done | rfl))
        | (apply LexR_bs (t := 76) (e := 80) (z := .agg #[.int .u32 0]) (ho := rfl) (by rfl) (by rfl) Tryz.underlying76 (by kernel_rfl) (by decide) (by decide) (fun _ => ?_) (fun _ => ?_) (fun _ => ?_) (fun _ hr_ => ?_); rotate_right 4; (go_simp; rfl); (exact ⟨rfl, rfl, rfl⟩); (simp only [List.map_cons, List.map_nil, List.flatMap_cons, List.flatMap_nil, Value.cells, List.cons_append, List.nil_append, List.append_nil]; rfl)))
      apply LexR_end
      refine hK _ _ ?_
      clear hK K_
      repeat clear hr_
      clear hb_ R_ hops_ ops_
      intro w1 hw1 hf1
      apply tailR (fun _ => ?_) (fun _ => ?_) ?_
      rotate_right 2
      · simp only [putAll, Act.put, List.setIfInBounds_toArray, List.set_cons_succ, List.set_cons_zero]; first | done | rfl
      · simp only [List.drop_succ_cons, List.drop_zero]; first | done | rfl
      simp [allFacts, contOf, Exp.putAt, Exp.fact, Exp.fresh, Exp.blk] at hf1
      obtain ⟨k9, l9, n9, k10, l10⟩ := hf1
      replace k2 := grow_blk hw1 k2
      replace k4 := grow_blk hw1 k4
      replace k5 := grow_blk hw1 k5
      replace k6 := grow_blk hw1 k6
      replace k7 := grow_blk hw1 k7
      replace HB := bl_call hw1 HB
      clear hw1 l9 n9 l10
      go_upto_region 7 with (fail)
      refine wp_region_R 8 [7, 10] (by kernel_rfl) (by kernel_rfl) (by kernel_rfl) (by kernel_rfl) ?_
      intro K_ ops_ hops_ hK
      replace hops_ := Lib.hid hops_
      apply Exists.intro
      intro R_ hb_
      simp only [↓baseR, ↓nthR_succ, ↓nthR_zero] at hb_
      simp only [List.take_succ_cons, List.take_zero, List.drop_succ_cons, List.drop_zero]
      repeat (first
        
        | (apply LexR_put (j := 6) (ho := rfl); (go_simp; rfl); (go_simp; rfl); rfl; rfl; (focus (first | decide | (simp; done))); rfl; rfl; kernel_rfl; kernel_rfl; (first | exact cw_one _ | simp [Value.oneCell']); (first | (rw [cw_size, L64.out]; rfl) | (rw [cw_size, L8.out]; rfl) | (rw [cw_size]; rfl) | rfl); intro _)
        | (apply LexR_callF (f := 88) (by rfl) (by rfl) (by rfl) Tryz.func88 (by kernel_rfl) (by kernel_rfl) (fun _ => ?_) (fun w1 hw1 hd1 => ?_) (fun _ hr_ => ?_); rotate_right 3; (go_simp; first | done | rfl); exact (Sel_c _ _ _ w1))
        | (apply LexR_det (by rfl) (by rfl) (by rfl) (fun w1 hw1 hd1 => ?_) (fun _ hr_ => ?_); rotate_right 2; (go_simp; first | done | rfl | (rw [blk_cell (grow_blk hw1 k7)]; focus ((try simp); first | done | rfl)) | (rw [blk_cell (grow_blk hw1 k10)]; focus ((try simp); first | done | rfl))))
        | (apply LexR_box (by rfl) (by rfl) (by rfl) (fun w1 hw1 hd1 => ?_) (fun _ hr_ => ?_); rotate_right 2; (go_simp; first | done | rfl))
        | (apply LexR_bs (t := 76) (e := 80) (z := .agg #[.int .u32 0]) (ho := rfl) (by rfl) (by rfl) Tryz.underlying76 (by kernel_rfl) (by decide) (by decide) (fun _ => ?_) (fun _ => ?_) (fun _ => ?_) (fun _ hr_ => ?_); rotate_right 4; (go_simp; rfl); (exact ⟨rfl, rfl, rfl⟩); (simp only [List.map_cons, List.map_nil, List.flatMap_cons, List.flatMap_nil, Value.cells, List.cons_append, List.nil_append, List.append_nil]; rfl)))
      apply LexR_end
      refine hK _ _ ?_
      clear hK K_
      repeat clear hr_
      clear hb_ R_ hops_ ops_
      intro w1 hw1 hf1
      apply tailR (fun _ => ?_) (fun _ => ?_) ?_
      rotate_right 2
      · simp only [putAll, Act.put, List.setIfInBounds_toArray, List.set_cons_succ, List.set_cons_zero]; first | done | rfl
      · simp only [List.drop_succ_cons, List.drop_zero]; first | done | rfl
      simp [allFacts, contOf, Exp.putAt, Exp.fact, Exp.fresh, Exp.blk] at hf1
      obtain ⟨k11, l11⟩ := hf1
      replace k2 := grow_blk hw1 k2
      replace k4 := grow_blk hw1 k4
      replace k5 := grow_blk hw1 k5
      replace k6 := grow_blk hw1 k6
      replace k7 := grow_blk hw1 k7
      replace k9 := grow_blk hw1 k9
      replace k10 := grow_blk hw1 k10
      replace HB := bl_call hw1 HB
      clear hw1 l11
      go_upto_region 8 with (fail)
      refine wp_region_R 15 [7, 9] (by kernel_rfl) (by kernel_rfl) (by kernel_rfl) (by kernel_rfl) ?_
      intro K_ ops_ hops_ hK
      replace hops_ := Lib.hid hops_
      apply Exists.intro
      intro R_ hb_
      simp only [↓baseR, ↓nthR_succ, ↓nthR_zero] at hb_
      simp only [List.take_succ_cons, List.take_zero, List.drop_succ_cons, List.drop_zero]
      repeat (first
        
        | (apply LexR_put (j := 13) (ho := rfl); (go_simp; rfl); (go_simp; rfl); rfl; rfl; (focus (first | decide | (simp; done))); rfl; rfl; kernel_rfl; kernel_rfl; (first | exact cw_one _ | simp [Value.oneCell']); (first | (rw [cw_size, L64.out]; rfl) | (rw [cw_size, L8.out]; rfl) | (rw [cw_size]; rfl) | rfl); intro _)
        | (apply LexR_callF (f := 105) (by rfl) (by rfl) (by rfl) Tryz.func105 (by kernel_rfl) (by kernel_rfl) (fun _ => ?_) (fun w1 hw1 hd1 => ?_) (fun _ hr_ => ?_); rotate_right 3; (go_simp; first | done | rfl); exact (Or_c _ _ w1)) | (apply LexR_callF (f := 66) (by rfl) (by rfl) (by rfl) Tryz.func66 (by kernel_rfl) (by kernel_rfl) (fun _ => ?_) (fun w1 hw1 hd1 => ?_) (fun _ hr_ => ?_); rotate_right 3; (go_simp; first | done | rfl); exact (And_c _ _ w1))
        | (apply LexR_det (by rfl) (by rfl) (by rfl) (fun w1 hw1 hd1 => ?_) (fun _ hr_ => ?_); rotate_right 2; (go_simp; first | done | rfl | (rw [blk_cell (grow_blk hw1 k7)]; focus ((try simp); first | done | rfl)) | (rw [blk_cell (grow_blk hw1 k9)]; focus ((try simp); first | done | rfl))))
        | (apply LexR_box (by rfl) (by rfl) (by rfl) (fun w1 hw1 hd1 => ?_) (fun _ hr_ => ?_); rotate_right 2; (go_simp; first | done | rfl))
        | (apply LexR_bs (t := 76) (e := 80) (z := .agg #[.int .u32 0]) (ho := rfl) (by rfl) (by rfl) Tryz.underlying76 (by kernel_rfl) (by decide) (by decide) (fun _ => ?_) (fun _ => ?_) (fun _ => ?_) (fun _ hr_ => ?_); rotate_right 4; (go_simp; rfl); (exact ⟨rfl, rfl, rfl⟩); (simp only [List.map_cons, List.map_nil, List.flatMap_cons, List.flatMap_nil, Value.cells, List.cons_append, List.nil_append, List.append_nil]; rfl)))
      apply LexR_end
      refine hK _ _ ?_
      clear hK K_
      repeat clear hr_
      clear hb_ R_ hops_ ops_
      intro w1 hw1 hf1
      apply tailR (fun _ => ?_) (fun _ => ?_) ?_
      rotate_right 2
      · simp only [putAll, Act.put, List.setIfInBounds_toArray, List.set_cons_succ, List.set_cons_zero]; first | done | rfl
      · simp only [List.drop_succ_cons, List.drop_zero]; first | done | rfl
      simp [allFacts, contOf, Exp.putAt, Exp.fact, Exp.fresh, Exp.blk] at hf1
      obtain ⟨k12, l12⟩ := hf1
      replace k2 := grow_blk hw1 k2
      replace k4 := grow_blk hw1 k4
      replace k5 := grow_blk hw1 k5
      replace k6 := grow_blk hw1 k6
      replace k7 := grow_blk hw1 k7
      replace k9 := grow_blk hw1 k9
      replace k10 := grow_blk hw1 k10
      replace k11 := grow_blk hw1 k11
      replace HB := bl_call hw1 HB
      clear hw1 l12
      go_upto_region 9 with (fail)
      have pn : (0 : Int) ≤ (n : Int) := by omega
      have bn : (n : Int) < 64 := by omega
      have c5 := blk_cell k5 n
      rw [cw_at _ _ (by rw [L64.out]; exact hlt)] at c5
      have c6 := blk_cell k6 n
      rw [cw_at _ _ (by exact hlt)] at c6
      refine wp_region_R 21 [5, 6, 7, 8, 10, 11] (by kernel_rfl) (by kernel_rfl) (by kernel_rfl) (by kernel_rfl) ?_
      intro K_ ops_ hops_ hK
      replace hops_ := Lib.hid hops_
      apply Exists.intro
      intro R_ hb_
      simp only [↓baseR, ↓nthR_succ, ↓nthR_zero] at hb_
      simp only [List.take_succ_cons, List.take_zero, List.drop_succ_cons, List.drop_zero]
      repeat (first
        
        | (apply LexR_put (j := 19) (ho := rfl); (go_simp; rfl); (go_simp; rfl); rfl; rfl; (focus (first | decide | (simp; done))); rfl; rfl; kernel_rfl; kernel_rfl; (first | exact cw_one _ | simp [Value.oneCell']); (first | (rw [cw_size, L64.out]; rfl) | (rw [cw_size, L8.out]; rfl) | (rw [cw_size]; rfl) | rfl); intro _)
        | (apply LexR_callF (f := 112) (by rfl) (by rfl) (by rfl) Tryz.func112 (by kernel_rfl) (by kernel_rfl) (fun _ => ?_) (fun w1 hw1 hd1 => ?_) (fun _ hr_ => ?_); rotate_right 3; (go_simp; first | done | rfl); exact (Rot_c _ _ (by omega) (by omega) w1)) | (apply LexR_callF (f := 111) (by rfl) (by rfl) (by rfl) Tryz.func111 (by kernel_rfl) (by kernel_rfl) (fun _ => ?_) (fun w1 hw1 hd1 => ?_) (fun _ hr_ => ?_); rotate_right 3; (go_simp; first | done | rfl); exact (xor3_c _ _ _ w1)) | (apply LexR_callF (f := 68) (by rfl) (by rfl) (by rfl) Tryz.func68 (by kernel_rfl) (by kernel_rfl) (fun _ => ?_) (fun w1 hw1 hd1 => ?_) (fun _ hr_ => ?_); rotate_right 3; (go_simp; first | done | rfl); exact (Of_i _ w1)) | (apply LexR_callF (f := 110) (by rfl) (by rfl) (by rfl) Tryz.func110 (by kernel_rfl) (by kernel_rfl) (fun _ => ?_) (fun w1 hw1 hd1 => ?_) (fun _ hr_ => ?_); rotate_right 3; (go_simp; first | done | rfl); (simp [depFacts, needs, Region.binds, Exp.dep] at hd1; exact (sum_c [a7, xor3 (rotI a4 6) (rotI a4 11) (rotI a4 25), selw a4 a5 a6, at32 kTab n, at32 ws n] _ _ w1 hd1 (by simp))))
        | (apply LexR_det (by rfl) (by rfl) (by rfl) (fun w1 hw1 hd1 => ?_) (fun _ hr_ => ?_); rotate_right 2; (go_simp; first | done | rfl | (rw [blk_cell (grow_blk hw1 k7)]; focus ((try simp); first | done | rfl)) | (rw [blk_cell (grow_blk hw1 k10)]; focus ((try simp); first | done | rfl)) | (rw [blk_cell (grow_blk hw1 k11)]; focus ((try simp); first | done | rfl)) | (rw [grow_cell hw1 c5]; focus ((try simp); first | done | rfl)) | (rw [grow_cell hw1 c6]; focus ((try simp); first | done | rfl))))
        | (apply LexR_box (by rfl) (by rfl) (by rfl) (fun w1 hw1 hd1 => ?_) (fun _ hr_ => ?_); rotate_right 2; (go_simp; first | done | rfl))
        | (apply LexR_bs (t := 76) (e := 80) (z := .agg #[.int .u32 0]) (ho := rfl) (by rfl) (by rfl) Tryz.underlying76 (by kernel_rfl) (by decide) (by decide) (fun _ => ?_) (fun _ => ?_) (fun _ => ?_) (fun _ hr_ => ?_); rotate_right 4; (go_simp; rfl); (exact ⟨rfl, rfl, rfl⟩); (simp only [List.map_cons, List.map_nil, List.flatMap_cons, List.flatMap_nil, Value.cells, List.cons_append, List.nil_append, List.append_nil]; rfl)))
      apply LexR_end
      refine hK _ _ ?_
      clear hK K_
      repeat clear hr_
      clear hb_ R_ hops_ ops_
      intro w1 hw1 hf1
      apply tailR (fun _ => ?_) (fun _ => ?_) ?_
      rotate_right 2
      · simp only [putAll, Act.put, List.setIfInBounds_toArray, List.set_cons_succ, List.set_cons_zero]; first | done | rfl
      · simp only [List.drop_succ_cons, List.drop_zero]; first | done | rfl
      simp [allFacts, contOf, Exp.putAt, Exp.fact, Exp.fresh, Exp.blk] at hf1
      obtain ⟨_, _, _, k13, l13⟩ := hf1
      replace k2 := grow_blk hw1 k2
      replace k4 := grow_blk hw1 k4
      replace k5 := grow_blk hw1 k5
      replace k6 := grow_blk hw1 k6
      replace k7 := grow_blk hw1 k7
      replace k9 := grow_blk hw1 k9
      replace k10 := grow_blk hw1 k10
      replace k12 := grow_blk hw1 k12
      replace HB := bl_call hw1 HB
      clear hw1 l13 c5 c6 k11
      go_upto_region 10 with (fail)
      refine wp_region_R 12 [9, 12] (by kernel_rfl) (by kernel_rfl) (by kernel_rfl) (by kernel_rfl) ?_
      intro K_ ops_ hops_ hK
      replace hops_ := Lib.hid hops_
      apply Exists.intro
      intro R_ hb_
      simp only [↓baseR, ↓nthR_succ, ↓nthR_zero] at hb_
      simp only [List.take_succ_cons, List.take_zero, List.drop_succ_cons, List.drop_zero]
      repeat (first
        
        | (apply LexR_put (j := 10) (ho := rfl); (go_simp; rfl); (go_simp; rfl); rfl; rfl; (focus (first | decide | (simp; done))); rfl; rfl; kernel_rfl; kernel_rfl; (first | exact cw_one _ | simp [Value.oneCell']); (first | (rw [cw_size, L64.out]; rfl) | (rw [cw_size, L8.out]; rfl) | (rw [cw_size]; rfl) | rfl); intro _)
        | (apply LexR_callF (f := 112) (by rfl) (by rfl) (by rfl) Tryz.func112 (by kernel_rfl) (by kernel_rfl) (fun _ => ?_) (fun w1 hw1 hd1 => ?_) (fun _ hr_ => ?_); rotate_right 3; (go_simp; first | done | rfl); exact (Rot_c _ _ (by omega) (by omega) w1)) | (apply LexR_callF (f := 111) (by rfl) (by rfl) (by rfl) Tryz.func111 (by kernel_rfl) (by kernel_rfl) (fun _ => ?_) (fun w1 hw1 hd1 => ?_) (fun _ hr_ => ?_); rotate_right 3; (go_simp; first | done | rfl); exact (xor3_c _ _ _ w1)) | (apply LexR_callF (f := 110) (by rfl) (by rfl) (by rfl) Tryz.func110 (by kernel_rfl) (by kernel_rfl) (fun _ => ?_) (fun w1 hw1 hd1 => ?_) (fun _ hr_ => ?_); rotate_right 3; (go_simp; first | done | rfl); (simp [depFacts, needs, Region.binds, Exp.dep] at hd1; exact (sum_c [xor3 (rotI a0 2) (rotI a0 13) (rotI a0 22), majw a0 a1 a2] _ _ w1 hd1 (by simp))))
        | (apply LexR_det (by rfl) (by rfl) (by rfl) (fun w1 hw1 hd1 => ?_) (fun _ hr_ => ?_); rotate_right 2; (go_simp; first | done | rfl | (rw [blk_cell (grow_blk hw1 k9)]; focus ((try simp); first | done | rfl)) | (rw [blk_cell (grow_blk hw1 k12)]; focus ((try simp); first | done | rfl))))
        | (apply LexR_box (by rfl) (by rfl) (by rfl) (fun w1 hw1 hd1 => ?_) (fun _ hr_ => ?_); rotate_right 2; (go_simp; first | done | rfl))
        | (apply LexR_bs (t := 76) (e := 80) (z := .agg #[.int .u32 0]) (ho := rfl) (by rfl) (by rfl) Tryz.underlying76 (by kernel_rfl) (by decide) (by decide) (fun _ => ?_) (fun _ => ?_) (fun _ => ?_) (fun _ hr_ => ?_); rotate_right 4; (go_simp; rfl); (exact ⟨rfl, rfl, rfl⟩); (simp only [List.map_cons, List.map_nil, List.flatMap_cons, List.flatMap_nil, Value.cells, List.cons_append, List.nil_append, List.append_nil]; rfl)))
      apply LexR_end
      refine hK _ _ ?_
      clear hK K_
      repeat clear hr_
      clear hb_ R_ hops_ ops_
      intro w1 hw1 hf1
      apply tailR (fun _ => ?_) (fun _ => ?_) ?_
      rotate_right 2
      · simp only [putAll, Act.put, List.setIfInBounds_toArray, List.set_cons_succ, List.set_cons_zero]; first | done | rfl
      · simp only [List.drop_succ_cons, List.drop_zero]; first | done | rfl
      simp [allFacts, contOf, Exp.putAt, Exp.fact, Exp.fresh, Exp.blk] at hf1
      obtain ⟨_, _, _, k14, l14⟩ := hf1
      replace k2 := grow_blk hw1 k2
      replace k4 := grow_blk hw1 k4
      replace k5 := grow_blk hw1 k5
      replace k6 := grow_blk hw1 k6
      replace k7 := grow_blk hw1 k7
      replace k9 := grow_blk hw1 k9
      replace k10 := grow_blk hw1 k10
      replace k13 := grow_blk hw1 k13
      replace HB := bl_call hw1 HB
      clear hw1 l14 k12
      go_upto_region 11 with (fail)
      refine wp_region_R 20 [7, 9, 10, 13, 14] (by kernel_rfl) (by kernel_rfl) (by kernel_rfl) (by kernel_rfl) ?_
      intro K_ ops_ hops_ hK
      replace hops_ := Lib.hid hops_
      apply Exists.intro
      intro R_ hb_
      simp only [↓baseR, ↓nthR_succ, ↓nthR_zero] at hb_
      simp only [List.take_succ_cons, List.take_zero, List.drop_succ_cons, List.drop_zero]
      repeat (first
        
        
        | (apply LexR_callF (f := 110) (by rfl) (by rfl) (by rfl) Tryz.func110 (by kernel_rfl) (by kernel_rfl) (fun _ => ?_) (fun w1 hw1 hd1 => ?_) (fun _ hr_ => ?_); rotate_right 3; (go_simp; first | done | rfl); (simp [depFacts, needs, Region.binds, Exp.dep] at hd1; exact (sum_c [onew a4 a5 a6 a7 (at32 kTab n) (at32 ws n), twow a0 a1 a2] _ _ w1 hd1 (by simp)))) | (apply LexR_callF (f := 110) (by rfl) (by rfl) (by rfl) Tryz.func110 (by kernel_rfl) (by kernel_rfl) (fun _ => ?_) (fun w1 hw1 hd1 => ?_) (fun _ hr_ => ?_); rotate_right 3; (go_simp; first | done | rfl); (simp [depFacts, needs, Region.binds, Exp.dep] at hd1; exact (sum_c [a3, onew a4 a5 a6 a7 (at32 kTab n) (at32 ws n)] _ _ w1 hd1 (by simp))))
        | (apply LexR_det (by rfl) (by rfl) (by rfl) (fun w1 hw1 hd1 => ?_) (fun _ hr_ => ?_); rotate_right 2; (go_simp; first | done | rfl | (rw [blk_cell (grow_blk hw1 k13)]; focus ((try simp); first | done | rfl)) | (rw [blk_cell (grow_blk hw1 k14)]; focus ((try simp); first | done | rfl)) | (rw [blk_cell (grow_blk hw1 k9)]; focus ((try simp); first | done | rfl)) | (rw [blk_cell (grow_blk hw1 k10)]; focus ((try simp); first | done | rfl)) | (rw [blk_cell (grow_blk hw1 k7)]; focus ((try simp); first | done | rfl))))
        | (apply LexR_box (by rfl) (by rfl) (by rfl) (fun w1 hw1 hd1 => ?_) (fun _ hr_ => ?_); rotate_right 2; (go_simp; first | done | rfl))
        | (apply LexR_bs (t := 76) (e := 80) (z := .agg #[.int .u32 0]) (ho := rfl) (by rfl) (by rfl) Tryz.underlying76 (by kernel_rfl) (by decide) (by decide) (fun _ => ?_) (fun _ => ?_) (fun _ => ?_) (fun _ hr_ => ?_); rotate_right 4; (go_simp; rfl); (exact ⟨rfl, rfl, rfl⟩); (simp only [List.map_cons, List.map_nil, List.flatMap_cons, List.flatMap_nil, Value.cells, List.cons_append, List.nil_append, List.append_nil]; rfl)))
      apply LexR_end
      refine hK _ _ ?_
      clear hK K_
      repeat clear hr_
      clear hb_ R_ hops_ ops_
      intro w1 hw1 hf1
      apply tailR (fun _ => ?_) (fun _ => ?_) ?_
      rotate_right 2
      · simp only [putAll, Act.put, List.setIfInBounds_toArray, List.set_cons_succ, List.set_cons_zero]; first | done | rfl
      · simp only [List.drop_succ_cons, List.drop_zero]; first | done | rfl
      simp [allFacts, contOf, Exp.putAt, Exp.fact, Exp.fresh, Exp.blk] at hf1
      clear hf1
      replace k2 := grow_blk hw1 k2
      replace k4 := grow_blk hw1 k4
      replace k5 := grow_blk hw1 k5
      replace k6 := grow_blk hw1 k6
      replace k7 := grow_blk hw1 k7
      replace HB := bl_call hw1 HB
      clear hw1
      refine wpList_store_row rfl _ _ _ rfl g7 (cw (round8 (at32 kTab n) (at32 ws n) [a0, a1, a2, a3, a4, a5, a6, a7])) rfl rfl 81 _ k7 (by kernel_rfl) rfl (cw_one _) ?_
      rw [← Hnext.out]
      refine gen_list fun W2 hW => ?_
      replace HB : Below w.heap.size w W2 := by subst hW; exact bl_row _ _ (by omega) HB
      replace k2 : W2.heap[w.heap.size]? = some (.cells (cw h) 81 (0, 0)) := by subst hW; exact setRow_far k2 (by omega) _
      replace k4 : W2.heap[w.heap.size + 1 + 1]? = some (.cells (Array.replicate 8 (.int .u32 0)) 81 (0, 0)) := by subst hW; exact setRow_far k4 (by omega) _
      replace k5 : W2.heap[g5]? = some (.cells (cw ws) 123 (0, 0)) := by subst hW; exact setRow_far k5 (by omega) _
      replace k6 : W2.heap[g6]? = some (.cells (cw kTab) 148 (0, 0)) := by subst hW; exact setRow_far k6 (by omega) _
      replace k7 : W2.heap[g7]? = some (.cells (cw (roundsTo h ws (n + 1))) 81 (0, 0)) := by subst hW; exact setRow_blk k7 _
      clear hW
      go_wp2_with fail
      exact ⟨⟨n + 1, by omega, congrArg (Value.int .i64) (by omega), HB, k2, k4, k5, k6, k7⟩, by simp [intOf]; omega⟩
    · obtain rfl : n = 64 := by omega
      have LR := Lib.hid (roundsTo_length h ws L8.out 64)
      obtain ⟨rs, hrs⟩ : ∃ rs, rs = roundsTo h ws 64 := ⟨_, rfl⟩
      rw [← hrs] at k7 LR
      replace hrs := Lib.hid hrs
      clear hlt hn
      go_upto_region 13 with (fail)
      go_wp2_with fail
      replace k7 : wr.heap[g7]? = some (.cells (cw (addTo rs h 0)) 81 (0, 0)) := by rw [addTo_zero]; exact k7
      have HB0 := HB
      have k20 := k2
      have k40 := k4
      have k70 := k7
      clear k5 k6
      go_loopw [96] (fun i ws' => ∃ n : Nat, n ≤ 8 ∧ i = .int .i64 (n : Int) ∧ Below w.heap.size w ws' ∧ ws'.heap[w.heap.size]? = some (.cells (cw h) 81 (0, 0)) ∧
          ws'.heap[w.heap.size + 1 + 1]? = some (.cells (Array.replicate 8 (.int .u32 0)) 81 (0, 0)) ∧ ws'.heap[g7]? = some (.cells (cw (addTo rs h n)) 81 (0, 0))) (fun i _ => 8 - (intOf i).toNat)
      case atStart => exact ⟨0, by omega, rfl, HB0, k20, k40, k70⟩
      case round =>
        clear HB0 k20 k40 k70 HB k2 k4 k7
        obtain ⟨n, hn, rfl, HB, k2, k4, k7⟩ := hrel
        by_cases hlt : n < 8
        · have c7 := blk_cell k7 n
          rw [cw_at _ _ (by rw [addTo_len rs h LR.out L8.out n hn]; exact hlt), addTo_at rs h LR.out L8.out n hlt] at c7
          have c2 := blk_cell k2 n
          rw [cw_at _ _ (by rw [L8.out]; exact hlt)] at c2
          have pn : (0 : Int) ≤ (n : Int) := by omega
          have bn : (n : Int) < 8 := by omega
          go_upto_region 16 with (fail)
          refine wp_region_R 9 [2, 7, 15] (by kernel_rfl) (by kernel_rfl) (by kernel_rfl) (by kernel_rfl) ?_
          intro K_ ops_ hops_ hK
          replace hops_ := Lib.hid hops_
          apply Exists.intro
          intro R_ hb_
          simp only [↓baseR, ↓nthR_succ, ↓nthR_zero] at hb_
          simp only [List.take_succ_cons, List.take_zero, List.drop_succ_cons, List.drop_zero]
          repeat (first
            
            
            | (apply LexR_callF (f := 100) (by rfl) (by rfl) (by rfl) Tryz.func100 (by kernel_rfl) (by kernel_rfl) (fun _ => ?_) (fun w1 hw1 hd1 => ?_) (fun _ hr_ => ?_); rotate_right 3; (go_simp; first | done | rfl); exact (Add_c _ _ w1))
            | (apply LexR_det (by rfl) (by rfl) (by rfl) (fun w1 hw1 hd1 => ?_) (fun _ hr_ => ?_); rotate_right 2; (go_simp; first | done | rfl | (rw [grow_cell hw1 c7]; focus ((try simp); first | done | rfl)) | (rw [grow_cell hw1 c2]; focus ((try simp); first | done | rfl))))
            | (apply LexR_box (by rfl) (by rfl) (by rfl) (fun w1 hw1 hd1 => ?_) (fun _ hr_ => ?_); rotate_right 2; (go_simp; first | done | rfl))
            | (apply LexR_bs (t := 76) (e := 80) (z := .agg #[.int .u32 0]) (ho := rfl) (by rfl) (by rfl) Tryz.underlying76 (by kernel_rfl) (by decide) (by decide) (fun _ => ?_) (fun _ => ?_) (fun _ => ?_) (fun _ hr_ => ?_); rotate_right 4; (go_simp; rfl); (exact ⟨rfl, rfl, rfl⟩); (simp only [List.map_cons, List.map_nil, List.flatMap_cons, List.flatMap_nil, Value.cells, List.cons_append, List.nil_append, List.append_nil]; rfl)))
          apply LexR_end
          refine hK _ _ ?_
          clear hK K_
          repeat clear hr_
          clear hb_ R_ hops_ ops_
          intro w1 hw1 hf1
          apply tailR (fun _ => ?_) (fun _ => ?_) ?_
          rotate_right 2
          · simp only [putAll, Act.put, List.setIfInBounds_toArray, List.set_cons_succ, List.set_cons_zero]; first | done | rfl
          · simp only [List.drop_succ_cons, List.drop_zero]; first | done | rfl
          simp [allFacts, contOf, Exp.putAt, Exp.fact, Exp.fresh, Exp.blk] at hf1
          clear hf1 c7 c2
          replace k2 := grow_blk hw1 k2
          replace k4 := grow_blk hw1 k4
          replace k7 := grow_blk hw1 k7
          replace HB := bl_call hw1 HB
          clear hw1
          have cs := blk_cell k7 n
          rw [cw_at _ _ (by rw [addTo_len rs h LR.out L8.out n hn]; exact hlt)] at cs
          have fs := blk_frozen k7 n
          go_wp2_with fail
          refine ⟨⟨n + 1, by omega, congrArg (Value.int .i64) (by omega), bl_set _ _ (by simp; omega) HB, blk_far k2 (by simp; omega) _, blk_far k4 (by simp; omega) _, ?_⟩, by simp [intOf]; omega⟩
          rw [← addTo_set rs h LR.out L8.out n hlt, ← cw_set]
          exact blk_set k7 n _
        · obtain rfl : n = 8 := by omega
          rw [addTo_end rs h LR.out L8.out] at k7
          have LZ : (List.zipWith (fun x1 x2 => x1 + x2) rs h).length = 8 := by rw [List.length_zipWith, LR.out, L8.out]; rfl
          have LZ := Lib.hid LZ
          rw [hrs.out] at k7 LZ
          obtain ⟨zs, hzs⟩ : ∃ zs, zs = List.zipWith (fun x1 x2 => x1 + x2) (roundsTo h ws 64) h := ⟨_, rfl⟩
          rw [← hzs] at k7 LZ
          go_upto_region 18 with (fail)
          refine wp_region_lit ?_
          refine wpList_load_row rfl _ _ rfl g7 rfl 81 (cw zs) (0, 0) _ k7 Tryz.underlying81 rfl (by rw [cw_size, LZ.out]; kernel_rfl) ?_
          refine wpList_store_row rfl _ _ _ rfl (w.heap.size + 1 + 1) (cw zs) rfl rfl 81 _ k4 (by rw [cw_size, LZ.out]; kernel_rfl) (by rw [cw_size, LZ.out]; rfl) (cw_one _) ?_
          refine gen_list fun W2 hW => ?_
          replace k4 : W2.heap[w.heap.size + 1 + 1]? = some (.cells (cw zs) 81 (0, 0)) := by subst hW; exact setRow_blk k4 _
          replace HB : Below w.heap.size w W2 := by subst hW; exact bl_row _ _ (by omega) HB
          clear hW
          go_wp2
          exact bodyPost_ret (v := .agg (cw zs)) (results_cell_row Tryz.results97 _ _ (w.heap.size + 1 + 1) 81 (cw zs) (0, 0) _ rfl k4 Tryz.underlying81 rfl (by rw [cw_size, LZ.out]; kernel_rfl)) rfl ⟨by rw [hzs], HB⟩
end Go.Proofs.YthnackakgglhbaaGreat

/- Contracts of package sha: constants, First, Blocks, word, padded. -/
import Derived.Test.YthnackakgglhbaaGreatSh1
namespace Go.Proofs.YthnackakgglhbaaGreat
open Go.RowKit
set_option maxRecDepth 100000
set_option linter.unusedSimpArgs false
set_option linter.unusedVariables false

set_option maxHeartbeats 1000000 in
theorem constants_c (w : World) : Calls Tryz.prog 109 #[] w fun e w' => e = .returned (.agg (cw kTab)) ∧ Below w.heap.size w w' := by
  have hk : (#[.int .u32 1116352408, .int .u32 1899447441, .int .u32 3049323471, .int .u32 3921009573, .int .u32 961987163, .int .u32 1508970993, .int .u32 2453635748, .int .u32 2870763221, .int .u32 3624381080, .int .u32 310598401, .int .u32 607225278, .int .u32 1426881987, .int .u32 1925078388, .int .u32 2162078206, .int .u32 2614888103, .int .u32 3248222580, .int .u32 3835390401, .int .u32 4022224774, .int .u32 264347078, .int .u32 604807628, .int .u32 770255983, .int .u32 1249150122, .int .u32 1555081692, .int .u32 1996064986, .int .u32 2554220882, .int .u32 2821834349, .int .u32 2952996808, .int .u32 3210313671, .int .u32 3336571891, .int .u32 3584528711, .int .u32 113926993, .int .u32 338241895, .int .u32 666307205, .int .u32 773529912, .int .u32 1294757372, .int .u32 1396182291, .int .u32 1695183700, .int .u32 1986661051, .int .u32 2177026350, .int .u32 2456956037, .int .u32 2730485921, .int .u32 2820302411, .int .u32 3259730800, .int .u32 3345764771, .int .u32 3516065817, .int .u32 3600352804, .int .u32 4094571909, .int .u32 275423344, .int .u32 430227734, .int .u32 506948616, .int .u32 659060556, .int .u32 883997877, .int .u32 958139571, .int .u32 1322822218, .int .u32 1537002063, .int .u32 1747873779, .int .u32 1955562222, .int .u32 2024104815, .int .u32 2227730452, .int .u32 2361852424, .int .u32 2428436474, .int .u32 2756734187, .int .u32 3204031479, .int .u32 3329325298] : Array Value) = cw kTab := by kernel_rfl
  go_enter Tryz.func109, Tryz.ntmps109
  go_upto_region 1 with (fail)
  refine wp_region_lit ?_
  refine wpList_build rfl _ _ rfl (by kernel_rfl) ?_
  refine gen_list fun W hW => ?_
  have k1 : W.heap[w.heap.size]? = some (.cells (Array.replicate 64 (.int .u32 0)) 148 (0, 0)) := by subst hW; exact blk_new _ _
  have HB : Below w.heap.size w W := by subst hW; (repeat (first | exact Below.refl _ _ | (refine bl_alloc ?_ _) | (refine bl_drewN ?_ _) | (refine bl_drew ?_) | (refine bl_call (by assumption) ?_) | (refine bl_set _ _ (by simp <;> omega) ?_) | assumption))
  clear hW
  refine wpList_store_row rfl _ _ _ rfl w.heap.size (cw kTab) rfl (by kernel_rfl) 148 (Array.replicate 64 (.int .u32 0)) k1 (by kernel_rfl) (by rfl) (cw_one _) ?_
  refine gen_list fun W2 hW => ?_
  replace k1 : W2.heap[w.heap.size]? = some (.cells (cw kTab) 148 (0, 0)) := by subst hW; exact setRow_blk k1 _
  replace HB : Below w.heap.size w W2 := by subst hW; exact bl_row _ _ (Nat.le_refl _) HB
  clear hW
  go_wp2
  exact bodyPost_ret (v := .agg (cw kTab)) (results_cell_row Tryz.results109 _ _ w.heap.size 148 (cw kTab) (0, 0) _ rfl k1 Tryz.underlying148 rfl (by kernel_rfl)) rfl ⟨rfl, HB⟩
set_option maxHeartbeats 1000000 in
theorem Blocks_c (n : Int) (w : World) (h0 : 0 ≤ n) (h1 : n ≤ 1000000000000) : Calls Tryz.prog 101 #[.int .i64 n] w fun e w' => e = .returned (.int .i64 (n / 64 + 1 + (n % 64 + 8) / 64)) ∧ w = w' := by
  have hn : ¬ n < 0 := by omega
  go_enter Tryz.func101, Tryz.ntmps101
  go_wp2
  go_ret
  exact ⟨by rfl, rfl⟩
set_option maxHeartbeats 1000000 in
theorem Blocks_neg (n : Int) (w : World) (h0 : n < 0) : Calls Tryz.prog 101 #[.int .i64 n] w fun e w' => e = .returned (.int .i64 0) ∧ w = w' := by
  go_enter Tryz.func101, Tryz.ntmps101
  go_wp2
  go_ret
  exact ⟨by rfl, rfl⟩
theorem h0_cells : (#[.int .u32 1779033703, .int .u32 3144134277, .int .u32 1013904242, .int .u32 2773480762, .int .u32 1359893119, .int .u32 2600822924, .int .u32 528734635, .int .u32 1541459225] : Array Value) = cw h0 := by kernel_rfl
theorem take_rep (xs : List W32) (k n : Nat) (h : k < xs.length) (hn : xs.length = n) : (xs.take k ++ List.replicate (n - k) 0#32).set k (at32 xs k) = xs.take (k + 1) ++ List.replicate (n - (k + 1)) 0#32 := by
  have e : n - k = (n - (k + 1)) + 1 := by omega
  rw [e, List.replicate_succ, List.set_append_right _ _ (by rw [List.length_take]; omega), List.length_take, Nat.min_eq_left (by omega), Nat.sub_self, List.set_cons_zero, List.take_succ_eq_append_getElem h, List.append_assoc]
  simp [at32, h]
set_option maxHeartbeats 2000000 in
theorem First_c (w : World) : Calls Tryz.prog 98 #[] w fun e w' => e = .returned (.agg (cw h0)) ∧ Below w.heap.size w w' := by
  go_enter Tryz.func98, Tryz.ntmps98
  go_wp2_with fail
  refine gen_world fun W hW => ?_
  have k0 : W.heap[w.heap.size]? = some (.cells (Array.replicate 8 (.int .u32 0)) 81 (0, 0)) := by subst hW; exact blk_alloc (blk_new _ _) _
  have k1 : W.heap[w.heap.size + 1]? = some (.cells (cw (h0.take 0 ++ List.replicate (8 - 0) 0#32)) 81 (0, 0)) := by subst hW; exact blk_new' (by simp) _
  have HB : Below w.heap.size w W := by subst hW; (repeat (first | exact Below.refl _ _ | (refine bl_alloc ?_ _) | (refine bl_drewN ?_ _) | (refine bl_drew ?_) | (refine bl_call (by assumption) ?_) | (refine bl_set _ _ (by simp <;> omega) ?_) | assumption))
  clear hW
  go_loopw [5] (fun i wr => ∃ k : Nat, k ≤ 8 ∧ i = .int .i64 k ∧ Below w.heap.size w wr ∧ wr.heap[w.heap.size]? = some (.cells (Array.replicate 8 (.int .u32 0)) 81 (0, 0)) ∧
    wr.heap[w.heap.size + 1]? = some (.cells (cw (h0.take k ++ List.replicate (8 - k) 0#32)) 81 (0, 0))) (fun i _ => 8 - (intOf i).toNat)
  case atStart => exact ⟨0, by omega, rfl, HB, k0, k1⟩
  case round =>
    clear HB k0 k1
    obtain ⟨k, hk, rfl, HB, k0, k1⟩ := hrel
    by_cases hlt : k < 8
    · have hix : ∀ w1, (Instr.index 54 (.agg #[.int .u32 1779033703, .int .u32 3144134277, .int .u32 1013904242, .int .u32 2773480762, .int .u32 1359893119, .int .u32 2600822924, .int .u32 528734635, .int .u32 1541459225]) (.int .i64 (k : Int))).run Tryz.prog w1 = .ok (.int .u32 (iw (at32 h0 k))) w1 :=
        index_word Tryz.underlying54 Tryz.underlying53 (by kernel_rfl) (by omega) (by omega) (by rw [h0_cells, Int.toNat_natCast, cw_at h0 k (by exact hlt)])
      go_wp2_with fail
      clear hix
      refine (Of_i _ _).mono ?_
      rintro e w4 ⟨rfl, hb⟩
      replace k0 := grow_blk hb k0
      replace k1 := grow_blk hb k1
      replace HB := bl_call hb HB
      have l1 := blk_lt k1
      have c1 : w4.cell? ⟨w.heap.size + 1, k, none⟩ = some (.int .u32 (iw (at32 (h0.take k ++ List.replicate (8 - k) 0#32) k))) := by rw [blk_cell k1 k, cw_at _ _ (by simp [h0]; omega)]
      have f1 := blk_frozen k1 k
      clear hb
      go_wp2
      go_roundw
      case rel => exact ⟨k + 1, by omega, by go_num, bl_set _ _ (by simp) HB, blk_far k0 (by simp) _, by rw [← take_rep h0 k 8 hlt rfl, ← cw_set]; exact blk_set k1 k _⟩
      case measure => simp [intOf]; omega
    · obtain rfl : k = 8 := by omega
      have k1' : wr.heap[w.heap.size + 1]? = some (.cells (cw h0) 81 (0, 0)) := k1
      clear k1
      go_upto_region 7 with (fail)
      refine wp_region_lit ?_
      refine wpList_load_row rfl _ _ rfl (w.heap.size + 1) rfl 81 (cw h0) (0, 0) _ k1' Tryz.underlying81 rfl (by kernel_rfl) ?_
      refine wpList_store_row rfl _ _ _ rfl w.heap.size (cw h0) rfl rfl 81 _ k0 (by kernel_rfl) (by rfl) (cw_one _) ?_
      refine gen_list fun W2 hW => ?_
      replace k0 : W2.heap[w.heap.size]? = some (.cells (cw h0) 81 (0, 0)) := by subst hW; exact setRow_blk k0 _
      replace HB : Below w.heap.size w W2 := by subst hW; exact bl_row _ _ (Nat.le_refl _) HB
      clear hW
      go_wp2
      exact bodyPost_ret (v := .agg (cw h0)) (results_cell_row Tryz.results98 _ _ w.heap.size 81 (cw h0) (0, 0) _ rfl k0 Tryz.underlying81 rfl (by kernel_rfl)) rfl ⟨rfl, HB⟩
end Go.Proofs.YthnackakgglhbaaGreat

/- Contract of sha.spread. -/
import Derived.Test.YthnackakgglhbaaGreatSh3
namespace Go.Proofs.YthnackakgglhbaaGreat
open Go.RowKit
set_option maxRecDepth 100000
set_option linter.unusedSimpArgs false
set_option linter.unusedVariables false
set_option maxHeartbeats 4000000 in
theorem spread_c64 (b : List W32) (hb : b.length = 16) (w : World) : Calls Tryz.prog 108 #[.agg (cw b)] w fun e w' => e = .returned (.agg (cw (spreadTo b 48))) ∧ Below w.heap.size w w' := by
  go_enter Tryz.func108, Tryz.ntmps108
  go_upto_region 2 with (fail)
  refine gen_world fun W hW => ?_
  have k0 : W.heap[w.heap.size]? = some (.cells (cw b) 140 (0, 0)) := by subst hW; (repeat (first | (with_reducible assumption) | ((with_reducible refine blk_new' ?_ _); (simp; done)) | ((with_reducible refine blk_alloc ?_ _)) | ((with_reducible refine blk_far ?_ ?_ _); (simp <;> omega))))
  have k1 : W.heap[w.heap.size + 1]? = some (.cells (Array.replicate 64 (.int .u32 0)) 123 (0, 0)) := by subst hW; exact blk_alloc (blk_new' (by simp) _) _
  have k2 : W.heap[w.heap.size + 1 + 1]? = some (.cells (List.replicate 64 (.int .u32 0)).toArray 123 (0, 0)) := by subst hW; exact blk_new' (by simp) _
  have HB : Below w.heap.size w W := by subst hW; (repeat (first | exact Below.refl _ _ | (refine bl_alloc ?_ _) | (refine bl_drewN ?_ _) | (refine bl_drew ?_) | (refine bl_call (by assumption) ?_) | (refine bl_set _ _ (by simp <;> omega) ?_) | assumption))
  clear hW
  refine wp_region_grow (fun w' => Below W.heap.size W w') 2 (by kernel_rfl) (by kernel_rfl) ⟨rfl, rfl, rfl, Nat.le_refl _, fun _ _ => rfl⟩ ?_
  simp only [List.take_succ_cons, List.take_zero, List.drop_succ_cons, List.drop_zero]
  repeat (refine wpQuiet_step (fun K hK => ?_); go_simp; first | (refine hK _ ?_; clear hK K) | (apply Exists.intro; refine ⟨fun w1 hw1 => ?_, hK _ ?_⟩; (first | exact rfl | (rw [(blk_cell (grow_blk hw1 k0) _)]; exact ⟨rfl, rfl⟩) | fail); clear hK K))
  refine wpQuiet_nil ?_
  intro w1 hw1
  replace k0 := grow_blk hw1 k0
  replace k1 := grow_blk hw1 k1
  replace k2 := grow_blk hw1 k2
  replace HB := bl_call hw1 HB
  clear hw1
  refine wpList_copy_splice rfl (.tmp 9) (.tmp 10) 76 76 rfl 80 Tryz.underlying76 (by kernel_rfl) _ _ _ _ _ _ rfl rfl (w.heap.size + 1 + 1) 0 (List.replicate 64 (.int .u32 0)) 123 k2 (b.map fun x => .int .u32 (iw x))
    (by simp [hb]) (fun _ => ⟨rfl, _, rfl, fun j v hj => by rw [add_pl, blk_cell k0 j]; simpa [cw] using hj⟩) (by simp [hb]) (by simp [Value.oneCell']) (w.heap.size + 1 + 1) w1 (Below.refl _ _) (Nat.le_refl _) ?_
  intro w2 h2 hb2
  have e2 : (splice (List.replicate 64 (Value.int .u32 0)) 0 (b.map fun x => Value.int .u32 (iw x))).toArray = cw (spreadTo b 0 ++ List.replicate (48 - 0) 0#32) := by
    simp [splice, cw, hb, spreadTo]; rfl
  replace k2 := h2.out
  rw [e2] at k2
  clear h2 e2
  replace k0 : w2.heap[w.heap.size]? = some (.cells (cw b) 140 (0, 0)) := by rw [hb2.block _ (by omega)]; exact k0
  replace k1 : w2.heap[w.heap.size + 1]? = some (.cells (Array.replicate 64 (.int .u32 0)) 123 (0, 0)) := by rw [hb2.block _ (by omega)]; exact k1
  replace HB : Below w.heap.size w w2 := HB.trans (hb2.mono (by omega))
  clear hb2
  go_upto_region 4 with (fail)
  go_loopw [4] (fun i wr => ∃ n : Nat, n ≤ 48 ∧ i = .int .i64 ((n : Int) + 16) ∧ Below w.heap.size w wr ∧ wr.heap[w.heap.size + 1]? = some (.cells (Array.replicate 64 (.int .u32 0)) 123 (0, 0)) ∧
      wr.heap[w.heap.size + 1 + 1]? = some (.cells (cw (spreadAt b n)) 123 (0, 0))) (fun i _ => 64 - (intOf i).toNat)
  case atStart => exact ⟨0, by omega, rfl, HB, k1, k2⟩
  case round =>
    clear HB k0 k1 k2
    obtain ⟨n, hn, rfl, HB, k1, k2⟩ := hrel
    have lk2 := blk_lt k2
    by_cases hlt : n < 48
    · have L64 := spreadAt_length b hb n hn
      have c1 : wr.cell? ⟨w.heap.size + 1 + 1, n + 1, none⟩ = some (.int .u32 (iw (at32 (spreadTo b n) (n + 1)))) := by rw [blk_cell k2 _, cw_at _ _ (by omega), spreadAt_at b hb _ _ (by omega)]
      have c14 : wr.cell? ⟨w.heap.size + 1 + 1, n + 14, none⟩ = some (.int .u32 (iw (at32 (spreadTo b n) (n + 14)))) := by rw [blk_cell k2 _, cw_at _ _ (by omega), spreadAt_at b hb _ _ (by omega)]
      go_upto_region 6 with (fail)
      have e15 : IntKind.i64.wrap ((n : Int) + 16 - 15) = (n : Int) + 1 := by rw [IntWalk.i64_in _ (by omega)]; try omega
      have p15 : 0 ≤ (n : Int) + 1 := by omega
      have b15 : (n : Int) + 1 < 64 := by omega
      have t15 : ((n : Int) + 1).toNat = n + 1 := by omega
      have e2 : IntKind.i64.wrap ((n : Int) + 16 - 2) = (n : Int) + 14 := by rw [IntWalk.i64_in _ (by omega)]; try omega
      have p2 : 0 ≤ (n : Int) + 14 := by omega
      have b2 : (n : Int) + 14 < 64 := by omega
      have t2 : ((n : Int) + 14).toNat = n + 14 := by omega
      refine wp_region_lexK 12 (by kernel_rfl) (by kernel_rfl) ?_
      intro K_ ops_ _ hK
      apply Exists.intro
      simp only [List.take_succ_cons, List.take_zero, List.drop_succ_cons, List.drop_zero]
      repeat (first
        
        | (apply Lex_put_agg (j := 8) (ho := rfl); (go_simp; rfl); (go_simp; rfl); rfl; rfl; rfl; rfl; rfl; kernel_rfl; (first | exact cw_one _ | simp [Value.oneCell']); (first | (rw [cw_size, L64.out]; rfl) | (rw [cw_size, L8.out]; rfl) | (rw [cw_size]; rfl) | rfl); intro _) | (apply Lex_put_agg (j := 9) (ho := rfl); (go_simp; rfl); (go_simp; rfl); rfl; rfl; rfl; rfl; rfl; kernel_rfl; (first | exact cw_one _ | simp [Value.oneCell']); (first | (rw [cw_size, L64.out]; rfl) | (rw [cw_size, L8.out]; rfl) | (rw [cw_size]; rfl) | rfl); intro _)
        | (apply Lex_det (by rfl) (by rfl) (fun w1 hw1 hd1 => ?_) (fun _ => ?_) (fun _ => ?_); rotate_left 3; (go_simp; first | done | rfl | (rw [grow_cell hw1 c1]; focus ((try simp); first | done | rfl)) | (rw [grow_cell hw1 c14]; focus ((try simp); first | done | rfl))); (simp only [Act.put, List.setIfInBounds_toArray, List.set_cons_succ, List.set_cons_zero]; first | done | rfl))
        | (apply Lex_box (by rfl) (by rfl) (fun w1 hw1 hd1 => ?_) (fun _ => ?_) (fun _ => ?_); rotate_left 4; (go_simp; first | done | rfl); (simp only [Act.put, List.setIfInBounds_toArray, List.set_cons_succ, List.set_cons_zero]; first | done | rfl))
        | (apply Lex_bs (t := 76) (e := 80) (z := .agg #[.int .u32 0]) (ho := rfl) (by rfl) Tryz.underlying76 (by kernel_rfl) (by decide) (by decide) (fun _ => ?_) (fun _ => ?_) (fun _ => ?_) (fun _ => ?_) (fun _ => ?_); rotate_left 4; (go_simp; rfl); (exact ⟨rfl, rfl, rfl⟩); (simp only [List.map_cons, List.map_nil, List.flatMap_cons, List.flatMap_nil, Value.cells, List.cons_append, List.nil_append, List.append_nil]; rfl); (simp only [Act.put, List.setIfInBounds_toArray, List.set_cons_succ, List.set_cons_zero]; first | done | rfl))
        | (apply Lex_call (by rfl) (by rfl) (fun w1 => ?_) (fun w1 hw1 hd1 => ?_) (fun _ => ?_) (fun _ => ?_); rotate_left 5; (go_simp; first | done | exact ⟨rfl, rfl⟩ | rfl); (first | fail); (simp only [Act.put, List.setIfInBounds_toArray, List.set_cons_succ, List.set_cons_zero]; first | done | rfl)))
      apply Lex_end
      refine hK _ _ ?_
      clear hK K_
      intro w1 hw1 hf1
      simp only [List.drop_succ_cons, List.drop_zero]
      simp [allFacts, contOf, Exp.putAt, Exp.fact, Exp.fresh, Exp.blk] at hf1
      clear e15 p15 b15 t15 e2 p2 b2 t2 c1 c14
      obtain ⟨k5, l5, n56, k6, l6⟩ := hf1
      replace k1 := grow_blk hw1 k1
      replace k2 := grow_blk hw1 k2
      replace HB := bl_call hw1 HB
      clear hw1
      go_upto_region 7 with (fail)
      refine wp_region_lexK 9 (by kernel_rfl) (by kernel_rfl) ?_
      intro K_ ops_ _ hK
      apply Exists.intro
      simp only [List.take_succ_cons, List.take_zero, List.drop_succ_cons, List.drop_zero]
      repeat (first
        
        | (apply Lex_put_agg (j := 7) (ho := rfl); (go_simp; rfl); (go_simp; rfl); rfl; rfl; rfl; rfl; rfl; kernel_rfl; (first | exact cw_one _ | simp [Value.oneCell']); (first | (rw [cw_size, L64.out]; rfl) | (rw [cw_size, L8.out]; rfl) | (rw [cw_size]; rfl) | rfl); intro _)
        | (apply Lex_det (by rfl) (by rfl) (fun w1 hw1 hd1 => ?_) (fun _ => ?_) (fun _ => ?_); rotate_left 3; (go_simp; first | done | rfl | (rw [blk_cell (grow_blk hw1 k5)]; focus ((try simp); first | done | rfl))); (simp only [Act.put, List.setIfInBounds_toArray, List.set_cons_succ, List.set_cons_zero]; first | done | rfl))
        | (apply Lex_box (by rfl) (by rfl) (fun w1 hw1 hd1 => ?_) (fun _ => ?_) (fun _ => ?_); rotate_left 4; (go_simp; first | done | rfl); (simp only [Act.put, List.setIfInBounds_toArray, List.set_cons_succ, List.set_cons_zero]; first | done | rfl))
        | (apply Lex_bs (t := 76) (e := 80) (z := .agg #[.int .u32 0]) (ho := rfl) (by rfl) Tryz.underlying76 (by kernel_rfl) (by decide) (by decide) (fun _ => ?_) (fun _ => ?_) (fun _ => ?_) (fun _ => ?_) (fun _ => ?_); rotate_left 4; (go_simp; rfl); (exact ⟨rfl, rfl, rfl⟩); (simp only [List.map_cons, List.map_nil, List.flatMap_cons, List.flatMap_nil, Value.cells, List.cons_append, List.nil_append, List.append_nil]; rfl); (simp only [Act.put, List.setIfInBounds_toArray, List.set_cons_succ, List.set_cons_zero]; first | done | rfl))
        | (apply Lex_call (by rfl) (by rfl) (fun w1 => ?_) (fun w1 hw1 hd1 => ?_) (fun _ => ?_) (fun _ => ?_); rotate_left 5; (go_simp; first | done | exact ⟨rfl, rfl⟩ | rfl); (first | (go_at_call 112; exact (Rot_c _ _ (by omega) (by omega) w1)) | (go_at_call 67; exact (Shr_c _ _ (by omega) (by omega) w1)) | (go_at_call 111; exact (xor3_c _ _ _ w1))); (simp only [Act.put, List.setIfInBounds_toArray, List.set_cons_succ, List.set_cons_zero]; first | done | rfl)))
      apply Lex_end
      refine hK _ _ ?_
      clear hK K_
      intro w1 hw1 hf1
      simp only [List.drop_succ_cons, List.drop_zero]
      simp [allFacts, contOf, Exp.putAt, Exp.fact, Exp.fresh, Exp.blk] at hf1
      obtain ⟨k7, l7⟩ := hf1
      replace k1 := grow_blk hw1 k1
      replace k2 := grow_blk hw1 k2
      replace k6 := grow_blk hw1 k6
      replace HB := bl_call hw1 HB
      clear hw1
      go_upto_region 8 with (fail)
      refine wp_region_lexK 9 (by kernel_rfl) (by kernel_rfl) ?_
      intro K_ ops_ _ hK
      apply Exists.intro
      simp only [List.take_succ_cons, List.take_zero, List.drop_succ_cons, List.drop_zero]
      repeat (first
        
        | (apply Lex_put_agg (j := 7) (ho := rfl); (go_simp; rfl); (go_simp; rfl); rfl; rfl; rfl; rfl; rfl; kernel_rfl; (first | exact cw_one _ | simp [Value.oneCell']); (first | (rw [cw_size, L64.out]; rfl) | (rw [cw_size, L8.out]; rfl) | (rw [cw_size]; rfl) | rfl); intro _)
        | (apply Lex_det (by rfl) (by rfl) (fun w1 hw1 hd1 => ?_) (fun _ => ?_) (fun _ => ?_); rotate_left 3; (go_simp; first | done | rfl | (rw [blk_cell (grow_blk hw1 k6)]; focus ((try simp); first | done | rfl))); (simp only [Act.put, List.setIfInBounds_toArray, List.set_cons_succ, List.set_cons_zero]; first | done | rfl))
        | (apply Lex_box (by rfl) (by rfl) (fun w1 hw1 hd1 => ?_) (fun _ => ?_) (fun _ => ?_); rotate_left 4; (go_simp; first | done | rfl); (simp only [Act.put, List.setIfInBounds_toArray, List.set_cons_succ, List.set_cons_zero]; first | done | rfl))
        | (apply Lex_bs (t := 76) (e := 80) (z := .agg #[.int .u32 0]) (ho := rfl) (by rfl) Tryz.underlying76 (by kernel_rfl) (by decide) (by decide) (fun _ => ?_) (fun _ => ?_) (fun _ => ?_) (fun _ => ?_) (fun _ => ?_); rotate_left 4; (go_simp; rfl); (exact ⟨rfl, rfl, rfl⟩); (simp only [List.map_cons, List.map_nil, List.flatMap_cons, List.flatMap_nil, Value.cells, List.cons_append, List.nil_append, List.append_nil]; rfl); (simp only [Act.put, List.setIfInBounds_toArray, List.set_cons_succ, List.set_cons_zero]; first | done | rfl))
        | (apply Lex_call (by rfl) (by rfl) (fun w1 => ?_) (fun w1 hw1 hd1 => ?_) (fun _ => ?_) (fun _ => ?_); rotate_left 5; (go_simp; first | done | exact ⟨rfl, rfl⟩ | rfl); (first | (go_at_call 112; exact (Rot_c _ _ (by omega) (by omega) w1)) | (go_at_call 67; exact (Shr_c _ _ (by omega) (by omega) w1)) | (go_at_call 111; exact (xor3_c _ _ _ w1))); (simp only [Act.put, List.setIfInBounds_toArray, List.set_cons_succ, List.set_cons_zero]; first | done | rfl)))
      apply Lex_end
      refine hK _ _ ?_
      clear hK K_
      intro w1 hw1 hf1
      simp only [List.drop_succ_cons, List.drop_zero]
      simp [allFacts, contOf, Exp.putAt, Exp.fact, Exp.fresh, Exp.blk] at hf1
      obtain ⟨k8, l8⟩ := hf1
      replace k1 := grow_blk hw1 k1
      replace k2 := grow_blk hw1 k2
      replace k7 := grow_blk hw1 k7
      replace HB := bl_call hw1 HB
      clear hw1
      go_upto_region 9 with (fail)
      have c9 := blk_cell k2 (n + 9)
      rw [cw_at _ _ (by omega), spreadAt_at b hb _ _ (by omega)] at c9
      have c0 := blk_cell k2 n
      rw [cw_at _ _ (by omega), spreadAt_at b hb _ _ (by omega)] at c0
      have e7 : IntKind.i64.wrap ((n : Int) + 16 - 7) = (n : Int) + 9 := by rw [IntWalk.i64_in _ (by omega)]; try omega
      have p7 : 0 ≤ (n : Int) + 9 := by omega
      have b7 : (n : Int) + 9 < 64 := by omega
      have t7 : ((n : Int) + 9).toNat = n + 9 := by omega
      have e16 : IntKind.i64.wrap ((n : Int)) = (n : Int) := by rw [IntWalk.i64_in _ (by omega)]; try omega
      have p16 : 0 ≤ (n : Int) := by omega
      have b16 : (n : Int) < 64 := by omega
      have t16 : ((n : Int)).toNat = n := by omega
      have t0 : ((n : Int) + 16).toNat = n + 16 := by omega
      refine wp_region_lexK 14 (by kernel_rfl) (by kernel_rfl) ?_
      intro K_ ops_ _ hK
      apply Exists.intro
      simp only [List.take_succ_cons, List.take_zero, List.drop_succ_cons, List.drop_zero]
      repeat (first
        
        
        | (apply Lex_det (by rfl) (by rfl) (fun w1 hw1 hd1 => ?_) (fun _ => ?_) (fun _ => ?_); rotate_left 3; (go_simp; first | done | rfl | (rw [blk_cell (grow_blk hw1 k7)]; focus ((try simp); first | done | rfl)) | (rw [blk_cell (grow_blk hw1 k8)]; focus ((try simp); first | done | rfl)) | (rw [grow_cell hw1 c9]; focus ((try simp); first | done | rfl)) | (rw [grow_cell hw1 c0]; focus ((try simp); first | done | rfl))); (simp only [Act.put, List.setIfInBounds_toArray, List.set_cons_succ, List.set_cons_zero]; first | done | rfl))
        | (apply Lex_box (by rfl) (by rfl) (fun w1 hw1 hd1 => ?_) (fun _ => ?_) (fun _ => ?_); rotate_left 4; (go_simp; first | done | rfl); (simp only [Act.put, List.setIfInBounds_toArray, List.set_cons_succ, List.set_cons_zero]; first | done | rfl))
        | (apply Lex_bs (t := 76) (e := 80) (z := .agg #[.int .u32 0]) (ho := rfl) (by rfl) Tryz.underlying76 (by kernel_rfl) (by decide) (by decide) (fun _ => ?_) (fun _ => ?_) (fun _ => ?_) (fun _ => ?_) (fun _ => ?_); rotate_left 4; (go_simp; rfl); (exact ⟨rfl, rfl, rfl⟩); (simp only [List.map_cons, List.map_nil, List.flatMap_cons, List.flatMap_nil, Value.cells, List.cons_append, List.nil_append, List.append_nil]; rfl); (simp only [Act.put, List.setIfInBounds_toArray, List.set_cons_succ, List.set_cons_zero]; first | done | rfl))
        | (apply Lex_call (by rfl) (by rfl) (fun w1 => ?_) (fun w1 hw1 hd1 => ?_) (fun _ => ?_) (fun _ => ?_); rotate_left 5; (go_simp; first | done | exact ⟨rfl, rfl⟩ | rfl); (first | (go_at_call 110; simp [depFacts, needs, Region.binds, Exp.dep] at hd1; exact (sum_c [greatw (at32 (spreadTo b n) (n + 14)), at32 (spreadTo b n) (n + 9), smallw (at32 (spreadTo b n) (n + 1)), at32 (spreadTo b n) n] _ _ w1 hd1 (by simp)))); (simp only [Act.put, List.setIfInBounds_toArray, List.set_cons_succ, List.set_cons_zero]; first | done | rfl)))
      apply Lex_end
      refine hK _ _ ?_
      clear hK K_
      intro w1 hw1 hf1
      simp only [List.drop_succ_cons, List.drop_zero]
      simp [allFacts, contOf, Exp.putAt, Exp.fact, Exp.fresh, Exp.blk] at hf1
      clear hf1
      replace k1 := grow_blk hw1 k1
      replace k2 := grow_blk hw1 k2
      replace HB := bl_call hw1 HB
      have cs := blk_cell k2 (n + 16)
      rw [cw_at _ _ (by omega)] at cs
      have fs := blk_frozen k2 (n + 16)
      go_wp2
      refine ⟨⟨n + 1, by omega, congrArg (Value.int .i64) (by omega), bl_set _ _ (by simp; omega) HB, blk_far k1 (by simp) _, ?_⟩, by simp [intOf]; omega⟩
      rw [← spreadAt_set b hb n hlt, ← cw_set]
      exact blk_set k2 (n + 16) _
    · obtain rfl : n = 48 := by omega
      rw [spreadAt_end] at k2
      go_upto_region 10 with (fail)
      refine wp_region_lit ?_
      have L64 : (spreadTo b 48).length = 64 := by rw [spreadTo_length b hb]
      refine wpList_load_row rfl _ _ rfl (w.heap.size + 1 + 1) rfl 123 (cw (spreadTo b 48)) (0, 0) _ k2 Tryz.underlying123 rfl (by rw [cw_size, L64]; kernel_rfl) ?_
      refine wpList_store_row rfl _ _ _ rfl (w.heap.size + 1) (cw (spreadTo b 48)) rfl rfl 123 _ k1 (by rw [cw_size, L64]; kernel_rfl) (by rw [cw_size, L64]; rfl) (cw_one _) ?_
      refine gen_list fun W2 hW => ?_
      replace k1 : W2.heap[w.heap.size + 1]? = some (.cells (cw (spreadTo b 48)) 123 (0, 0)) := by subst hW; exact setRow_blk k1 _
      replace HB : Below w.heap.size w W2 := by subst hW; exact bl_row _ _ (by omega) HB
      clear hW
      go_wp2
      exact bodyPost_ret (v := .agg (cw (spreadTo b 48))) (results_cell_row Tryz.results108 _ _ (w.heap.size + 1) 123 (cw (spreadTo b 48)) (0, 0) _ rfl k1 Tryz.underlying123 rfl (by rw [cw_size, L64]; kernel_rfl)) rfl ⟨rfl, HB⟩
end Go.Proofs.YthnackakgglhbaaGreat

/- Contracts of hmac.block and hmac.state. -/
import Derived.Test.YthnackakgglhbaaGreatHp
import Derived.Laws.Tables
namespace Go.Proofs.YthnackakgglhbaaGreat
open Go.RowKit
set_option maxRecDepth 100000
set_option linter.unusedSimpArgs false
set_option linter.unusedVariables false
attribute [local go_sem] evR_tmp evR_const evR_global evR_func
set_option maxHeartbeats 4000000 in
theorem block_c (l : List W32) (hl : l.length = 64) (v : Int) (c : UInt8) (hv : v = iw (kw c.toNat)) (w : World) : Calls Tryz.prog 99 #[.agg (cw l), .int .u32 v] w fun e w' => e = .returned (.agg (cw (rblockTo (withB c (lowB l)) 0 64))) ∧ Below w.heap.size w w' := by
  subst hv
  have LL := Lib.hid hl
  have hat := with_at l c
  rw [hl] at hat
  generalize withB c (lowB l) = P at hat ⊢
  generalize kw c.toNat = cc at hat ⊢
  clear hl
  have L16 := Lib.hid (rblockTo_length P 0 64)
  go_enter Tryz.func99, Tryz.ntmps99
  go_upto_region 2 with (fail)
  refine gen_world fun W hW => ?_
  have k2 : W.heap[w.heap.size]? = some (.cells (cw l) 123 (0, 0)) := by subst hW; (repeat (first | (with_reducible assumption) | ((with_reducible refine blk_new' ?_ _); (simp; done)) | ((with_reducible refine blk_alloc ?_ _)) | ((with_reducible refine blk_far ?_ ?_ _); (simp <;> omega))))
  have k4 : W.heap[w.heap.size + 1]? = some (.cells (Array.replicate 16 (.int .u32 0)) 140 (0, 0)) := by subst hW; exact blk_alloc (blk_new' (by simp) _) _
  have k5 : W.heap[w.heap.size + 1 + 1]? = some (.cells (Array.replicate 16 (.int .u32 0)) 140 (0, 0)) := by subst hW; exact blk_new' (by simp) _
  have HB : Below w.heap.size w W := by subst hW; (repeat (first | exact Below.refl _ _ | (refine bl_alloc ?_ _) | (refine bl_drewN ?_ _) | (refine bl_drew ?_) | (refine bl_call (by assumption) ?_) | (refine bl_set _ _ (by simp <;> omega) ?_) | assumption))
  clear hW
  refine wp_region_R 2 [2] (by kernel_rfl) (by kernel_rfl) (by kernel_rfl) (by kernel_rfl) ?_
  intro K_ ops_ hops_ hK
  replace hops_ := Lib.hid hops_
  apply Exists.intro
  intro R_ hb_
  simp only [↓baseR, ↓nthR_succ, ↓nthR_zero] at hb_
  simp only [List.take_succ_cons, List.take_zero, List.drop_succ_cons, List.drop_zero]
  repeat (first
    | (apply LexR_det (by rfl) (by rfl) (by rfl) (fun w1 hw1 hd1 => ?_) (fun _ hr_ => ?_); rotate_right 2; (refine run_load_rowR (ty := 123) rfl ?_ (grow_blk hw1 k2) Tryz.underlying123 rfl ?_; (focus (go_simp; done)); (rw [cw_size, LL.out]; kernel_rfl)))
    
    
    | (apply LexR_det (by rfl) (by rfl) (by rfl) (fun w1 hw1 hd1 => ?_) (fun _ hr_ => ?_); rotate_right 2; (go_simp; first | done | rfl ))
    | (apply LexR_box (by rfl) (by rfl) (by rfl) (fun w1 hw1 hd1 => ?_) (fun _ hr_ => ?_); rotate_right 2; (go_simp; first | done | rfl))
    | (apply LexR_bs (t := 76) (e := 80) (z := .agg #[.int .u32 0]) (ho := rfl) (by rfl) (by rfl) Tryz.underlying76 (by kernel_rfl) (by decide) (by decide) (fun _ => ?_) (fun _ => ?_) (fun _ => ?_) (fun _ hr_ => ?_); rotate_right 4; (go_simp; rfl); (exact ⟨rfl, rfl, rfl⟩); (simp only [List.map_cons, List.map_nil, List.flatMap_cons, List.flatMap_nil, Value.cells, List.cons_append, List.nil_append, List.append_nil]; rfl)))
  apply LexR_end
  refine hK _ _ ?_
  clear hK K_
  repeat clear hr_
  clear hb_ R_ hops_ ops_
  intro w1 hw1 hf1
  apply tailR (fun _ => ?_) (fun _ => ?_) ?_
  rotate_right 2
  · simp only [putAll, Act.put, List.setIfInBounds_toArray, List.set_cons_succ, List.set_cons_zero]; first | done | rfl
  · simp only [List.drop_succ_cons, List.drop_zero]; first | done | rfl
  simp [allFacts, contOf, Exp.putAt, Exp.fact, Exp.fresh, Exp.blk] at hf1
  clear hf1 k2
  replace k4 := grow_blk hw1 k4
  replace k5 := grow_blk hw1 k5
  replace HB := bl_call hw1 HB
  clear hw1
  have HB0 := HB
  have k40 := k4
  have k50 : w1.heap[w.heap.size + 1 + 1]? = some (.cells (cw (rblockTo P 0 0)) 140 (0, 0)) := by rw [rblockTo_zero]; exact k5
  clear HB k4 k5
  go_wp2_with fail
  go_loopw [9] (fun i wr => ∃ n : Nat, n ≤ 64 ∧ i = .int .i64 (n : Int) ∧ Below w.heap.size w wr ∧ wr.heap[w.heap.size + 1]? = some (.cells (Array.replicate 16 (.int .u32 0)) 140 (0, 0)) ∧ wr.heap[w.heap.size + 1 + 1]? = some (.cells (cw (rblockTo P 0 n)) 140 (0, 0))) (fun i _ => 64 - (intOf i).toNat)
  case atStart => exact ⟨0, by omega, rfl, HB0, k40, k50⟩
  case round =>
    clear HB0 k40 k50
    obtain ⟨n, hn, rfl, HB, k4, k5⟩ := hrel
    have pn : (0 : Int) ≤ (n : Int) := by omega
    by_cases hlt : n < 64
    · have hlt' : (n : Int) < 64 := by omega
      have hb := hat n hlt
      have ck : (cw l)[((n : Nat) : Int).toNat]? = some (.int .u32 (iw (at32 l n))) := by rw [Int.toNat_natCast]; exact cw_at l n (by rw [LL.out]; exact hlt)
      have q5 := blk_lt k5
      replace hb := Lib.hid hb
      go_upto_region 4 with (fail)
      refine wp_region_R 5 [8, 9] (by kernel_rfl) (by kernel_rfl) (by kernel_rfl) (by kernel_rfl) ?_
      intro K_ ops_ hops_ hK
      replace hops_ := Lib.hid hops_
      apply Exists.intro
      intro R_ hb_
      simp only [↓baseR, ↓nthR_succ, ↓nthR_zero] at hb_
      simp only [List.take_succ_cons, List.take_zero, List.drop_succ_cons, List.drop_zero]
      repeat (first
        | (apply LexR_det (by rfl) (by rfl) (by rfl) (fun w1 hw1 hd1 => ?_) (fun _ hr_ => ?_); rotate_right 2; (refine run_index_cellR rfl ?_ ?_ Tryz.underlying123 Tryz.underlying80 (by kernel_rfl) pn hlt' ck; (focus (go_simp; done)); (focus (go_simp; done))))
        | (apply LexR_put (j := 2) (ho := rfl); (go_simp; rfl); (go_simp; rfl); rfl; rfl; (focus (first | decide | (simp; done))); rfl; rfl; kernel_rfl; kernel_rfl; (first | exact cw_one _ | simp [Value.oneCell']); (first | (rw [cw_size, L64.out]; rfl) | (rw [cw_size, L8.out]; rfl) | (rw [cw_size]; rfl) | rfl); intro _)
        
        | (apply LexR_det (by rfl) (by rfl) (by rfl) (fun w1 hw1 hd1 => ?_) (fun _ hr_ => ?_); rotate_right 2; (go_simp; first | done | rfl ))
        | (apply LexR_box (by rfl) (by rfl) (by rfl) (fun w1 hw1 hd1 => ?_) (fun _ hr_ => ?_); rotate_right 2; (go_simp; first | done | rfl))
        | (apply LexR_bs (t := 76) (e := 80) (z := .agg #[.int .u32 0]) (ho := rfl) (by rfl) (by rfl) Tryz.underlying76 (by kernel_rfl) (by decide) (by decide) (fun _ => ?_) (fun _ => ?_) (fun _ => ?_) (fun _ hr_ => ?_); rotate_right 4; (go_simp; rfl); (exact ⟨rfl, rfl, rfl⟩); (simp only [List.map_cons, List.map_nil, List.flatMap_cons, List.flatMap_nil, Value.cells, List.cons_append, List.nil_append, List.append_nil]; rfl)))
      apply LexR_end
      refine hK _ _ ?_
      clear hK K_
      repeat clear hr_
      clear hb_ R_ hops_ ops_
      intro w1 hw1 hf1
      apply tailR (fun _ => ?_) (fun _ => ?_) ?_
      rotate_right 2
      · simp only [putAll, Act.put, List.setIfInBounds_toArray, List.set_cons_succ, List.set_cons_zero]; first | done | rfl
      · simp only [List.drop_succ_cons, List.drop_zero]; first | done | rfl
      simp [allFacts, contOf, Exp.putAt, Exp.fact, Exp.fresh, Exp.blk] at hf1
      obtain ⟨k7, l7⟩ := hf1
      obtain ⟨g7, e_⟩ := name_blk k7
      subst e_
      replace k4 := grow_blk hw1 k4
      replace k5 := grow_blk hw1 k5
      replace HB := bl_call hw1 HB
      have m7 : w.heap.size + 1 + 1 < g7 := by omega
      clear hw1 l7 ck q5
      go_upto_region 5 with (fail)
      refine wp_region_R 6 [1, 7] (by kernel_rfl) (by kernel_rfl) (by kernel_rfl) (by kernel_rfl) ?_
      intro K_ ops_ hops_ hK
      replace hops_ := Lib.hid hops_
      apply Exists.intro
      intro R_ hb_
      simp only [↓baseR, ↓nthR_succ, ↓nthR_zero] at hb_
      simp only [List.take_succ_cons, List.take_zero, List.drop_succ_cons, List.drop_zero]
      repeat (first
        
        
        | (apply LexR_callF (f := 68) (by rfl) (by rfl) (by rfl) Tryz.func68 (by kernel_rfl) (by kernel_rfl) (fun _ => ?_) (fun w1 hw1 hd1 => ?_) (fun _ hr_ => ?_); rotate_right 3; (go_simp; first | done | rfl); exact (Of_c _ (kw 255) rfl w1)) | (apply LexR_callF (f := 68) (by rfl) (by rfl) (by rfl) Tryz.func68 (by kernel_rfl) (by kernel_rfl) (fun _ => ?_) (fun w1 hw1 hd1 => ?_) (fun _ hr_ => ?_); rotate_right 3; (go_simp; first | done | rfl); exact (Of_c _ cc rfl w1)) | (apply LexR_callF (f := 66) (by rfl) (by rfl) (by rfl) Tryz.func66 (by kernel_rfl) (by kernel_rfl) (fun _ => ?_) (fun w1 hw1 hd1 => ?_) (fun _ hr_ => ?_); rotate_right 3; (go_simp; first | done | rfl); exact (And_c _ _ w1)) | (apply LexR_callF (f := 113) (by rfl) (by rfl) (by rfl) Tryz.func113 (by kernel_rfl) (by kernel_rfl) (fun _ => ?_) (fun w1 hw1 hd1 => ?_) (fun _ hr_ => ?_); rotate_right 3; (go_simp; first | done | rfl); exact (Xor_c _ _ w1))
        | (apply LexR_det (by rfl) (by rfl) (by rfl) (fun w1 hw1 hd1 => ?_) (fun _ hr_ => ?_); rotate_right 2; (go_simp; first | done | rfl | (rw [blk_cell (grow_blk hw1 k7)]; focus ((try simp); first | done | rfl))))
        | (apply LexR_box (by rfl) (by rfl) (by rfl) (fun w1 hw1 hd1 => ?_) (fun _ hr_ => ?_); rotate_right 2; (go_simp; first | done | rfl))
        | (apply LexR_bs (t := 76) (e := 80) (z := .agg #[.int .u32 0]) (ho := rfl) (by rfl) (by rfl) Tryz.underlying76 (by kernel_rfl) (by decide) (by decide) (fun _ => ?_) (fun _ => ?_) (fun _ => ?_) (fun _ hr_ => ?_); rotate_right 4; (go_simp; rfl); (exact ⟨rfl, rfl, rfl⟩); (simp only [List.map_cons, List.map_nil, List.flatMap_cons, List.flatMap_nil, Value.cells, List.cons_append, List.nil_append, List.append_nil]; rfl)))
      apply LexR_end
      refine hK _ _ ?_
      clear hK K_
      repeat clear hr_
      clear hb_ R_ hops_ ops_
      intro w1 hw1 hf1
      apply tailR (fun _ => ?_) (fun _ => ?_) ?_
      rotate_right 2
      · simp only [putAll, Act.put, List.setIfInBounds_toArray, List.set_cons_succ, List.set_cons_zero]; first | done | rfl
      · simp only [List.drop_succ_cons, List.drop_zero]; first | done | rfl
      simp [allFacts, contOf, Exp.putAt, Exp.fact, Exp.fresh, Exp.blk] at hf1
      clear hf1
      replace k4 := grow_blk hw1 k4
      replace k5 := grow_blk hw1 k5
      replace k7 := grow_blk hw1 k7
      replace HB := bl_call hw1 HB
      clear hw1
      rw [hb.out]
      have c7 := blk_cell k7 0
      have f7 := blk_frozen k7 0
      go_upto_region 6 with (fail)
      refine gen_world fun W2 hW => ?_
      replace k4 := far_eq hW k4 (by simp; omega)
      replace k5 := far_eq hW k5 (by simp; omega)
      replace HB : Below w.heap.size w W2 := by subst hW; exact bl_set _ _ (by simp; omega) HB
      replace k7 : W2.heap[g7]? = some (.cells #[.int .u32 (iw (byteAt P n))] 80 (0, 0)) := by subst hW; exact blk_set k7 0 _
      clear hW c7 f7
      have c5 := blk_cell k5 (n / 4)
      rw [cw_at _ _ (by rw [rblockTo_length]; omega)] at c5
      have e4 : IntKind.i64.wrap ((n : Int) / 4) = (n : Int) / 4 := by rw [IntWalk.i64_in _ (by omega)]; try omega
      have p4 : 0 ≤ (n : Int) / 4 := by omega
      have b4 : (n : Int) / 4 < 16 := by omega
      have t4 : ((n : Int) / 4).toNat = n / 4 := by omega
      refine wp_region_R 10 [5, 6, 7] (by kernel_rfl) (by kernel_rfl) (by kernel_rfl) (by kernel_rfl) ?_
      intro K_ ops_ hops_ hK
      replace hops_ := Lib.hid hops_
      apply Exists.intro
      intro R_ hb_
      simp only [↓baseR, ↓nthR_succ, ↓nthR_zero] at hb_
      simp only [List.take_succ_cons, List.take_zero, List.drop_succ_cons, List.drop_zero]
      repeat (first
        
        
        | (apply LexR_callF (f := 106) (by rfl) (by rfl) (by rfl) Tryz.func106 (by kernel_rfl) (by kernel_rfl) (fun _ => ?_) (fun w1 hw1 hd1 => ?_) (fun _ hr_ => ?_); rotate_right 3; (go_simp; first | done | rfl); exact (Shl_c _ _ (by omega) (by omega) w1)) | (apply LexR_callF (f := 105) (by rfl) (by rfl) (by rfl) Tryz.func105 (by kernel_rfl) (by kernel_rfl) (fun _ => ?_) (fun w1 hw1 hd1 => ?_) (fun _ hr_ => ?_); rotate_right 3; (go_simp; first | done | rfl); exact (Or_c _ _ w1))
        | (apply LexR_det (by rfl) (by rfl) (by rfl) (fun w1 hw1 hd1 => ?_) (fun _ hr_ => ?_); rotate_right 2; (go_simp; first | done | rfl | (rw [grow_cell hw1 c5]; focus ((try simp); first | done | rfl)) | (rw [blk_cell (grow_blk hw1 k7)]; focus ((try simp); first | done | rfl))))
        | (apply LexR_box (by rfl) (by rfl) (by rfl) (fun w1 hw1 hd1 => ?_) (fun _ hr_ => ?_); rotate_right 2; (go_simp; first | done | rfl))
        | (apply LexR_bs (t := 76) (e := 80) (z := .agg #[.int .u32 0]) (ho := rfl) (by rfl) (by rfl) Tryz.underlying76 (by kernel_rfl) (by decide) (by decide) (fun _ => ?_) (fun _ => ?_) (fun _ => ?_) (fun _ hr_ => ?_); rotate_right 4; (go_simp; rfl); (exact ⟨rfl, rfl, rfl⟩); (simp only [List.map_cons, List.map_nil, List.flatMap_cons, List.flatMap_nil, Value.cells, List.cons_append, List.nil_append, List.append_nil]; rfl)))
      apply LexR_end
      refine hK _ _ ?_
      clear hK K_
      repeat clear hr_
      clear hb_ R_ hops_ ops_
      intro w1 hw1 hf1
      apply tailR (fun _ => ?_) (fun _ => ?_) ?_
      rotate_right 2
      · simp only [putAll, Act.put, List.setIfInBounds_toArray, List.set_cons_succ, List.set_cons_zero]; first | done | rfl
      · simp only [List.drop_succ_cons, List.drop_zero]; first | done | rfl
      simp [allFacts, contOf, Exp.putAt, Exp.fact, Exp.fresh, Exp.blk] at hf1
      clear hf1 c5
      replace k4 := grow_blk hw1 k4
      replace k5 := grow_blk hw1 k5
      replace HB := bl_call hw1 HB
      clear hw1 k7
      have cs := blk_cell k5 (n / 4)
      rw [cw_at _ _ (by rw [rblockTo_length]; omega)] at cs
      have fs := blk_frozen k5 (n / 4)
      go_wp2_with fail
      go_roundw
      case measure => simp [intOf] <;> omega
      refine ⟨n + 1, by omega, congrArg (Value.int .i64) (by omega), bl_set _ _ (by simp <;> omega) HB, blk_far k4 (by simp <;> omega) _, ?_⟩
      have := rblockTo_set P 0 n hlt
      rw [Nat.zero_add] at this
      rw [← this, ← cw_set]
      exact blk_set k5 (n / 4) _
    · obtain rfl : n = 64 := by omega
      have hlt' : ¬ ((64 : Nat) : Int) < 64 := by omega
      clear hat
      go_upto_region 8 with (fail)
      refine wp_region_lit ?_
      refine wpList_load_row rfl _ _ rfl (w.heap.size + 1 + 1) rfl 140 (cw (rblockTo P 0 64)) (0, 0) _ k5 Tryz.underlying140 rfl (by rw [cw_size, L16.out]; kernel_rfl) ?_
      refine wpList_store_row rfl _ _ _ rfl (w.heap.size + 1) (cw (rblockTo P 0 64)) rfl rfl 140 _ k4 (by rw [cw_size, L16.out]; kernel_rfl) (by rw [cw_size, L16.out]; rfl) (cw_one _) ?_
      refine gen_list fun W2 hW => ?_
      replace k4 : W2.heap[w.heap.size + 1]? = some (.cells (cw (rblockTo P 0 64)) 140 (0, 0)) := by subst hW; exact setRow_blk k4 _
      replace HB : Below w.heap.size w W2 := by subst hW; exact bl_row _ _ (by omega) HB
      clear hW
      go_wp2
      exact bodyPost_ret (v := .agg (cw (rblockTo P 0 64))) (results_cell_row Tryz.results99 _ _ (w.heap.size + 1) 140 (cw (rblockTo P 0 64)) (0, 0) _ rfl k4 Tryz.underlying140 rfl (by rw [cw_size, L16.out]; kernel_rfl)) rfl ⟨rfl, HB⟩
theorem cw_app (a b : List W32) : cw (a ++ b) = cw a ++ cw b := by simp [cw]
theorem arr8 {α : Type} (X : Array α) (h : X.size = 8) : ∃ a b c d e f g i, X = #[a, b, c, d, e, f, g, i] := by
  obtain ⟨l⟩ := X
  match l, h with
  | [a, b, c, d, e, f, g, i], _ => exact ⟨a, b, c, d, e, f, g, i, rfl⟩
theorem built_state (X Y : Array Value) (hX : X.size = 8) (hY : Y.size = 8) : Tryz.prog.built 83 [(0, .agg X), (1, .agg Y)] = some (X ++ Y) := by
  obtain ⟨a, b, c, d, e, f, g, i, rfl⟩ := arr8 X hX
  obtain ⟨a', b', c', d', e', f', g', i', rfl⟩ := arr8 Y hY
  kernel_rfl
theorem run_state_R {R : Nat → Value} {o : Oper} {w : World} {x y : Operand} {A B : List W32} (ho : o.op = .build 83 #[(0, x), (1, y)]) (hx : evR R x = .agg (cw A)) (hy : evR R y = .agg (cw B)) (hA : A.length = 8) (hB : B.length = 8) :
    (execOp (evR R) o).run Tryz.prog w = .ok (.value (.agg (cw (A ++ B)))) w := by
  unfold execOp
  have h1 := run_build (P := Tryz.prog) w 83 #[(0, .agg (cw A)), (1, .agg (cw B))] (cw (A ++ B)) (by rw [cw_app]; exact built_state _ _ (by rw [cw_size, hA]) (by rw [cw_size, hB]))
  simp only [ho, List.map_toArray, List.map_cons, List.map_nil, hx, hy, Sem.run_bind, h1, Result.andThen_ok]
  rfl
set_option maxHeartbeats 4000000 in
theorem state_c (l : List W32) (hl : l.length = 64) (w : World) : Calls Tryz.prog 89 #[.agg (cw l)] w fun e w' => e = .returned (.agg (cw (stateW (lowB l)))) ∧ Below w.heap.size w w' := by
  have hb36 := fun w => block_c l hl 54 54 (by rfl) w
  have hb5c := fun w => block_c l hl 92 92 (by rfl) w
  have L1 := Lib.hid (rblockTo_length (withB 54 (lowB l)) 0 64)
  have L2 := Lib.hid (rblockTo_length (withB 92 (lowB l)) 0 64)
  have LL := Lib.hid hl
  have LS := Lib.hid (stateW_length (lowB l))
  unfold stateW at *
  generalize rblockTo (withB 54 (lowB l)) 0 64 = b1 at hb36 L1 LS ⊢
  generalize rblockTo (withB 92 (lowB l)) 0 64 = b2 at hb5c L2 LS ⊢
  have LA := Lib.hid (stepw_length h0 b1 rfl)
  have LB := Lib.hid (stepw_length h0 b2 rfl)
  have hs1 := fun w => Step_c h0 b1 rfl L1.out w
  have hs2 := fun w => Step_c h0 b2 rfl L2.out w
  generalize stepw h0 b1 = s1 at hs1 LA LS ⊢
  generalize stepw h0 b2 = s2 at hs2 LB LS ⊢
  clear hl
  go_enter Tryz.func89, Tryz.ntmps89
  go_upto_region 1 with (fail)
  refine gen_world fun W hW => ?_
  have k1 : W.heap[w.heap.size]? = some (.cells (cw l) 123 (0, 0)) := by subst hW; (repeat (first | (with_reducible assumption) | ((with_reducible refine blk_new' ?_ _); (simp; done)) | ((with_reducible refine blk_alloc ?_ _)) | ((with_reducible refine blk_far ?_ ?_ _); (simp <;> omega))))
  have k2 : W.heap[w.heap.size + 1]? = some (.cells (Array.replicate 16 (.int .u32 0)) 83 (0, 0)) := by subst hW; exact blk_new' (by simp) _
  have HB : Below w.heap.size w W := by subst hW; (repeat (first | exact Below.refl _ _ | (refine bl_alloc ?_ _) | (refine bl_drewN ?_ _) | (refine bl_drew ?_) | (refine bl_call (by assumption) ?_) | (refine bl_set _ _ (by simp <;> omega) ?_) | assumption))
  clear hW
  refine wp_region_R 9 [1] (by kernel_rfl) (by kernel_rfl) (by kernel_rfl) (by kernel_rfl) ?_
  intro K_ ops_ hops_ hK
  replace hops_ := Lib.hid hops_
  apply Exists.intro
  intro R_ hb_
  simp only [↓baseR, ↓nthR_succ, ↓nthR_zero] at hb_
  simp only [List.take_succ_cons, List.take_zero, List.drop_succ_cons, List.drop_zero]
  repeat (first
    | (apply LexR_det (by rfl) (by rfl) (by rfl) (fun w1 hw1 hd1 => ?_) (fun _ hr_ => ?_); rotate_right 2; (refine run_load_rowR (ty := 123) rfl ?_ (grow_blk hw1 k1) Tryz.underlying123 rfl ?_; (focus (go_simp; done)); (rw [cw_size, LL.out]; kernel_rfl))) | (apply LexR_det (by rfl) (by rfl) (by rfl) (fun w1 hw1 hd1 => ?_) (fun _ hr_ => ?_); rotate_right 2; (refine run_state_R rfl ?_ ?_ LA.out LB.out; (focus (go_simp; done)); (focus (go_simp; done))))
    
    | (apply LexR_callF (f := 98) (by rfl) (by rfl) (by rfl) Tryz.func98 (by kernel_rfl) (by kernel_rfl) (fun _ => ?_) (fun w1 hw1 hd1 => ?_) (fun _ hr_ => ?_); rotate_right 3; (go_simp; first | done | rfl); exact (First_c w1)) | (apply LexR_callF (f := 99) (by rfl) (by rfl) (by rfl) Tryz.func99 (by kernel_rfl) (by kernel_rfl) (fun _ => ?_) (fun w1 hw1 hd1 => ?_) (fun _ hr_ => ?_); rotate_right 3; (go_simp; first | done | rfl); (with_reducible exact (hb36 w1))) | (apply LexR_callF (f := 99) (by rfl) (by rfl) (by rfl) Tryz.func99 (by kernel_rfl) (by kernel_rfl) (fun _ => ?_) (fun w1 hw1 hd1 => ?_) (fun _ hr_ => ?_); rotate_right 3; (go_simp; first | done | rfl); (with_reducible exact (hb5c w1))) | (apply LexR_callF (f := 97) (by rfl) (by rfl) (by rfl) Tryz.func97 (by kernel_rfl) (by kernel_rfl) (fun _ => ?_) (fun w1 hw1 hd1 => ?_) (fun _ hr_ => ?_); rotate_right 3; (go_simp; first | done | rfl); (with_reducible exact (hs1 w1))) | (apply LexR_callF (f := 97) (by rfl) (by rfl) (by rfl) Tryz.func97 (by kernel_rfl) (by kernel_rfl) (fun _ => ?_) (fun w1 hw1 hd1 => ?_) (fun _ hr_ => ?_); rotate_right 3; (go_simp; first | done | rfl); (with_reducible exact (hs2 w1)))
    | (apply LexR_det (by rfl) (by rfl) (by rfl) (fun w1 hw1 hd1 => ?_) (fun _ hr_ => ?_); rotate_right 2; (go_simp; first | done | rfl ))
    | (apply LexR_box (by rfl) (by rfl) (by rfl) (fun w1 hw1 hd1 => ?_) (fun _ hr_ => ?_); rotate_right 2; (go_simp; first | done | rfl))
    | (apply LexR_bs (t := 76) (e := 80) (z := .agg #[.int .u32 0]) (ho := rfl) (by rfl) (by rfl) Tryz.underlying76 (by kernel_rfl) (by decide) (by decide) (fun _ => ?_) (fun _ => ?_) (fun _ => ?_) (fun _ hr_ => ?_); rotate_right 4; (go_simp; rfl); (exact ⟨rfl, rfl, rfl⟩); (simp only [List.map_cons, List.map_nil, List.flatMap_cons, List.flatMap_nil, Value.cells, List.cons_append, List.nil_append, List.append_nil]; rfl)))
  apply LexR_end
  refine hK _ _ ?_
  clear hK K_
  repeat clear hr_
  clear hb_ R_ hops_ ops_
  intro w1 hw1 hf1
  apply tailR (fun _ => ?_) (fun _ => ?_) ?_
  rotate_right 2
  · simp only [putAll, Act.put, List.setIfInBounds_toArray, List.set_cons_succ, List.set_cons_zero]; first | done | rfl
  · simp only [List.drop_succ_cons, List.drop_zero]; first | done | rfl
  simp [allFacts, contOf, Exp.putAt, Exp.fact, Exp.fresh, Exp.blk] at hf1
  clear hf1
  replace k2 := grow_blk hw1 k2
  replace HB := bl_call hw1 HB
  clear hw1 k1
  refine wpList_store_row rfl _ _ _ rfl (w.heap.size + 1) (cw (s1 ++ s2)) rfl rfl 83 _ k2 (by rw [cw_size, LS.out]; kernel_rfl) (by rw [cw_size, LS.out]; rfl) (cw_one _) ?_
  refine gen_list fun W2 hW => ?_
  replace k2 : W2.heap[w.heap.size + 1]? = some (.cells (cw (s1 ++ s2)) 83 (0, 0)) := by subst hW; exact setRow_blk k2 _
  replace HB : Below w.heap.size w W2 := by subst hW; exact bl_row _ _ (by omega) HB
  clear hW
  go_wp2
  exact bodyPost_ret (v := .agg (cw (s1 ++ s2))) (results_cell_row Tryz.results89 _ _ (w.heap.size + 1) 83 (cw (s1 ++ s2)) (0, 0) _ rfl k2 Tryz.underlying83 rfl (by rw [cw_size, LS.out]; kernel_rfl)) rfl ⟨rfl, HB⟩
end Go.Proofs.YthnackakgglhbaaGreat

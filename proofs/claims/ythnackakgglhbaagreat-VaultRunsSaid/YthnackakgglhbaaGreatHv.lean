/- Contracts of hmac.run, State.Sum, words, State.Text and Plain. -/
import Derived.Test.YthnackakgglhbaaGreatHu
import Derived.Test.YthnackakgglhbaaGreatTwo
namespace Go.Proofs.YthnackakgglhbaaGreat
open Go.RowKit
set_option maxRecDepth 100000
set_option linter.unusedSimpArgs false
set_option linter.unusedVariables false
attribute [local go_sem] evR_tmp evR_const evR_global evR_func
theorem run_load_midA {P : Program} {R : Nat → Value} {o : Oper} {w : World} {ty : TypeId} {x : Operand} {g off : Nat} {cs : Array Value} {d : TypeDesc} (ho : o.op = .load ty x) (hx : evR R x = .pointer (some ⟨g, off, none⟩)) (hc : w.rangeAt g off cs.toList)
    (hu : P.underlying ty = some d) (hd : d.isRow = true) (hi : (P.info? ty).map (·.size) = some cs.size) : (execOp (evR R) o).run P w = .ok (.value (.agg cs)) w := by
  simpa using run_load_midR (cs := cs.toList) ho hx hc hu hd (by rw [Array.length_toList]; exact hi)
set_option maxHeartbeats 4000000 in
theorem hrun_c (h xs : List W32) (hh : h.length = 8) (sv : Value) (w : World) (hn : xs.length ≤ 500000) (hs : SliceOf w sv xs) : Calls Tryz.prog 92 #[.agg (cw h), sv] w fun e w' => e = .returned (.agg (cw (runw h (lowB xs)))) ∧ Below w.heap.size w w' := by
  have hT0 := fun w1 hw1 => tail_c xs sv w1 hn (hs.grow hw1)
  have LR := fun k => runAt_length h hh (tailP (lowB xs)) k
  have hfin : runAt h (tailP (lowB xs)) (tails (lowB xs)) = runw h (lowB xs) := rfl
  have hst := runAt_step h (lowB xs)
  have L64 := Lib.hid (fun k => show (endBlk (lowB xs) k).length = 16 from rblockTo_length _ _ _)
  have LH := Lib.hid hh
  have hend := endCells_at (lowB xs) (tails (lowB xs))
  have hTb : tails (lowB xs) ≤ 10000 := by unfold tails lastAt; rw [lowB_length]; omega
  have hz : runAt h (tailP (lowB xs)) 0 = h := rfl
  generalize runw h (lowB xs) = fin at hfin ⊢
  generalize endBlk (lowB xs) = eb at hst L64 hend
  generalize runAt h (tailP (lowB xs)) = ra at hfin LR hst hz
  generalize endCells (lowB xs) (tails (lowB xs)) = ec at hT0 hend
  generalize tails (lowB xs) = T at hT0 hfin hend hTb
  obtain rfl : ra 0 = h := hz
  replace LR := Lib.hid LR
  replace hfin := Lib.hid hfin
  replace hst := Lib.hid hst
  clear hh
  go_enter Tryz.func92, Tryz.ntmps92
  go_upto_region 1 with (fail)
  refine gen_world fun W hW => ?_
  have k2 : W.heap[w.heap.size]? = some (.cells (cw (ra 0)) 81 (0, 0)) := by subst hW; (repeat (first | (with_reducible assumption) | ((with_reducible refine blk_new' ?_ _); (simp; done)) | ((with_reducible refine blk_alloc ?_ _)) | ((with_reducible refine blk_far ?_ ?_ _); (simp <;> omega))))
  have k4 : W.heap[w.heap.size + 1]? = some (.cells (Array.replicate 8 (.int .u32 0)) 81 (0, 0)) := by subst hW; exact blk_new' (by simp) _
  have HB : Below w.heap.size w W := by subst hW; (repeat (first | exact Below.refl _ _ | (refine bl_alloc ?_ _) | (refine bl_drewN ?_ _) | (refine bl_drew ?_) | (refine bl_call (by assumption) ?_) | (refine bl_set _ _ (by simp <;> omega) ?_) | assumption))
  clear hW
  have hsW := hT0 W HB
  go_upto_region 2 with (go_at_call 107; refine hsW.mono ?_; rintro e w1 ⟨g, cap, cur, rfl, hg, kg, tg, hb⟩)
  have q4 := blk_lt k4
  have mg : w.heap.size + 1 < g := by omega
  replace k2 := grow_blk hb k2
  replace k4 := grow_blk hb k4
  replace HB := bl_call hb HB
  clear hb hg hsW hT0 q4
  have hmid : ∀ wr : World, wr.heap[g]? = some (.cells cur 140 (0, 0)) → ∀ k, k < T → wr.rangeAt g (k * 16) (cw (eb k)).toList := fun wr kg k hk j v hj => by
    have hj16 : j < 16 := by
      have := (List.getElem?_eq_some_iff.1 hj).1
      rwa [cw_list_length, L64.out] at this
    rw [blk_cell kg, ← hj, ← hend k hk j hj16, ← tg, List.getElem?_take, if_pos (by omega), Array.getElem?_toList]
  clear tg hend
  go_wp2_with fail
  have HB0 := HB
  have k20 := k2
  have k40 := k4
  have kg0 := kg
  clear HB k2 k4 kg
  go_loopw [10] (fun i wr => ∃ k : Nat, k ≤ T ∧ i = .int .i64 (k : Int) ∧ Below w.heap.size w wr ∧ wr.heap[w.heap.size]? = some (.cells (cw (ra k)) 81 (0, 0)) ∧ wr.heap[w.heap.size + 1]? = some (.cells (Array.replicate 8 (.int .u32 0)) 81 (0, 0)) ∧ wr.heap[g]? = some (.cells cur 140 (0, 0))) (fun i _ => T - (intOf i).toNat)
  case atStart => exact ⟨0, by omega, rfl, HB0, k20, k40, kg0⟩
  case round =>
    clear HB0 k20 k40 kg0
    obtain ⟨k, hk, rfl, HB, k2, k4, kg⟩ := hrel
    have pk : (0 : Int) ≤ (k : Int) := by omega
    by_cases hlt : k < T
    · have hlt' : (k : Int) < (T : Int) := by omega
      have mp := hmid wr kg k hlt
      have qg := blk_lt kg
      go_upto_region 3 with (fail)
      refine wp_region_R 4 [8, 10] (by kernel_rfl) (by kernel_rfl) (by kernel_rfl) (by kernel_rfl) ?_
      intro K_ ops_ hops_ hK
      replace hops_ := Lib.hid hops_
      apply Exists.intro
      intro R_ hb_
      simp only [↓baseR, ↓nthR_succ, ↓nthR_zero] at hb_
      simp only [List.take_succ_cons, List.take_zero, List.drop_succ_cons, List.drop_zero]
      repeat (first
        | (apply LexR_det (by rfl) (by rfl) (by rfl) (fun w1 hw1 hd1 => ?_) (fun _ hr_ => ?_); rotate_right 2; (refine run_load_midA (ty := 140) rfl ?_ (rangeAt_grow hw1 mp) Tryz.underlying140 rfl ?_; (focus (go_simp; done)); (rw [cw_size, L64.out]; kernel_rfl)))
        | (apply LexR_put (j := 2) (ho := rfl); (go_simp; rfl); (go_simp; rfl); rfl; rfl; (focus (first | decide | (simp; done))); rfl; rfl; kernel_rfl; kernel_rfl; (first | exact cw_one _ | simp [Value.oneCell']); (first | (rw [cw_size, L64.out]; rfl) | (rw [cw_size, L8.out]; rfl) | (rw [cw_size]; rfl) | rfl); intro _)
        
        | (apply LexR_det (by rfl) (by rfl) (by rfl) (fun w1 hw1 hd1 => ?_) (fun _ hr_ => ?_); rotate_right 2; (go_simp; first | done | rfl ))
        | (apply LexR_box (by rfl) (by rfl) (by rfl) (fun w1 hw1 hd1 => ?_) (fun _ hr_ => ?_); rotate_right 2; (go_simp; first | done | rfl))
        | (apply LexR_bs (t := 76) (e := 80) (z := .agg #[.int .u32 0]) (ho := rfl) (by rfl) (by rfl) Tryz.underlying76 (by kernel_rfl) (by decide) (by decide) (fun _ => ?_) (fun _ => ?_) (fun _ => ?_) (fun _ hr_ => ?_); rotate_right 4; (go_simp; rfl); (exact ⟨rfl, rfl, rfl⟩); (simp only [List.map_cons, List.map_nil, List.flatMap_cons, List.flatMap_nil, Value.cells, List.cons_append, List.nil_append, List.append_nil]; rfl)))
      apply LexR_end
      refine hK _ _ ?_
      clear hK K_
      repeat clear hr_
      clear hb_ R_ hops_ ops_
      intro w1 hw1 hf1
      apply tailR (fun _ => ?_) (fun _ => ?_) ?_
      rotate_right 2
      · simp only [putAll, Act.put, List.setIfInBounds_toArray, List.set_cons_succ, List.set_cons_zero]; first | done | rfl
      · simp only [List.drop_succ_cons, List.drop_zero]; first | done | rfl
      simp [allFacts, contOf, Exp.putAt, Exp.fact, Exp.fresh, Exp.blk] at hf1
      obtain ⟨k6, l6⟩ := hf1
      obtain ⟨g6, e_⟩ := name_blk k6
      subst e_
      replace k2 := grow_blk hw1 k2
      replace k4 := grow_blk hw1 k4
      replace kg := grow_blk hw1 kg
      replace HB := bl_call hw1 HB
      clear hw1 l6 mp qg
      have hS := fun w => Step_c (ra k) (eb k) (LR.out k) (L64.out k) w
      rw [hst.out] at hS
      go_upto_region 4 with (fail)
      refine wp_region_R 3 [2, 6] (by kernel_rfl) (by kernel_rfl) (by kernel_rfl) (by kernel_rfl) ?_
      intro K_ ops_ hops_ hK
      replace hops_ := Lib.hid hops_
      apply Exists.intro
      intro R_ hb_
      simp only [↓baseR, ↓nthR_succ, ↓nthR_zero] at hb_
      simp only [List.take_succ_cons, List.take_zero, List.drop_succ_cons, List.drop_zero]
      repeat (first
        | (apply LexR_det (by rfl) (by rfl) (by rfl) (fun w1 hw1 hd1 => ?_) (fun _ hr_ => ?_); rotate_right 2; (refine run_load_rowR (ty := 81) rfl ?_ (grow_blk hw1 k2) Tryz.underlying81 rfl ?_; (focus (go_simp; done)); (rw [cw_size, LR.out]; kernel_rfl))) | (apply LexR_det (by rfl) (by rfl) (by rfl) (fun w1 hw1 hd1 => ?_) (fun _ hr_ => ?_); rotate_right 2; (refine run_load_rowR (ty := 140) rfl ?_ (grow_blk hw1 k6) Tryz.underlying140 rfl ?_; (focus (go_simp; done)); (rw [cw_size, L64.out]; kernel_rfl)))
        
        | (apply LexR_callF (f := 97) (by rfl) (by rfl) (by rfl) Tryz.func97 (by kernel_rfl) (by kernel_rfl) (fun _ => ?_) (fun w1 hw1 hd1 => ?_) (fun _ hr_ => ?_); rotate_right 3; (go_simp; first | done | rfl); (with_reducible exact (hS w1)))
        | (apply LexR_det (by rfl) (by rfl) (by rfl) (fun w1 hw1 hd1 => ?_) (fun _ hr_ => ?_); rotate_right 2; (go_simp; first | done | rfl ))
        | (apply LexR_box (by rfl) (by rfl) (by rfl) (fun w1 hw1 hd1 => ?_) (fun _ hr_ => ?_); rotate_right 2; (go_simp; first | done | rfl))
        | (apply LexR_bs (t := 76) (e := 80) (z := .agg #[.int .u32 0]) (ho := rfl) (by rfl) (by rfl) Tryz.underlying76 (by kernel_rfl) (by decide) (by decide) (fun _ => ?_) (fun _ => ?_) (fun _ => ?_) (fun _ hr_ => ?_); rotate_right 4; (go_simp; rfl); (exact ⟨rfl, rfl, rfl⟩); (simp only [List.map_cons, List.map_nil, List.flatMap_cons, List.flatMap_nil, Value.cells, List.cons_append, List.nil_append, List.append_nil]; rfl)))
      apply LexR_end
      refine hK _ _ ?_
      clear hK K_
      repeat clear hr_
      clear hb_ R_ hops_ ops_
      intro w1 hw1 hf1
      apply tailR (fun _ => ?_) (fun _ => ?_) ?_
      rotate_right 2
      · simp only [putAll, Act.put, List.setIfInBounds_toArray, List.set_cons_succ, List.set_cons_zero]; first | done | rfl
      · simp only [List.drop_succ_cons, List.drop_zero]; first | done | rfl
      simp [allFacts, contOf, Exp.putAt, Exp.fact, Exp.fresh, Exp.blk] at hf1
      clear hf1 hS
      replace k2 := grow_blk hw1 k2
      replace k4 := grow_blk hw1 k4
      replace kg := grow_blk hw1 kg
      replace HB := bl_call hw1 HB
      clear hw1 k6
      refine wpList_store_row rfl _ _ _ rfl w.heap.size (cw (ra (k + 1))) rfl rfl 81 _ k2 (by rw [cw_size, LR.out]; kernel_rfl) (by rw [cw_size, cw_size, LR.out, LR.out]) (cw_one _) ?_
      refine gen_list fun W2 hW => ?_
      replace HB : Below w.heap.size w W2 := by subst hW; exact bl_row _ _ (by omega) HB
      replace k4 := far_row hW k4 (by omega)
      replace kg := far_row hW kg (by omega)
      replace k2 : W2.heap[w.heap.size]? = some (.cells (cw (ra (k + 1))) 81 (0, 0)) := by subst hW; exact setRow_blk k2 _
      clear hW
      go_wp2_with fail
      go_roundw
      case measure => simp [intOf] <;> omega
      exact ⟨k + 1, by omega, congrArg (Value.int .i64) (by omega), HB, k2, k4, kg⟩
    · obtain rfl : k = T := by omega
      have hlt' : ¬ (k : Int) < (k : Int) := by omega
      have L8 := Lib.hid (show fin.length = 8 by rw [← hfin.out]; exact LR.out k)
      rw [hfin.out] at k2
      clear kg
      go_upto_region 6 with (fail)
      refine wp_region_lit ?_
      refine wpList_load_row rfl _ _ rfl w.heap.size rfl 81 (cw fin) (0, 0) _ k2 Tryz.underlying81 rfl (by rw [cw_size, L8.out]; kernel_rfl) ?_
      refine wpList_store_row rfl _ _ _ rfl (w.heap.size + 1) (cw fin) rfl rfl 81 _ k4 (by rw [cw_size, L8.out]; kernel_rfl) (by rw [cw_size, L8.out]; rfl) (cw_one _) ?_
      refine gen_list fun W2 hW => ?_
      replace k4 : W2.heap[w.heap.size + 1]? = some (.cells (cw fin) 81 (0, 0)) := by subst hW; exact setRow_blk k4 _
      replace HB : Below w.heap.size w W2 := by subst hW; exact bl_row _ _ (by omega) HB
      clear hW
      go_wp2
      exact bodyPost_ret (v := .agg (cw fin)) (results_cell_row Tryz.results92 _ _ (w.heap.size + 1) 81 (cw fin) (0, 0) _ rfl k4 Tryz.underlying81 rfl (by rw [cw_size, L8.out]; kernel_rfl)) rfl ⟨rfl, HB⟩
theorem list_slice {w : World} {g n cap : Nat} {cur : Array Value} {xs : List W32} (hk : w.heap[g]? = some (.cells cur 80 (0, 0))) (ht : cur.toList.take n = xs.map sec) (hn : n = xs.length) : SliceOf w (.slice (some ⟨g, 0, none⟩) n cap) xs := by
  refine .inr ⟨g, 0, cap, by rw [hn], by omega, fun k hk' => ?_⟩
  have e := congrArg (fun l => l[k]?) ht
  simp only [List.getElem?_take, if_pos (show k < n by omega), List.getElem?_map, Array.getElem?_toList] at e
  rw [Nat.zero_add, blk_cell hk, e]
  simp [hk', sec, at32]
theorem cw_mid {w : World} {g : Nat} {t : TypeId} {xs ys : List W32} (hk : w.heap[g]? = some (.cells (cw (xs ++ ys)) t (0, 0))) : w.rangeAt g 0 (cw xs).toList ∧ w.rangeAt g xs.length (cw ys).toList := by
  constructor
  · intro j v hj
    have hlt : j < xs.length := by
      have := (List.getElem?_eq_some_iff.1 hj).1
      rwa [cw_list_length] at this
    rw [Nat.zero_add, blk_cell hk, ← hj]
    simp [cw, hlt, List.getElem?_append_left]
  · intro j v hj
    have hlt : j < ys.length := by
      have := (List.getElem?_eq_some_iff.1 hj).1
      rwa [cw_list_length] at this
    rw [blk_cell hk, ← hj]
    simp [cw, hlt, List.getElem?_append_right]
set_option maxHeartbeats 4000000 in
theorem hSum_c (kb : List UInt8) (hk : kb.length = 64) (xs : List W32) (sv : Value) (w : World) (hn : xs.length ≤ 500000) (hs : SliceOf w sv xs) : Calls Tryz.prog 72 #[.agg (cw (stateW kb)), sv] w fun e w' => e = .returned (.agg (cw (macK kb (lowB xs)))) ∧ Below w.heap.size w w' := by
  have hfin := macK_is kb (lowB xs) hk
  unfold stateW
  have LA := Lib.hid (show (stepw h0 (rblockTo (withB 54 kb) 0 64)).length = 8 from stepw_length _ _ rfl)
  have LB := Lib.hid (show (stepw h0 (rblockTo (withB 92 kb) 0 64)).length = 8 from stepw_length _ _ rfl)
  have L8 := Lib.hid (macK_length kb (lowB xs))
  generalize macK kb (lowB xs) = fin at hfin L8 ⊢
  generalize stepw h0 (rblockTo (withB 54 kb) 0 64) = s1 at hfin LA ⊢
  generalize stepw h0 (rblockTo (withB 92 kb) 0 64) = s2 at hfin LB ⊢
  have hR1 := fun w1 hw1 => hrun_c s1 xs LA.out sv w1 hn (hs.grow hw1)
  have LM := Lib.hid (runw_length s1 LA.out (lowB xs))
  generalize runw s1 (lowB xs) = mid at hR1 hfin LM
  have hBy := fun w => Bytes_own mid LM.out w
  have LW := Lib.hid (bytesw_length mid LM.out)
  have hlow : lowB (bytesw mid) = refBytes mid := bytes_eq mid
  have hR2 : ∀ (g cap : Nat) (cur : Array Value) (w1 : World), w1.heap[g]? = some (.cells cur 80 (0, 0)) → cur.toList.take 32 = (bytesw mid).map sec → Calls Tryz.prog 92 #[.agg (cw s2), .slice (some ⟨g, 0, none⟩) 32 cap] w1 fun e w' => e = .returned (.agg (cw fin)) ∧ Below w1.heap.size w1 w' := fun g cap cur w1 hk ht => by
    have := hrun_c s2 (bytesw mid) LB.out (.slice (some ⟨g, 0, none⟩) 32 cap) w1 (by rw [LW.out]; omega) (list_slice hk ht LW.out.symm)
    rw [hlow, hfin] at this
    exact this
  clear hfin hlow
  go_enter Tryz.func72, Tryz.ntmps72
  go_upto_region 1 with (fail)
  refine gen_world fun W hW => ?_
  have k2 : W.heap[w.heap.size]? = some (.cells (cw (s1 ++ s2)) 83 (0, 0)) := by subst hW; (repeat (first | (with_reducible assumption) | ((with_reducible refine blk_new' ?_ _); (simp; done)) | ((with_reducible refine blk_alloc ?_ _)) | ((with_reducible refine blk_far ?_ ?_ _); (simp <;> omega))))
  have k4 : W.heap[w.heap.size + 1]? = some (.cells (Array.replicate 8 (.int .u32 0)) 81 (0, 0)) := by subst hW; exact blk_new' (by simp) _
  have HB : Below w.heap.size w W := by subst hW; (repeat (first | exact Below.refl _ _ | (refine bl_alloc ?_ _) | (refine bl_drewN ?_ _) | (refine bl_drew ?_) | (refine bl_call (by assumption) ?_) | (refine bl_set _ _ (by simp <;> omega) ?_) | assumption))
  clear hW
  obtain ⟨m1, m2⟩ := cw_mid k2
  rw [LA.out] at m2
  have hR1' : ∀ w1, Below W.heap.size W w1 → _ := fun w1 hw1 => hR1 w1 (bl_call hw1 HB)
  refine wp_region_R 8 [1, 2] (by kernel_rfl) (by kernel_rfl) (by kernel_rfl) (by kernel_rfl) ?_
  intro K_ ops_ hops_ hK
  replace hops_ := Lib.hid hops_
  apply Exists.intro
  intro R_ hb_
  simp only [↓baseR, ↓nthR_succ, ↓nthR_zero] at hb_
  simp only [List.take_succ_cons, List.take_zero, List.drop_succ_cons, List.drop_zero]
  repeat (first
    | (apply LexR_det (by rfl) (by rfl) (by rfl) (fun w1 hw1 hd1 => ?_) (fun _ hr_ => ?_); rotate_right 2; (refine run_load_midA (ty := 81) rfl ?_ (rangeAt_grow hw1 m1) Tryz.underlying81 rfl ?_; (focus (go_simp; done)); (rw [cw_size, LA.out]; kernel_rfl))) | (apply LexR_det (by rfl) (by rfl) (by rfl) (fun w1 hw1 hd1 => ?_) (fun _ hr_ => ?_); rotate_right 2; (refine run_load_midA (ty := 81) rfl ?_ (rangeAt_grow hw1 m2) Tryz.underlying81 rfl ?_; (focus (go_simp; done)); (rw [cw_size, LB.out]; kernel_rfl)))
    
    | (apply LexR_callF (f := 92) (by rfl) (by rfl) (by rfl) Tryz.func92 (by kernel_rfl) (by kernel_rfl) (fun _ => ?_) (fun w1 hw1 hd1 => ?_) (fun _ hr_ => ?_); rotate_right 3; (go_simp; first | done | rfl); (with_reducible exact (hR1' w1 hw1))) | (apply LexR_own (f := 45) (by rfl) (by rfl) (by rfl) Tryz.func45 (by kernel_rfl) (by kernel_rfl) (fun _ => ?_) (fun w1 hw1 hd1 => ?_) (fun _ hr_ => ?_); rotate_right 3; (go_simp; first | done | rfl); exact (hBy w1)) | (apply LexR_callF (f := 92) (by rfl) (by rfl) (by rfl) Tryz.func92 (by kernel_rfl) (by kernel_rfl) (fun _ => ?_) (fun w1 hw1 hd1 => ?_) (fun _ hr_ => ?_); rotate_right 3; (go_simp; first | done | rfl); (simp [depFacts, needs, Region.binds, Exp.dep] at hd1; obtain ⟨cur_, hk_, ht_⟩ := hd1; exact hR2 _ _ cur_ w1 hk_ (by first | exact ht_ | simpa using ht_)))
    | (apply LexR_det (by rfl) (by rfl) (by rfl) (fun w1 hw1 hd1 => ?_) (fun _ hr_ => ?_); rotate_right 2; (go_simp; first | done | rfl ))
    | (apply LexR_box (by rfl) (by rfl) (by rfl) (fun w1 hw1 hd1 => ?_) (fun _ hr_ => ?_); rotate_right 2; (go_simp; first | done | rfl))
    | (apply LexR_bs (t := 76) (e := 80) (z := .agg #[.int .u32 0]) (ho := rfl) (by rfl) (by rfl) Tryz.underlying76 (by kernel_rfl) (by decide) (by decide) (fun _ => ?_) (fun _ => ?_) (fun _ => ?_) (fun _ hr_ => ?_); rotate_right 4; (go_simp; rfl); (exact ⟨rfl, rfl, rfl⟩); (simp only [List.map_cons, List.map_nil, List.flatMap_cons, List.flatMap_nil, Value.cells, List.cons_append, List.nil_append, List.append_nil]; rfl)))
  apply LexR_end
  refine hK _ _ ?_
  clear hK K_
  repeat clear hr_
  clear hb_ R_ hops_ ops_
  intro w1 hw1 hf1
  apply tailR (fun _ => ?_) (fun _ => ?_) ?_
  rotate_right 2
  · simp only [putAll, Act.put, List.setIfInBounds_toArray, List.set_cons_succ, List.set_cons_zero]; first | done | rfl
  · simp only [List.drop_succ_cons, List.drop_zero]; first | done | rfl
  simp [allFacts, contOf, Exp.putAt, Exp.fact, Exp.fresh, Exp.blk] at hf1
  clear hf1 hR1' hR1 hR2 hBy m1 m2
  replace k4 := grow_blk hw1 k4
  replace HB := bl_call hw1 HB
  clear hw1
  refine wpList_store_row rfl _ _ _ rfl (w.heap.size + 1) (cw fin) rfl rfl 81 _ k4 (by rw [cw_size, L8.out]; kernel_rfl) (by rw [cw_size, L8.out]; rfl) (cw_one _) ?_
  refine gen_list fun W2 hW => ?_
  replace k4 : W2.heap[w.heap.size + 1]? = some (.cells (cw fin) 81 (0, 0)) := by subst hW; exact setRow_blk k4 _
  replace HB : Below w.heap.size w W2 := by subst hW; exact bl_row _ _ (by omega) HB
  clear hW
  go_wp2
  exact bodyPost_ret (v := .agg (cw fin)) (results_cell_row Tryz.results72 _ _ (w.heap.size + 1) 81 (cw fin) (0, 0) _ rfl k4 Tryz.underlying81 rfl (by rw [cw_size, L8.out]; kernel_rfl)) rfl ⟨rfl, HB⟩
end Go.Proofs.YthnackakgglhbaaGreat

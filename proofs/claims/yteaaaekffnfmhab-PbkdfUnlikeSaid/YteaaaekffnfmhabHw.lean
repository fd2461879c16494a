/- Contracts of hmac.words, State.Text and Plain. -/
import Derived.Test.YteaaaekffnfmhabHv
namespace Go.Proofs.Yteaaaekffnfmhab
open Go.RowKit
set_option maxRecDepth 100000
set_option linter.unusedSimpArgs false
set_option linter.unusedVariables false
attribute [local go_sem] evR_tmp evR_const evR_global evR_func
theorem low_textw (s : ByteArray) : lowB (textw s) = s.data.toList := by
  unfold lowB textw
  rw [List.map_map]
  conv => rhs; rw [← List.map_id s.data.toList]
  apply List.map_congr_left
  intro b _
  exact byteOf_kw b
theorem cw_toList (xs : List W32) : (cw xs).toList = xs.map sec := rfl
/-- What a function returns that makes a slice of its own. -/
def OwnRet (ty : TypeId) (n : Nat) (cs : List Value) (w : World) (x : Ending) (w' : World) : Prop := ∃ g cap cur, x = .returned (.slice (some ⟨g, 0, none⟩) n cap) ∧ cap < 18446744073709551616 ∧ w.heap.size ≤ g ∧ w'.heap[g]? = some (.cells cur ty (0, 0)) ∧ cur.toList.take n = cs ∧ Below w.heap.size w w'
set_option maxHeartbeats 2000000 in
theorem words_c0 (s : ByteArray) (hs : s.size ≤ 1000000) (w : World) : Calls Try.prog 33 #[.string s] w (OwnRet 37 s.size ((textw s).map sec) w) := by
  go_enter Try.func33, Try.ntmps33
  go_upto_region 1 with (fail)
  go_wp2_with (first | (refine wpList_makeN rfl _ _ 34 rfl 37 (.agg #[.int .u32 0]) (.int .u32 0) 8 Try.underlying34 (by kernel_rfl) rfl (by omega) _ s.size rfl rfl rfl hs ?_))
  refine gen_world fun W hW => ?_
  have k3 : W.heap[w.heap.size]? = some (.cells (cw (padTo s.size ((textw s).take 0))) 37 (0, 0)) := by subst hW; rw [show (textw s).take 0 = [] from rfl, padTo_nil]; exact blk_new _ _
  have HB : Below w.heap.size w W := by subst hW; (repeat (first | exact Below.refl _ _ | (refine bl_alloc ?_ _) | (refine bl_drewN ?_ _) | (refine bl_drew ?_) | (refine bl_call (by assumption) ?_) | (refine bl_set _ _ (by simp <;> omega) ?_) | assumption))
  clear hW
  have LT := Lib.hid (textw_length s)
  have k30 := k3
  have HB0 := HB
  clear k3 HB
  go_loopw [10] (fun i wr => ∃ n : Nat, n ≤ s.size ∧ i = .int .i64 (n : Int) ∧ Below w.heap.size w wr ∧ wr.heap[w.heap.size]? = some (.cells (cw (padTo s.size ((textw s).take n))) 37 (0, 0))) (fun i _ => s.size - (intOf i).toNat)
  case atStart => exact ⟨0, by omega, rfl, HB0, k30⟩
  case round =>
    clear HB0 k30
    obtain ⟨n, hn, rfl, HB, k3⟩ := hrel
    have pn : (0 : Int) ≤ (n : Int) := by omega
    by_cases hlt : n < s.size
    · have hlt' : (n : Int) < (s.size : Int) := by omega
      have q3 := blk_lt k3
      go_upto_region 5 with (fail)
      refine wp_region_R 8 [0, 3, 4] (by kernel_rfl) (by kernel_rfl) (by kernel_rfl) (by kernel_rfl) ?_
      intro K_ ops_ hops_ hK
      replace hops_ := Lib.hid hops_
      apply Exists.intro
      intro R_ hb_
      simp only [↓baseR, ↓nthR_succ, ↓nthR_zero] at hb_
      simp only [List.take_succ_cons, List.take_zero, List.drop_succ_cons, List.drop_zero]
      repeat (first
        
        
        | (apply LexR_callF (f := 12) (by rfl) (by rfl) (by rfl) Try.func12 (by kernel_rfl) (by kernel_rfl) (fun _ => ?_) (fun w1 hw1 hd1 => ?_) (fun _ hr_ => ?_); rotate_right 3; (go_simp; first | done | rfl); exact (Of_c _ (at32 (textw s) n) (text_at s n hlt) w1))
        | (apply LexR_det (by rfl) (by rfl) (by rfl) (fun w1 hw1 hd1 => ?_) (fun _ hr_ => ?_); rotate_right 2; (go_simp; first | done | rfl ))
        | (apply LexR_box (by rfl) (by rfl) (by rfl) (fun w1 hw1 hd1 => ?_) (fun _ hr_ => ?_); rotate_right 2; (go_simp; first | done | rfl))
        | (apply LexR_bs (t := 34) (e := 37) (z := .agg #[.int .u32 0]) (ho := rfl) (by rfl) (by rfl) Try.underlying34 (by kernel_rfl) (by decide) (by decide) (fun _ => ?_) (fun _ => ?_) (fun _ => ?_) (fun _ hr_ => ?_); rotate_right 4; (go_simp; rfl); (exact ⟨rfl, rfl, rfl⟩); (simp only [List.map_cons, List.map_nil, List.flatMap_cons, List.flatMap_nil, Value.cells, List.cons_append, List.nil_append, List.append_nil]; rfl)))
      apply LexR_end
      refine hK _ _ ?_
      clear hK K_
      repeat clear hr_
      clear hb_ R_ hops_ ops_
      intro w1 hw1 hf1
      apply tailR (fun _ => ?_) (fun _ => ?_) ?_
      rotate_right 2
      · simp only [putAll, Act.put, List.setIfInBounds_toArray, List.set_cons_succ, List.set_cons_zero]; first | done | rfl
      · simp only [List.drop_succ_cons, List.drop_zero]; first | done | rfl
      simp [allFacts, contOf, Exp.putAt, Exp.fact, Exp.fresh, Exp.blk] at hf1
      clear hf1 q3
      replace k3 := grow_blk hw1 k3
      replace HB := bl_call hw1 HB
      clear hw1
      have hlt3 : (List.take n (textw s)).length = n := by rw [List.length_take, LT.out]; omega
      have cs := blk_cell k3 n
      rw [cw_at _ _ (by rw [padTo_length _ _ (by omega)]; exact hlt)] at cs
      have fs := blk_frozen k3 n
      have hlt4 := Lib.hid hlt3
      clear hlt3
      go_wp2_with fail
      go_roundw
      case measure => simp [intOf] <;> omega
      refine ⟨n + 1, by omega, congrArg (Value.int .i64) (by omega), bl_set _ _ (by simp) HB, ?_⟩
      have := padTo_set s.size (List.take n (textw s)) (at32 (textw s) n) (by rw [hlt4.out]; exact hlt)
      rw [hlt4.out] at this
      rw [List.take_succ_eq_append_getElem (by rw [LT.out]; exact hlt), show (textw s)[n]'(by rw [LT.out]; exact hlt) = at32 (textw s) n by simp [at32, LT.out, hlt], ← this, ← cw_set]
      exact blk_set k3 n _
    · obtain rfl : n = s.size := by omega
      have hlt' : ¬ (s.size : Int) < (s.size : Int) := by omega
      rw [List.take_of_length_le (by rw [LT.out]; omega), padTo_full _ _ LT.out] at k3
      go_wp2
      exact bodyPost_ret (v := .slice (some ⟨w.heap.size, 0, none⟩) s.size s.size) (by simp [results, Try.results33, go_sem]) rfl ⟨w.heap.size, s.size, cw (textw s), rfl, by omega, Nat.le_refl _, k3, by rw [cw_toList, List.take_of_length_le (by rw [List.length_map, LT.out]; omega)], HB⟩
theorem words_c (s : ByteArray) (hs : s.size ≤ 1000000) (w : World) : Calls Try.prog 33 #[.string s] w fun x w' => ∃ g cap cur, x = .returned (.slice (some ⟨g, 0, none⟩) s.size cap) ∧ cap < 18446744073709551616 ∧ w.heap.size ≤ g ∧ w'.heap[g]? = some (.cells cur 37 (0, 0)) ∧ cur.toList.take s.size = (textw s).map sec ∧ Below w.heap.size w w' := words_c0 s hs w
set_option maxHeartbeats 2000000 in
theorem hText_c (kb : List UInt8) (hk : kb.length = 64) (s : ByteArray) (hs : s.size ≤ 500000) (w : World) : Calls Try.prog 20 #[.agg (cw (stateW kb)), .string s] w fun e w' => e = .returned (.agg (cw (macK kb s.data.toList))) ∧ Below w.heap.size w w' := by
  have hW := fun w => words_c s (by omega) w
  have hS : ∀ (g cap : Nat) (cur : Array Value) (w1 : World), w1.heap[g]? = some (.cells cur 37 (0, 0)) → cur.toList.take s.size = (textw s).map sec → Calls Try.prog 21 #[.agg (cw (stateW kb)), .slice (some ⟨g, 0, none⟩) s.size cap] w1 fun e w' => e = .returned (.agg (cw (macK kb s.data.toList))) ∧ Below w1.heap.size w1 w' := fun g cap cur w1 hk1 ht => by
    have := hSum_c kb hk (textw s) (.slice (some ⟨g, 0, none⟩) s.size cap) w1 (by rw [textw_length]; exact hs) (list_slice hk1 ht (textw_length s).symm)
    rw [low_textw] at this
    exact this
  have L16 := Lib.hid (stateW_length kb)
  have L8 := Lib.hid (macK_length kb s.data.toList)
  generalize stateW kb = st at hS L16 ⊢
  generalize macK kb s.data.toList = fin at hS L8 ⊢
  clear hk
  go_enter Try.func20, Try.ntmps20
  go_upto_region 1 with (fail)
  refine gen_world fun W hW => ?_
  have k2 : W.heap[w.heap.size]? = some (.cells (cw st) 43 (0, 0)) := by subst hW; (repeat (first | (with_reducible assumption) | ((with_reducible refine blk_new' ?_ _); (simp; done)) | ((with_reducible refine blk_alloc ?_ _)) | ((with_reducible refine blk_far ?_ ?_ _); (simp <;> omega))))
  have k4 : W.heap[w.heap.size + 1]? = some (.cells (Array.replicate 8 (.int .u32 0)) 39 (0, 0)) := by subst hW; exact blk_new' (by simp) _
  have HB : Below w.heap.size w W := by subst hW; (repeat (first | exact Below.refl _ _ | (refine bl_alloc ?_ _) | (refine bl_drewN ?_ _) | (refine bl_drew ?_) | (refine bl_call (by assumption) ?_) | (refine bl_set _ _ (by simp <;> omega) ?_) | assumption))
  clear hW
  refine wp_region_R 4 [1, 2] (by kernel_rfl) (by kernel_rfl) (by kernel_rfl) (by kernel_rfl) ?_
  intro K_ ops_ hops_ hK
  replace hops_ := Lib.hid hops_
  apply Exists.intro
  intro R_ hb_
  simp only [↓baseR, ↓nthR_succ, ↓nthR_zero] at hb_
  simp only [List.take_succ_cons, List.take_zero, List.drop_succ_cons, List.drop_zero]
  repeat (first
    | (apply LexR_det (by rfl) (by rfl) (by rfl) (fun w1 hw1 hd1 => ?_) (fun _ hr_ => ?_); rotate_right 2; (refine run_load_rowR (ty := 43) rfl ?_ (grow_blk hw1 k2) Try.underlying43 rfl ?_; (focus (go_simp; done)); (rw [cw_size, L16.out]; kernel_rfl)))
    
    | (apply LexR_own (f := 33) (by rfl) (by rfl) (by rfl) Try.func33 (by kernel_rfl) (by kernel_rfl) (fun _ => ?_) (fun w1 hw1 hd1 => ?_) (fun _ hr_ => ?_); rotate_right 3; (go_simp; first | done | rfl); exact (words_c s (by omega) w1)) | (apply LexR_callF (f := 21) (by rfl) (by rfl) (by rfl) Try.func21 (by kernel_rfl) (by kernel_rfl) (fun _ => ?_) (fun w1 hw1 hd1 => ?_) (fun _ hr_ => ?_); rotate_right 3; (go_simp; first | done | rfl); (simp [depFacts, needs, Region.binds, Exp.dep] at hd1; obtain ⟨cur_, hk_, ht_⟩ := hd1; exact hS _ _ cur_ w1 hk_ (by first | exact ht_ | simpa using ht_)))
    | (apply LexR_det (by rfl) (by rfl) (by rfl) (fun w1 hw1 hd1 => ?_) (fun _ hr_ => ?_); rotate_right 2; (go_simp; first | done | rfl ))
    | (apply LexR_box (by rfl) (by rfl) (by rfl) (fun w1 hw1 hd1 => ?_) (fun _ hr_ => ?_); rotate_right 2; (go_simp; first | done | rfl))
    | (apply LexR_bs (t := 34) (e := 37) (z := .agg #[.int .u32 0]) (ho := rfl) (by rfl) (by rfl) Try.underlying34 (by kernel_rfl) (by decide) (by decide) (fun _ => ?_) (fun _ => ?_) (fun _ => ?_) (fun _ hr_ => ?_); rotate_right 4; (go_simp; rfl); (exact ⟨rfl, rfl, rfl⟩); (simp only [List.map_cons, List.map_nil, List.flatMap_cons, List.flatMap_nil, Value.cells, List.cons_append, List.nil_append, List.append_nil]; rfl)))
  apply LexR_end
  refine hK _ _ ?_
  clear hK K_
  repeat clear hr_
  clear hb_ R_ hops_ ops_
  intro w1 hw1 hf1
  apply tailR (fun _ => ?_) (fun _ => ?_) ?_
  rotate_right 2
  · simp only [putAll, Act.put, List.setIfInBounds_toArray, List.set_cons_succ, List.set_cons_zero]; first | done | rfl
  · simp only [List.drop_succ_cons, List.drop_zero]; first | done | rfl
  simp [allFacts, contOf, Exp.putAt, Exp.fact, Exp.fresh, Exp.blk] at hf1
  clear hf1 hS
  replace k4 := grow_blk hw1 k4
  replace HB := bl_call hw1 HB
  clear hw1
  refine wpList_store_row rfl _ _ _ rfl (w.heap.size + 1) (cw fin) rfl rfl 39 _ k4 (by rw [cw_size, L8.out]; kernel_rfl) (by rw [cw_size, L8.out]; rfl) (cw_one _) ?_
  refine gen_list fun W2 hW => ?_
  replace k4 : W2.heap[w.heap.size + 1]? = some (.cells (cw fin) 39 (0, 0)) := by subst hW; exact setRow_blk k4 _
  replace HB : Below w.heap.size w W2 := by subst hW; exact bl_row _ _ (by omega) HB
  clear hW
  go_wp2
  exact bodyPost_ret (v := .agg (cw fin)) (results_cell_row Try.results20 _ _ (w.heap.size + 1) 39 (cw fin) (0, 0) _ rfl k4 Try.underlying39 rfl (by rw [cw_size, L8.out]; kernel_rfl)) rfl ⟨rfl, HB⟩
/-- A sum under a key, as a text. -/
def macText (k t : ByteArray) : ByteArray := ⟨(refBytes (macw k.data.toList t.data.toList)).toArray⟩
theorem bytesOf_is (h : List W32) : bytesOf (bytesw h) = ⟨(refBytes h).toArray⟩ := by unfold bytesOf; rw [bytes_eq]
end Go.Proofs.Yteaaaekffnfmhab

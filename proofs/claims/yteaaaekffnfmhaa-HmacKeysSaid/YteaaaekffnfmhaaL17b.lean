/- The law HmacSums. -/
import Derived.Test.YteaaaekffnfmhaaL17a
import Derived.Test.YteaaaekffnfmhaaOpenB
namespace Go.Proofs.Yteaaaekffnfmhaa
open Go.RowKit Go.Lib
set_option maxRecDepth 100000
set_option linter.unusedSimpArgs false
set_option linter.unusedVariables false
attribute [local go_sem] evR_tmp evR_const evR_global evR_func
theorem run_conv_rowBR {R : Nat → Value} {o : Oper} {w : World} {x : Operand} {sv : Value} {bs : List UInt8} (ho : o.op = .convert 22 9 x) (hx : evR R x = sv) (hr : RowB w sv bs) : (execOp (evR R) o).run Try.prog w = .ok (.value (.string ⟨bs.toArray⟩)) w := by
  obtain ⟨ao, cap, rfl, hno, hcc⟩ := hr
  have h1 : (convert 22 9 (.slice ao bs.length cap)).run Try.prog w = .ok (.string ⟨bs.toArray⟩) w := by
    cases ao with
    | none =>
      obtain ⟨rfl, rfl⟩ := hno rfl
      exact run_convert_bytes_nil w _ 5 Try.underlying22 Try.underlying5 0 0 _ Try.underlying9
    | some a =>
      refine run_convert_bytes_back w _ _ 5 a cap bs Try.underlying22 Try.underlying5 Try.underlying9 fun j hj => ?_
      obtain ⟨g, off, e, hc⟩ := hcc j hj
      cases e
      rw [Addr.add_lit]
      exact hc
  unfold execOp
  simp only [ho, hx, Sem.run_bind, h1, Result.andThen_ok]
  rfl
theorem list17_nil (ad : Option Addr) (cap : Nat) (ab : W32) (w : World) : Calls Try.prog 9 #[.slice ad 0 cap, .int .u32 (iw ab)] w fun e w' => e = .returned (.slice none 0 0) ∧ Below w.heap.size w w' := by
  go_enter Try.func9, Try.ntmps9
  go_wp2_with fail
  go_loop [10, 5] (fun i v => i = .int .i64 0 ∧ v = .slice none 0 0) (fun _ _ => 0)
  case atStart => exact ⟨rfl, rfl⟩
  case round =>
    obtain ⟨rfl, rfl⟩ := hrel
    go_wp2
    exact bodyPost_ret (v := .slice none 0 0) (by simp [results, Try.results9, go_sem]) rfl ⟨rfl, Below.refl _ _⟩
theorem list17_own (bs : List UInt8) (sv : Value) (ab : W32) (w : World) (hp : 0 < bs.length) (hn : bs.length ≤ 1000) (hb : RowB w sv bs) : Calls Try.prog 9 #[sv, .int .u32 (iw ab)] w fun x w' => ∃ g cap cur, x = .returned (.slice (some ⟨g, 0, none⟩) bs.length cap) ∧ cap < 18446744073709551616 ∧ w.heap.size ≤ g ∧ w'.heap[g]? = some (.cells cur 29 (0, 0)) ∧ cur.toList.take bs.length = (abv bs ab).map sec ∧ Below w.heap.size w w' := by
  refine (list17_c bs sv ab w hn hb).mono ?_
  rintro e w' ⟨sv', rfl, HO, HB⟩
  have HL := abv_length bs ab
  rcases HO.2 with ⟨_, q⟩ | ⟨g, cap, cur, rfl, hg, hk, _, hm, _, ht⟩
  · omega
  · rw [HL] at ht ⊢
    exact ⟨g, cap, cur, rfl, by simp only [maxLen] at hm; omega, hg, hk, by simpa using ht, HB⟩
theorem HmacSums_long1 (ks tb : List UInt8) (kv tv : Value) (ab : Int) (w : World) (hm : ks.length ≤ maxLen) (hk : 150 < ks.length) (hkv : RowB w kv ks) (htv : RowB w tv tb) : Calls Try.prog 3 #[kv, tv, .int .u32 ab] w fun e w' => e = .returned (.bool true) ∧ Below w.heap.size w w' := by
  obtain ⟨ao, cap, rfl, _, _⟩ := hkv
  obtain ⟨ta, tc, rfl, _, _⟩ := htv
  unfold maxLen at hm
  have h1 : (150 : Int) < (ks.length : Int) := by omega
  go_enter Try.func3, Try.ntmps3
  go_wp2_with (go_at_call 6; refine (awake17_c _).mono ?_; rintro e w1 ⟨rfl, HB0⟩)
  exact bodyPost_ret (v := .bool true) (by simp [results, Try.results3, go_sem]) rfl ⟨rfl, HB0⟩
theorem HmacSums_long2 (ks tb : List UInt8) (kv tv : Value) (ab : Int) (w : World) (hm : tb.length ≤ maxLen) (hk : ks.length ≤ 150) (ht : 150 < tb.length) (hkv : RowB w kv ks) (htv : RowB w tv tb) : Calls Try.prog 3 #[kv, tv, .int .u32 ab] w fun e w' => e = .returned (.bool true) ∧ Below w.heap.size w w' := by
  obtain ⟨ao, cap, rfl, _, _⟩ := hkv
  obtain ⟨ta, tc, rfl, _, _⟩ := htv
  unfold maxLen at hm
  have h1 : ¬ (150 : Int) < (ks.length : Int) := by omega
  have h2 : (150 : Int) < (tb.length : Int) := by omega
  go_enter Try.func3, Try.ntmps3
  go_wp2_with (go_at_call 6; refine (awake17_c _).mono ?_; rintro e w1 ⟨rfl, HB0⟩)
  exact bodyPost_ret (v := .bool true) (by simp [results, Try.results3, go_sem]) rfl ⟨rfl, HB0⟩
set_option maxHeartbeats 8000000 in
theorem HmacSums_c (ks tb : List UInt8) (kv tv : Value) (ab : W32) (w : World) (hk : ks.length ≤ 150) (ht : tb.length ≤ 150) (hkv : RowB w kv ks) (htv : RowB w tv tb) : Calls Try.prog 3 #[kv, tv, .int .u32 (iw ab)] w fun e w' => e = .returned (.bool true) ∧ Below w.heap.size w w' := by
  have hRef := fun w1 (hw1 : Below w.heap.size w w1) => rMac_c ks tb kv tv w1 (by omega) (by omega) (hkv.grow hw1) (htv.grow hw1)
  have hList := fun w1 (hw1 : Below w.heap.size w w1) => list17_c ks kv ab w1 (by omega) (hkv.grow hw1)
  have hOf := fun sv w1 h => hOf_c (abv ks ab) sv w1 (by rw [abv_length]; omega) h
  rw [low_abv] at hOf
  have L16 := Lib.hid (stateW_length (keyB ks))
  have hText := fun w => hText_c (keyB ks) (keyB_length ks) ⟨tb.toArray⟩ (show tb.toArray.size ≤ 500000 by simp; omega) w
  have hSumS := fun sv w1 h => hSum_c (keyB ks) (keyB_length ks) (abv tb ab) sv w1 (by rw [abv_length]; omega) h
  rw [low_abv] at hSumS
  have hPlain := fun w => hPlain_c ⟨ks.toArray⟩ ⟨tb.toArray⟩ (show ks.toArray.size ≤ 500000 by simp; omega) (show tb.toArray.size ≤ 500000 by simp; omega) w
  have hMT : macText ⟨ks.toArray⟩ ⟨tb.toArray⟩ = ⟨(refBytes (macw ks tb)).toArray⟩ := rfl
  rw [hMT] at hPlain
  clear hMT
  have hm : macK (keyB ks) tb = macw ks tb := rfl
  rw [hm] at hSumS
  replace hText : ∀ w, Calls Try.prog 12 #[.agg (cw (stateW (keyB ks))), .string ⟨tb.toArray⟩] w fun e w' => e = .returned (.agg (cw (macw ks tb))) ∧ Below w.heap.size w w' := hText
  clear hm
  have L8 := Lib.hid (show (macw ks tb).length = 8 from refSum_length _)
  have hrB := fun w => rBytes_c (macw ks tb) L8.out w
  have LRB := Lib.hid (refBytes_length (macw ks tb) L8.out)
  have hIs := fun w => Is_c (macw ks tb) L8.out w
  generalize stateW (keyB ks) = st at hOf L16 hText hSumS
  generalize macw ks tb = M at hRef hPlain hSumS hText L8 hrB LRB hIs
  obtain ⟨ao, cap, hkv1, _, _⟩ := id hkv
  obtain ⟨ta, tc, htv1, _, _⟩ := id htv
  subst hkv1
  subst htv1
  have h1 : ¬ (150 : Int) < (ks.length : Int) := by omega
  have h2 : ¬ (150 : Int) < (tb.length : Int) := by omega
  go_enter Try.func3, Try.ntmps3
  go_upto_region 5 with (go_at_call 6; refine (awake17_c _).mono ?_; rintro e w1 ⟨rfl, HB⟩)
  go_upto_region 6 with (first | (go_at_call 7; refine (hRef _ HB).mono ?_; rintro e w2 ⟨rfl, hw2⟩) | (refine wpList_store_row rfl _ _ _ rfl w2.heap.size (cw M) rfl rfl 25 _ (blk_new w2 _) (by rw [cw_size, L8.out]; kernel_rfl) (by rw [cw_size, L8.out]; rfl) (cw_one _) ?_))
  refine gen_world fun W hW => ?_
  have k7 : W.heap[w2.heap.size]? = some (.cells (cw M) 25 (0, 0)) := by subst hW; exact setRow_blk (blk_new w2 _) _
  have hb2 : Below w2.heap.size w2 W := by subst hW; exact bl_row _ _ (Nat.le_refl _) (bl_alloc (Below.refl _ _) _)
  replace HB := bl_call hb2 (bl_call hw2 HB)
  obtain ⟨g7, hg7⟩ : ∃ g, g = w2.heap.size := ⟨_, rfl⟩
  rw [← hg7] at k7 ⊢
  clear hW hb2 hw2 hg7
  go_upto_region 7 with (first | (go_at_call 9; refine (hList _ HB).mono ?_; rintro e w3 ⟨sv3, rfl, HO, hw3⟩) | (go_at_call 8; refine (hOf _ _ HO.sliceOf).mono ?_; rintro e w4 ⟨rfl, hw4⟩) | (refine wpList_store_row rfl _ _ _ rfl w4.heap.size (cw st) rfl rfl 32 _ (blk_new w4 _) (by rw [cw_size, L16.out]; kernel_rfl) (by rw [cw_size, L16.out]; rfl) (cw_one _) ?_))
  refine gen_world fun W2 hW => ?_
  have k8 : W2.heap[w4.heap.size]? = some (.cells (cw st) 32 (0, 0)) := by subst hW; exact setRow_blk (blk_new w4 _) _
  have hb2 : Below w4.heap.size w4 W2 := by subst hW; exact bl_row _ _ (Nat.le_refl _) (bl_alloc (Below.refl _ _) _)
  have hb3 := bl_call hb2 (bl_call hw4 hw3)
  replace HB := bl_call hb3 HB
  replace k7 := grow_blk hb3 k7
  obtain ⟨g8, hg8⟩ : ∃ g, g = w4.heap.size := ⟨_, rfl⟩
  rw [← hg8] at k8 ⊢
  clear hW hb2 hb3 hw3 hw4 hg8 HO
  have rk := RowB.grow hkv HB
  have rt := RowB.grow htv HB
  clear hRef hList hOf
  by_cases hp : 0 < tb.length
  · have hList2 := fun w1 (hw1 : Below W2.heap.size W2 w1) => list17_own tb _ ab w1 hp (by omega) (rt.grow hw1)
    have hS : ∀ (g cap : Nat) (cur : Array Value) (w1 : World), w1.heap[g]? = some (.cells cur 29 (0, 0)) → cur.toList.take tb.length = (abv tb ab).map sec → Calls Try.prog 11 #[.agg (cw st), .slice (some ⟨g, 0, none⟩) tb.length cap] w1 fun e w' => e = .returned (.agg (cw M)) ∧ Below w1.heap.size w1 w' := fun g cap cur w1 h1 h2 => hSumS _ w1 (list_slice h1 h2 (abv_length tb ab).symm)
    clear hSumS
    refine wp_region_R 26 [0, 1, 2, 7, 8] (by kernel_rfl) (by kernel_rfl) (by kernel_rfl) (by kernel_rfl) ?_
    intro K_ ops_ hops_ hK
    replace hops_ := Lib.hid hops_
    apply Exists.intro
    intro R_ hb_
    simp only [↓baseR, ↓nthR_succ, ↓nthR_zero] at hb_
    simp only [List.take_succ_cons, List.take_zero, List.drop_succ_cons, List.drop_zero]
    repeat (first
      | (apply LexR_det (by rfl) (by rfl) (by rfl) (fun w1 hw1 hd1 => ?_) (fun _ hr_ => ?_); rotate_right 2; (refine run_load_rowR (ty := 32) rfl ?_ (grow_blk hw1 k8) Try.underlying32 rfl ?_; (focus (go_simp; done)); (rw [cw_size, L16.out]; kernel_rfl))) | (apply LexR_det (by rfl) (by rfl) (by rfl) (fun w1 hw1 hd1 => ?_) (fun _ hr_ => ?_); rotate_right 2; (refine run_load_rowR (ty := 25) rfl ?_ (grow_blk hw1 k7) Try.underlying25 rfl ?_; (focus (go_simp; done)); (rw [cw_size, L8.out]; kernel_rfl))) | (apply LexR_det (by rfl) (by rfl) (wanted_guard rfl (by rw [hops_.out]; rfl) rfl (by go_simp)) (fun w1 hw1 hd1 => ?_) (fun _ hr_ => ?_); rotate_right 2; (refine run_load_rowR (ty := 32) rfl ?_ (grow_blk hw1 k8) Try.underlying32 rfl ?_; (focus (go_simp; done)); (rw [cw_size, L16.out]; kernel_rfl))) | (apply LexR_det (by rfl) (by rfl) (wanted_guard rfl (by rw [hops_.out]; rfl) rfl (by go_simp)) (fun w1 hw1 hd1 => ?_) (fun _ hr_ => ?_); rotate_right 2; (refine run_load_rowR (ty := 25) rfl ?_ (grow_blk hw1 k7) Try.underlying25 rfl ?_; (focus (go_simp; done)); (rw [cw_size, L8.out]; kernel_rfl)))
      
      | (apply LexR_own (f := 9) (by rfl) (by rfl) (by rfl) Try.func9 (by kernel_rfl) (by kernel_rfl) (fun _ => ?_) (fun w1 hw1 hd1 => ?_) (fun _ hr_ => ?_); rotate_right 3; (go_simp; first | done | rfl); exact (hList2 w1 hw1)) | (apply LexR_callF (f := 11) (by rfl) (by rfl) (by rfl) Try.func11 (by kernel_rfl) (by kernel_rfl) (fun _ => ?_) (fun w1 hw1 hd1 => ?_) (fun _ hr_ => ?_); rotate_right 3; (go_simp; first | done | rfl); (simp [depFacts, needs, Region.binds, Exp.dep] at hd1; obtain ⟨cur_, hk_, ht_⟩ := hd1; exact hS _ _ cur_ w1 hk_ (by first | exact ht_ | simpa using ht_))) | (apply LexR_callF (f := 10) (by rfl) (by rfl) (by rfl) Try.func10 (by kernel_rfl) (by kernel_rfl) (fun _ => ?_) (fun w1 hw1 hd1 => ?_) (fun _ hr_ => ?_); rotate_right 3; (go_simp; first | done | rfl); (with_reducible exact (hIs w1))) | (apply LexR_callF (f := 12) (by rfl) (by rfl) (wanted_guard rfl (by rw [hops_.out]; rfl) rfl (by go_simp)) Try.func12 (by kernel_rfl) (by kernel_rfl) (fun _ => ?_) (fun w1 hw1 hd1 => ?_) (fun _ hr_ => ?_); rotate_right 3; (go_simp; first | done | rfl); (with_reducible exact (hText w1))) | (apply LexR_callF (f := 10) (by rfl) (by rfl) (wanted_guard rfl (by rw [hops_.out]; rfl) rfl (by go_simp)) Try.func10 (by kernel_rfl) (by kernel_rfl) (fun _ => ?_) (fun w1 hw1 hd1 => ?_) (fun _ hr_ => ?_); rotate_right 3; (go_simp; first | done | rfl); (with_reducible exact (hIs w1))) | (apply LexR_callF (f := 13) (by rfl) (by rfl) (wanted_guard rfl (by rw [hops_.out]; rfl) rfl (by go_simp)) Try.func13 (by kernel_rfl) (by kernel_rfl) (fun _ => ?_) (fun w1 hw1 hd1 => ?_) (fun _ hr_ => ?_); rotate_right 3; (go_simp; first | done | rfl); (with_reducible exact (hPlain w1))) | (apply LexR_own (f := 14) (by rfl) (by rfl) ((wanted_guard rfl (by rw [hops_.out]; rfl) rfl (by go_simp))) Try.func14 (by kernel_rfl) (by kernel_rfl) (fun _ => ?_) (fun w1 hw1 hd1 => ?_) (fun _ hr_ => ?_); rotate_right 3; (go_simp; first | done | rfl); exact (hrB w1)) | (apply LexR_det (by rfl) (by rfl) ((wanted_guard rfl (by rw [hops_.out]; rfl) rfl (by go_simp))) (fun w1 hw1 hd1 => ?_) (fun _ hr_ => ?_); rotate_right 2; (simp [depFacts, needs, Region.binds, Exp.dep] at hd1; obtain ⟨cur_, hk_, ht_⟩ := hd1; exact run_conv_own rfl hr_ Try.underlying22 Try.underlying5 Try.underlying9 hk_ LRB.out (by first | exact ht_ | simpa using ht_))) | (apply LexR_det (by rfl) (by rfl) ((wanted_guard rfl (by rw [hops_.out]; rfl) rfl (by go_simp))) (fun w1 hw1 hd1 => ?_) (fun _ hr_ => ?_); rotate_right 2; (refine run_conv_rowBR rfl ?_ (RowB.grow rt hw1); (focus (go_simp; done)))) | (apply LexR_det (by rfl) (by rfl) ((wanted_guard rfl (by rw [hops_.out]; rfl) rfl (by go_simp))) (fun w1 hw1 hd1 => ?_) (fun _ hr_ => ?_); rotate_right 2; (refine run_conv_rowBR rfl ?_ (RowB.grow rk hw1); (focus (go_simp; done)))) | (apply LexR_det (by rfl) (by rfl) (wanted_guard rfl (by rw [hops_.out]; rfl) rfl (by go_simp)) (fun w1 hw1 hd1 => ?_) (fun _ hr_ => ?_); rotate_right 2; (go_simp; first | done | rfl ))
      | (apply LexR_det (by rfl) (by rfl) (by rfl) (fun w1 hw1 hd1 => ?_) (fun _ hr_ => ?_); rotate_right 2; (go_simp; first | done | rfl ))
      | (apply LexR_box (by rfl) (by rfl) (by rfl) (fun w1 hw1 hd1 => ?_) (fun _ hr_ => ?_); rotate_right 2; (go_simp; first | done | rfl))
      | (apply LexR_bs (t := 34) (e := 29) (z := .agg #[.int .u32 0]) (ho := rfl) (by rfl) (by rfl) Try.underlying34 (by kernel_rfl) (by decide) (by decide) (fun _ => ?_) (fun _ => ?_) (fun _ => ?_) (fun _ hr_ => ?_); rotate_right 4; (go_simp; rfl); (exact ⟨rfl, rfl, rfl⟩); (simp only [List.map_cons, List.map_nil, List.flatMap_cons, List.flatMap_nil, Value.cells, List.cons_append, List.nil_append, List.append_nil]; rfl)))
    apply LexR_end
    refine hK _ _ ?_
    clear hK K_
    repeat clear hr_
    clear hb_ R_ hops_ ops_
    intro w1 hw1 hf1
    apply tailR (fun _ => ?_) (fun _ => ?_) ?_
    rotate_right 2
    · simp only [putAll, Act.put, List.setIfInBounds_toArray, List.set_cons_succ, List.set_cons_zero]; first | done | rfl
    · simp only [List.drop_succ_cons, List.drop_zero]; first | done | rfl
    simp [allFacts, contOf, Exp.putAt, Exp.fact, Exp.fresh, Exp.blk] at hf1
    clear hf1
    replace HB := bl_call hw1 HB
    go_wp2
    exact bodyPost_ret (v := .bool true) (by simp [results, Try.results3, go_sem]) rfl ⟨rfl, HB⟩
  · have hnil : tb = [] := List.eq_nil_of_length_eq_zero (by omega)
    subst hnil
    have hList2 := fun w1 => list17_nil ta tc ab w1
    have hS : ∀ w1, Calls Try.prog 11 #[.agg (cw st), .slice none 0 0] w1 fun e w' => e = .returned (.agg (cw M)) ∧ Below w1.heap.size w1 w' := fun w1 => hSumS _ w1 (.inl ⟨rfl, rfl⟩)
    clear hSumS
    refine wp_region_R 26 [0, 1, 2, 7, 8] (by kernel_rfl) (by kernel_rfl) (by kernel_rfl) (by kernel_rfl) ?_
    intro K_ ops_ hops_ hK
    replace hops_ := Lib.hid hops_
    apply Exists.intro
    intro R_ hb_
    simp only [↓baseR, ↓nthR_succ, ↓nthR_zero] at hb_
    simp only [List.take_succ_cons, List.take_zero, List.drop_succ_cons, List.drop_zero]
    repeat (first
      | (apply LexR_det (by rfl) (by rfl) (by rfl) (fun w1 hw1 hd1 => ?_) (fun _ hr_ => ?_); rotate_right 2; (refine run_load_rowR (ty := 32) rfl ?_ (grow_blk hw1 k8) Try.underlying32 rfl ?_; (focus (go_simp; done)); (rw [cw_size, L16.out]; kernel_rfl))) | (apply LexR_det (by rfl) (by rfl) (by rfl) (fun w1 hw1 hd1 => ?_) (fun _ hr_ => ?_); rotate_right 2; (refine run_load_rowR (ty := 25) rfl ?_ (grow_blk hw1 k7) Try.underlying25 rfl ?_; (focus (go_simp; done)); (rw [cw_size, L8.out]; kernel_rfl))) | (apply LexR_det (by rfl) (by rfl) (wanted_guard rfl (by rw [hops_.out]; rfl) rfl (by go_simp)) (fun w1 hw1 hd1 => ?_) (fun _ hr_ => ?_); rotate_right 2; (refine run_load_rowR (ty := 32) rfl ?_ (grow_blk hw1 k8) Try.underlying32 rfl ?_; (focus (go_simp; done)); (rw [cw_size, L16.out]; kernel_rfl))) | (apply LexR_det (by rfl) (by rfl) (wanted_guard rfl (by rw [hops_.out]; rfl) rfl (by go_simp)) (fun w1 hw1 hd1 => ?_) (fun _ hr_ => ?_); rotate_right 2; (refine run_load_rowR (ty := 25) rfl ?_ (grow_blk hw1 k7) Try.underlying25 rfl ?_; (focus (go_simp; done)); (rw [cw_size, L8.out]; kernel_rfl)))
      
      | (apply LexR_callF (f := 9) (by rfl) (by rfl) (by rfl) Try.func9 (by kernel_rfl) (by kernel_rfl) (fun _ => ?_) (fun w1 hw1 hd1 => ?_) (fun _ hr_ => ?_); rotate_right 3; (go_simp; first | done | rfl); (with_reducible exact (hList2 w1))) | (apply LexR_callF (f := 11) (by rfl) (by rfl) (by rfl) Try.func11 (by kernel_rfl) (by kernel_rfl) (fun _ => ?_) (fun w1 hw1 hd1 => ?_) (fun _ hr_ => ?_); rotate_right 3; (go_simp; first | done | rfl); (with_reducible exact (hS w1))) | (apply LexR_callF (f := 10) (by rfl) (by rfl) (by rfl) Try.func10 (by kernel_rfl) (by kernel_rfl) (fun _ => ?_) (fun w1 hw1 hd1 => ?_) (fun _ hr_ => ?_); rotate_right 3; (go_simp; first | done | rfl); (with_reducible exact (hIs w1))) | (apply LexR_callF (f := 12) (by rfl) (by rfl) (wanted_guard rfl (by rw [hops_.out]; rfl) rfl (by go_simp)) Try.func12 (by kernel_rfl) (by kernel_rfl) (fun _ => ?_) (fun w1 hw1 hd1 => ?_) (fun _ hr_ => ?_); rotate_right 3; (go_simp; first | done | rfl); (with_reducible exact (hText w1))) | (apply LexR_callF (f := 10) (by rfl) (by rfl) (wanted_guard rfl (by rw [hops_.out]; rfl) rfl (by go_simp)) Try.func10 (by kernel_rfl) (by kernel_rfl) (fun _ => ?_) (fun w1 hw1 hd1 => ?_) (fun _ hr_ => ?_); rotate_right 3; (go_simp; first | done | rfl); (with_reducible exact (hIs w1))) | (apply LexR_callF (f := 13) (by rfl) (by rfl) (wanted_guard rfl (by rw [hops_.out]; rfl) rfl (by go_simp)) Try.func13 (by kernel_rfl) (by kernel_rfl) (fun _ => ?_) (fun w1 hw1 hd1 => ?_) (fun _ hr_ => ?_); rotate_right 3; (go_simp; first | done | rfl); (with_reducible exact (hPlain w1))) | (apply LexR_own (f := 14) (by rfl) (by rfl) ((wanted_guard rfl (by rw [hops_.out]; rfl) rfl (by go_simp))) Try.func14 (by kernel_rfl) (by kernel_rfl) (fun _ => ?_) (fun w1 hw1 hd1 => ?_) (fun _ hr_ => ?_); rotate_right 3; (go_simp; first | done | rfl); exact (hrB w1)) | (apply LexR_det (by rfl) (by rfl) ((wanted_guard rfl (by rw [hops_.out]; rfl) rfl (by go_simp))) (fun w1 hw1 hd1 => ?_) (fun _ hr_ => ?_); rotate_right 2; (simp [depFacts, needs, Region.binds, Exp.dep] at hd1; obtain ⟨cur_, hk_, ht_⟩ := hd1; exact run_conv_own rfl hr_ Try.underlying22 Try.underlying5 Try.underlying9 hk_ LRB.out (by first | exact ht_ | simpa using ht_))) | (apply LexR_det (by rfl) (by rfl) ((wanted_guard rfl (by rw [hops_.out]; rfl) rfl (by go_simp))) (fun w1 hw1 hd1 => ?_) (fun _ hr_ => ?_); rotate_right 2; (refine run_conv_rowBR rfl ?_ (RowB.grow rt hw1); (focus (go_simp; done)))) | (apply LexR_det (by rfl) (by rfl) ((wanted_guard rfl (by rw [hops_.out]; rfl) rfl (by go_simp))) (fun w1 hw1 hd1 => ?_) (fun _ hr_ => ?_); rotate_right 2; (refine run_conv_rowBR rfl ?_ (RowB.grow rk hw1); (focus (go_simp; done)))) | (apply LexR_det (by rfl) (by rfl) (wanted_guard rfl (by rw [hops_.out]; rfl) rfl (by go_simp)) (fun w1 hw1 hd1 => ?_) (fun _ hr_ => ?_); rotate_right 2; (go_simp; first | done | rfl ))
      | (apply LexR_det (by rfl) (by rfl) (by rfl) (fun w1 hw1 hd1 => ?_) (fun _ hr_ => ?_); rotate_right 2; (go_simp; first | done | rfl ))
      | (apply LexR_box (by rfl) (by rfl) (by rfl) (fun w1 hw1 hd1 => ?_) (fun _ hr_ => ?_); rotate_right 2; (go_simp; first | done | rfl))
      | (apply LexR_bs (t := 34) (e := 29) (z := .agg #[.int .u32 0]) (ho := rfl) (by rfl) (by rfl) Try.underlying34 (by kernel_rfl) (by decide) (by decide) (fun _ => ?_) (fun _ => ?_) (fun _ => ?_) (fun _ hr_ => ?_); rotate_right 4; (go_simp; rfl); (exact ⟨rfl, rfl, rfl⟩); (simp only [List.map_cons, List.map_nil, List.flatMap_cons, List.flatMap_nil, Value.cells, List.cons_append, List.nil_append, List.append_nil]; rfl)))
    apply LexR_end
    refine hK _ _ ?_
    clear hK K_
    repeat clear hr_
    clear hb_ R_ hops_ ops_
    intro w1 hw1 hf1
    apply tailR (fun _ => ?_) (fun _ => ?_) ?_
    rotate_right 2
    · simp only [putAll, Act.put, List.setIfInBounds_toArray, List.set_cons_succ, List.set_cons_zero]; first | done | rfl
    · simp only [List.drop_succ_cons, List.drop_zero]; first | done | rfl
    simp [allFacts, contOf, Exp.putAt, Exp.fact, Exp.fresh, Exp.blk] at hf1
    clear hf1
    replace HB := bl_call hw1 HB
    go_wp2
    exact bodyPost_ret (v := .bool true) (by simp [results, Try.results3, go_sem]) rfl ⟨rfl, HB⟩
theorem HmacSums_all (ks tb : List UInt8) (kv tv : Value) (a : Int) (w : World) (hkv : RowB w kv ks) (htv : RowB w tv tb) (m1 : ks.length ≤ maxLen) (m2 : tb.length ≤ maxLen) (ha : (Lit.int .u32 a).wf = true) : Calls Try.prog 3 #[kv, tv, .int .u32 a] w fun e w' => e = .returned (.bool true) ∧ Below w.heap.size w w' := by
  by_cases h1 : ks.length ≤ 150
  · by_cases h2 : tb.length ≤ 150
    · have h3 := Go.bounds_u32 ha
      rw [of_iw a (by omega) (by omega)]
      exact HmacSums_c ks tb kv tv _ w h1 h2 hkv htv
    · exact HmacSums_long2 ks tb kv tv a w m2 h1 (by omega) hkv htv
  · exact HmacSums_long1 ks tb kv tv a w m1 (by omega) hkv htv
end Go.Proofs.Yteaaaekffnfmhaa

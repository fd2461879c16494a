/- Contracts of hmac.words, State.Text and Plain. -/
import Derived.Test.YthnackakgglhbaaGreatHv
namespace Go.Proofs.YthnackakgglhbaaGreat
open Go.RowKit
set_option maxRecDepth 100000
set_option linter.unusedSimpArgs false
set_option linter.unusedVariables false
attribute [local go_sem] evR_tmp evR_const evR_global evR_func
theorem low_textw (s : ByteArray) : lowB (textw s) = s.data.toList := by
  unfold lowB textw
  rw [List.map_map]
  conv => rhs; rw [← List.map_id s.data.toList]
  apply List.map_congr_left
  intro b _
  exact byteOf_kw b
theorem cw_toList (xs : List W32) : (cw xs).toList = xs.map sec := rfl
/-- What a function returns that makes a slice of its own. -/
def OwnRet (ty : TypeId) (n : Nat) (cs : List Value) (w : World) (x : Ending) (w' : World) : Prop := ∃ g cap cur, x = .returned (.slice (some ⟨g, 0, none⟩) n cap) ∧ cap < 18446744073709551616 ∧ w.heap.size ≤ g ∧ w'.heap[g]? = some (.cells cur ty (0, 0)) ∧ cur.toList.take n = cs ∧ Below w.heap.size w w'
set_option maxHeartbeats 2000000 in
theorem words_c0 (s : ByteArray) (hs : s.size ≤ 1000000) (w : World) : Calls Tryz.prog 47 #[.string s] w (OwnRet 80 s.size ((textw s).map sec) w) := by
  go_enter Tryz.func47, Tryz.ntmps47
  go_upto_region 1 with (fail)
  go_wp2_with (first | (refine wpList_makeN rfl _ _ 76 rfl 80 (.agg #[.int .u32 0]) (.int .u32 0) 8 Tryz.underlying76 (by kernel_rfl) rfl (by omega) _ s.size rfl rfl rfl hs ?_))
  refine gen_world fun W hW => ?_
  have k3 : W.heap[w.heap.size]? = some (.cells (cw (padTo s.size ((textw s).take 0))) 80 (0, 0)) := by subst hW; rw [show (textw s).take 0 = [] from rfl, padTo_nil]; exact blk_new _ _
  have HB : Below w.heap.size w W := by subst hW; (repeat (first | exact Below.refl _ _ | (refine bl_alloc ?_ _) | (refine bl_drewN ?_ _) | (refine bl_drew ?_) | (refine bl_call (by assumption) ?_) | (refine bl_set _ _ (by simp <;> omega) ?_) | assumption))
  clear hW
  have LT := Lib.hid (textw_length s)
  have k30 := k3
  have HB0 := HB
  clear k3 HB
  go_loopw [10] (fun i wr => ∃ n : Nat, n ≤ s.size ∧ i = .int .i64 (n : Int) ∧ Below w.heap.size w wr ∧ wr.heap[w.heap.size]? = some (.cells (cw (padTo s.size ((textw s).take n))) 80 (0, 0))) (fun i _ => s.size - (intOf i).toNat)
  case atStart => exact ⟨0, by omega, rfl, HB0, k30⟩
  case round =>
    clear HB0 k30
    obtain ⟨n, hn, rfl, HB, k3⟩ := hrel
    have pn : (0 : Int) ≤ (n : Int) := by omega
    by_cases hlt : n < s.size
    · have hlt' : (n : Int) < (s.size : Int) := by omega
      have q3 := blk_lt k3
      go_upto_region 5 with (fail)
      refine wp_region_R 8 [0, 3, 4] (by kernel_rfl) (by kernel_rfl) (by kernel_rfl) (by kernel_rfl) ?_
      intro K_ ops_ hops_ hK
      replace hops_ := Lib.hid hops_
      apply Exists.intro
      intro R_ hb_
      simp only [↓baseR, ↓nthR_succ, ↓nthR_zero] at hb_
      simp only [List.take_succ_cons, List.take_zero, List.drop_succ_cons, List.drop_zero]
      repeat (first
        
        
        | (apply LexR_callF (f := 68) (by rfl) (by rfl) (by rfl) Tryz.func68 (by kernel_rfl) (by kernel_rfl) (fun _ => ?_) (fun w1 hw1 hd1 => ?_) (fun _ hr_ => ?_); rotate_right 3; (go_simp; first | done | rfl); exact (Of_c _ (at32 (textw s) n) (text_at s n hlt) w1))
        | (apply LexR_det (by rfl) (by rfl) (by rfl) (fun w1 hw1 hd1 => ?_) (fun _ hr_ => ?_); rotate_right 2; (go_simp; first | done | rfl ))
        | (apply LexR_box (by rfl) (by rfl) (by rfl) (fun w1 hw1 hd1 => ?_) (fun _ hr_ => ?_); rotate_right 2; (go_simp; first | done | rfl))
        | (apply LexR_bs (t := 76) (e := 80) (z := .agg #[.int .u32 0]) (ho := rfl) (by rfl) (by rfl) Tryz.underlying76 (by kernel_rfl) (by decide) (by decide) (fun _ => ?_) (fun _ => ?_) (fun _ => ?_) (fun _ hr_ => ?_); rotate_right 4; (go_simp; rfl); (exact ⟨rfl, rfl, rfl⟩); (simp only [List.map_cons, List.map_nil, List.flatMap_cons, List.flatMap_nil, Value.cells, List.cons_append, List.nil_append, List.append_nil]; rfl)))
      apply LexR_end
      refine hK _ _ ?_
      clear hK K_
      repeat clear hr_
      clear hb_ R_ hops_ ops_
      intro w1 hw1 hf1
      apply tailR (fun _ => ?_) (fun _ => ?_) ?_
      rotate_right 2
      · simp only [putAll, Act.put, List.setIfInBounds_toArray, List.set_cons_succ, List.set_cons_zero]; first | done | rfl
      · simp only [List.drop_succ_cons, List.drop_zero]; first | done | rfl
      simp [allFacts, contOf, Exp.putAt, Exp.fact, Exp.fresh, Exp.blk] at hf1
      clear hf1 q3
      replace k3 := grow_blk hw1 k3
      replace HB := bl_call hw1 HB
      clear hw1
      have hlt3 : (List.take n (textw s)).length = n := by rw [List.length_take, LT.out]; omega
      have cs := blk_cell k3 n
      rw [cw_at _ _ (by rw [padTo_length _ _ (by omega)]; exact hlt)] at cs
      have fs := blk_frozen k3 n
      have hlt4 := Lib.hid hlt3
      clear hlt3
      go_wp2_with fail
      go_roundw
      case measure => simp [intOf] <;> omega
      refine ⟨n + 1, by omega, congrArg (Value.int .i64) (by omega), bl_set _ _ (by simp) HB, ?_⟩
      have := padTo_set s.size (List.take n (textw s)) (at32 (textw s) n) (by rw [hlt4.out]; exact hlt)
      rw [hlt4.out] at this
      rw [List.take_succ_eq_append_getElem (by rw [LT.out]; exact hlt), show (textw s)[n]'(by rw [LT.out]; exact hlt) = at32 (textw s) n by simp [at32, LT.out, hlt], ← this, ← cw_set]
      exact blk_set k3 n _
    · obtain rfl : n = s.size := by omega
      have hlt' : ¬ (s.size : Int) < (s.size : Int) := by omega
      rw [List.take_of_length_le (by rw [LT.out]; omega), padTo_full _ _ LT.out] at k3
      go_wp2
      exact bodyPost_ret (v := .slice (some ⟨w.heap.size, 0, none⟩) s.size s.size) (by simp [results, Tryz.results47, go_sem]) rfl ⟨w.heap.size, s.size, cw (textw s), rfl, by omega, Nat.le_refl _, k3, by rw [cw_toList, List.take_of_length_le (by rw [List.length_map, LT.out]; omega)], HB⟩
theorem words_c (s : ByteArray) (hs : s.size ≤ 1000000) (w : World) : Calls Tryz.prog 47 #[.string s] w fun x w' => ∃ g cap cur, x = .returned (.slice (some ⟨g, 0, none⟩) s.size cap) ∧ cap < 18446744073709551616 ∧ w.heap.size ≤ g ∧ w'.heap[g]? = some (.cells cur 80 (0, 0)) ∧ cur.toList.take s.size = (textw s).map sec ∧ Below w.heap.size w w' := words_c0 s hs w
set_option maxHeartbeats 2000000 in
theorem hText_c (kb : List UInt8) (hk : kb.length = 64) (s : ByteArray) (hs : s.size ≤ 500000) (w : World) : Calls Tryz.prog 48 #[.agg (cw (stateW kb)), .string s] w fun e w' => e = .returned (.agg (cw (macK kb s.data.toList))) ∧ Below w.heap.size w w' := by
  have hW := fun w => words_c s (by omega) w
  have hS : ∀ (g cap : Nat) (cur : Array Value) (w1 : World), w1.heap[g]? = some (.cells cur 80 (0, 0)) → cur.toList.take s.size = (textw s).map sec → Calls Tryz.prog 72 #[.agg (cw (stateW kb)), .slice (some ⟨g, 0, none⟩) s.size cap] w1 fun e w' => e = .returned (.agg (cw (macK kb s.data.toList))) ∧ Below w1.heap.size w1 w' := fun g cap cur w1 hk1 ht => by
    have := hSum_c kb hk (textw s) (.slice (some ⟨g, 0, none⟩) s.size cap) w1 (by rw [textw_length]; exact hs) (list_slice hk1 ht (textw_length s).symm)
    rw [low_textw] at this
    exact this
  have L16 := Lib.hid (stateW_length kb)
  have L8 := Lib.hid (macK_length kb s.data.toList)
  generalize stateW kb = st at hS L16 ⊢
  generalize macK kb s.data.toList = fin at hS L8 ⊢
  clear hk
  go_enter Tryz.func48, Tryz.ntmps48
  go_upto_region 1 with (fail)
  refine gen_world fun W hW => ?_
  have k2 : W.heap[w.heap.size]? = some (.cells (cw st) 83 (0, 0)) := by subst hW; (repeat (first | (with_reducible assumption) | ((with_reducible refine blk_new' ?_ _); (simp; done)) | ((with_reducible refine blk_alloc ?_ _)) | ((with_reducible refine blk_far ?_ ?_ _); (simp <;> omega))))
  have k4 : W.heap[w.heap.size + 1]? = some (.cells (Array.replicate 8 (.int .u32 0)) 81 (0, 0)) := by subst hW; exact blk_new' (by simp) _
  have HB : Below w.heap.size w W := by subst hW; (repeat (first | exact Below.refl _ _ | (refine bl_alloc ?_ _) | (refine bl_drewN ?_ _) | (refine bl_drew ?_) | (refine bl_call (by assumption) ?_) | (refine bl_set _ _ (by simp <;> omega) ?_) | assumption))
  clear hW
  refine wp_region_R 4 [1, 2] (by kernel_rfl) (by kernel_rfl) (by kernel_rfl) (by kernel_rfl) ?_
  intro K_ ops_ hops_ hK
  replace hops_ := Lib.hid hops_
  apply Exists.intro
  intro R_ hb_
  simp only [↓baseR, ↓nthR_succ, ↓nthR_zero] at hb_
  simp only [List.take_succ_cons, List.take_zero, List.drop_succ_cons, List.drop_zero]
  repeat (first
    | (apply LexR_det (by rfl) (by rfl) (by rfl) (fun w1 hw1 hd1 => ?_) (fun _ hr_ => ?_); rotate_right 2; (refine run_load_rowR (ty := 83) rfl ?_ (grow_blk hw1 k2) Tryz.underlying83 rfl ?_; (focus (go_simp; done)); (rw [cw_size, L16.out]; kernel_rfl)))
    
    | (apply LexR_own (f := 47) (by rfl) (by rfl) (by rfl) Tryz.func47 (by kernel_rfl) (by kernel_rfl) (fun _ => ?_) (fun w1 hw1 hd1 => ?_) (fun _ hr_ => ?_); rotate_right 3; (go_simp; first | done | rfl); exact (words_c s (by omega) w1)) | (apply LexR_callF (f := 72) (by rfl) (by rfl) (by rfl) Tryz.func72 (by kernel_rfl) (by kernel_rfl) (fun _ => ?_) (fun w1 hw1 hd1 => ?_) (fun _ hr_ => ?_); rotate_right 3; (go_simp; first | done | rfl); (simp [depFacts, needs, Region.binds, Exp.dep] at hd1; obtain ⟨cur_, hk_, ht_⟩ := hd1; exact hS _ _ cur_ w1 hk_ (by first | exact ht_ | simpa using ht_)))
    | (apply LexR_det (by rfl) (by rfl) (by rfl) (fun w1 hw1 hd1 => ?_) (fun _ hr_ => ?_); rotate_right 2; (go_simp; first | done | rfl ))
    | (apply LexR_box (by rfl) (by rfl) (by rfl) (fun w1 hw1 hd1 => ?_) (fun _ hr_ => ?_); rotate_right 2; (go_simp; first | done | rfl))
    | (apply LexR_bs (t := 76) (e := 80) (z := .agg #[.int .u32 0]) (ho := rfl) (by rfl) (by rfl) Tryz.underlying76 (by kernel_rfl) (by decide) (by decide) (fun _ => ?_) (fun _ => ?_) (fun _ => ?_) (fun _ hr_ => ?_); rotate_right 4; (go_simp; rfl); (exact ⟨rfl, rfl, rfl⟩); (simp only [List.map_cons, List.map_nil, List.flatMap_cons, List.flatMap_nil, Value.cells, List.cons_append, List.nil_append, List.append_nil]; rfl)))
  apply LexR_end
  refine hK _ _ ?_
  clear hK K_
  repeat clear hr_
  clear hb_ R_ hops_ ops_
  intro w1 hw1 hf1
  apply tailR (fun _ => ?_) (fun _ => ?_) ?_
  rotate_right 2
  · simp only [putAll, Act.put, List.setIfInBounds_toArray, List.set_cons_succ, List.set_cons_zero]; first | done | rfl
  · simp only [List.drop_succ_cons, List.drop_zero]; first | done | rfl
  simp [allFacts, contOf, Exp.putAt, Exp.fact, Exp.fresh, Exp.blk] at hf1
  clear hf1 hS
  replace k4 := grow_blk hw1 k4
  replace HB := bl_call hw1 HB
  clear hw1
  refine wpList_store_row rfl _ _ _ rfl (w.heap.size + 1) (cw fin) rfl rfl 81 _ k4 (by rw [cw_size, L8.out]; kernel_rfl) (by rw [cw_size, L8.out]; rfl) (cw_one _) ?_
  refine gen_list fun W2 hW => ?_
  replace k4 : W2.heap[w.heap.size + 1]? = some (.cells (cw fin) 81 (0, 0)) := by subst hW; exact setRow_blk k4 _
  replace HB : Below w.heap.size w W2 := by subst hW; exact bl_row _ _ (by omega) HB
  clear hW
  go_wp2
  exact bodyPost_ret (v := .agg (cw fin)) (results_cell_row Tryz.results48 _ _ (w.heap.size + 1) 81 (cw fin) (0, 0) _ rfl k4 Tryz.underlying81 rfl (by rw [cw_size, L8.out]; kernel_rfl)) rfl ⟨rfl, HB⟩
/-- A sum under a key, as a text. -/
def macText (k t : ByteArray) : ByteArray := ⟨(refBytes (macw k.data.toList t.data.toList)).toArray⟩
theorem bytesOf_is (h : List W32) : bytesOf (bytesw h) = ⟨(refBytes h).toArray⟩ := by unfold bytesOf; rw [bytes_eq]
set_option maxHeartbeats 4000000 in
theorem hPlain_c (k t : ByteArray) (hk : k.size ≤ 500000) (ht : t.size ≤ 500000) (w : World) : Calls Tryz.prog 34 #[.string k, .string t] w fun e w' => e = .returned (.string (macText k t)) ∧ Below w.heap.size w w' := by
  have hW := fun w => words_c k (by omega) w
  have hO : ∀ (g cap : Nat) (cur : Array Value) (w1 : World), w1.heap[g]? = some (.cells cur 80 (0, 0)) → cur.toList.take k.size = (textw k).map sec → Calls Tryz.prog 46 #[.slice (some ⟨g, 0, none⟩) k.size cap] w1 fun e w' => e = .returned (.agg (cw (stateW (keyB k.data.toList)))) ∧ Below w1.heap.size w1 w' := fun g cap cur w1 hk1 ht => by
    have := hOf_c (textw k) (.slice (some ⟨g, 0, none⟩) k.size cap) w1 (by rw [textw_length]; exact hk) (list_slice hk1 ht (textw_length k).symm)
    rw [low_textw] at this
    exact this
  have hT := fun w => hText_c (keyB k.data.toList) (keyB_length _) t ht w
  have hfin : bytesOf (bytesw (macK (keyB k.data.toList) t.data.toList)) = macText k t := bytesOf_is _
  have LJ := Lib.hid (macK_length (keyB k.data.toList) t.data.toList)
  generalize macText k t = fin at hfin ⊢
  generalize macK (keyB k.data.toList) t.data.toList = mk_ at hT hfin LJ
  generalize stateW (keyB k.data.toList) = st at hO hT
  have LB := Lib.hid (bytesw_length _ LJ.out)
  have hBy := fun w => Bytes2_c mk_ LJ.out w
  generalize bytesw mk_ = bw at hBy hfin LB
  replace hfin := Lib.hid hfin
  go_enter Tryz.func34, Tryz.ntmps34
  go_upto_region 4 with (first | (go_at_call 47; refine (hW _).mono ?_; rintro e w1 ⟨g1, cap1, cur1, rfl, _, _, k1, t1, hb1⟩) | (go_at_call 46; refine (hO _ _ _ _ k1 t1).mono ?_; rintro e w2 ⟨rfl, hb2⟩) | (go_at_call 48; refine (hT _).mono ?_; rintro e w3 ⟨rfl, hb3⟩) | (go_at_call 45; refine (hBy _).mono ?_; rintro e w4 ⟨g, cap, rfl, hg, HR, hb4⟩))
  have HB : Below w.heap.size w w4 := bl_call hb4 (bl_call hb3 (bl_call hb2 hb1))
  clear hb1 hb2 hb3 hb4 k1 t1 hg hO hT hBy hW
  have HO0 : w4.ownsRow w.heap.size 5 1 (.slice none 0 0) 0 ((bw.take 0).map byv) := World.ownsRow_nil _ _ _ _
  have HB0 := HB
  have HR0 := HR
  clear HB HR
  go_loopw [16, 5] (fun i sv wr => ∃ k : Nat, k ≤ 32 ∧ i = .int .i64 (k : Int) ∧ Below w.heap.size w wr ∧ Row wr g 0 bw ∧ wr.ownsRow w.heap.size 5 1 sv k ((bw.take k).map byv) ∧ sv.ownBlock ≠ some g) (fun i _ _ => 32 - (intOf i).toNat)
  case atStart => exact ⟨0, by omega, rfl, HB0, HR0, HO0, by simp [Value.ownBlock]⟩
  case round =>
    clear HB0 HR0 HO0
    obtain ⟨k, hk, rfl, HB, HR, HO, hne⟩ := hrel
    have pk : (0 : Int) ≤ (k : Int) := by omega
    by_cases hlt2 : k < 32
    · have hlt3 : (k : Int) < 32 := by omega
      have ck : wr.cell? ⟨g, k, none⟩ = some (.int .u32 (iw (at32 bw k))) := by have := HR k (by rw [LB.out]; exact hlt2); rwa [Nat.zero_add] at this
      have qg := cell_lt' ck
      go_upto_region 5 with (fail)
      refine wp_region_R 4 [14, 16] (by kernel_rfl) (by kernel_rfl) (by kernel_rfl) (by kernel_rfl) ?_
      intro K_ ops_ hops_ hK
      replace hops_ := Lib.hid hops_
      apply Exists.intro
      intro R_ hb_
      simp only [↓baseR, ↓nthR_succ, ↓nthR_zero] at hb_
      simp only [List.take_succ_cons, List.take_zero, List.drop_succ_cons, List.drop_zero]
      repeat (first
        
        | (apply LexR_put (j := 2) (ho := rfl); (go_simp; rfl); (go_simp; rfl); rfl; rfl; (focus (first | decide | (simp; done))); rfl; rfl; kernel_rfl; kernel_rfl; (first | exact cw_one _ | simp [Value.oneCell']); (first | (rw [cw_size, L64.out]; rfl) | (rw [cw_size, L8.out]; rfl) | (rw [cw_size]; rfl) | rfl); intro _)
        
        | (apply LexR_det (by rfl) (by rfl) (by rfl) (fun w1 hw1 hd1 => ?_) (fun _ hr_ => ?_); rotate_right 2; (go_simp; first | done | rfl | (rw [grow_cell hw1 ck]; focus ((try simp); first | done | rfl))))
        | (apply LexR_box (by rfl) (by rfl) (by rfl) (fun w1 hw1 hd1 => ?_) (fun _ hr_ => ?_); rotate_right 2; (go_simp; first | done | rfl))
        | (apply LexR_bs (t := 76) (e := 80) (z := .agg #[.int .u32 0]) (ho := rfl) (by rfl) (by rfl) Tryz.underlying76 (by kernel_rfl) (by decide) (by decide) (fun _ => ?_) (fun _ => ?_) (fun _ => ?_) (fun _ hr_ => ?_); rotate_right 4; (go_simp; rfl); (exact ⟨rfl, rfl, rfl⟩); (simp only [List.map_cons, List.map_nil, List.flatMap_cons, List.flatMap_nil, Value.cells, List.cons_append, List.nil_append, List.append_nil]; rfl)))
      apply LexR_end
      refine hK _ _ ?_
      clear hK K_
      repeat clear hr_
      clear hb_ R_ hops_ ops_
      intro w1 hw1 hf1
      apply tailR (fun _ => ?_) (fun _ => ?_) ?_
      rotate_right 2
      · simp only [putAll, Act.put, List.setIfInBounds_toArray, List.set_cons_succ, List.set_cons_zero]; first | done | rfl
      · simp only [List.drop_succ_cons, List.drop_zero]; first | done | rfl
      simp [allFacts, contOf, Exp.putAt, Exp.fact, Exp.fresh, Exp.blk] at hf1
      obtain ⟨k8, l8⟩ := hf1
      obtain ⟨g8, e_⟩ := name_blk k8
      subst e_
      replace HB := bl_call hw1 HB
      replace HR := HR.grow hw1
      replace HO := ownsRow_block HO fun g hg => hw1.block g (ownsRow_lt HO hg).2
      clear hw1 l8 ck qg
      go_upto_region 6 with (fail)
      have q8 := blk_lt k8
      refine wp_region_R 6 [5, 6, 8] (by kernel_rfl) (by kernel_rfl) (by kernel_rfl) (by kernel_rfl) ?_
      intro K_ ops_ hops_ hK
      replace hops_ := Lib.hid hops_
      apply Exists.intro
      intro R_ hb_
      simp only [↓baseR, ↓nthR_succ, ↓nthR_zero] at hb_
      simp only [List.take_succ_cons, List.take_zero, List.drop_succ_cons, List.drop_zero]
      repeat (first
        
        | (apply LexR_bs (t := 36) (e := 5) (z := .int .u8 0) (ho := rfl) (by rfl) (by rfl) Tryz.underlying36 (by kernel_rfl) (by decide) (by decide) (fun _ => ?_) (fun _ => ?_) (fun _ => ?_) (fun _ hr_ => ?_); rotate_right 4; (go_simp; rfl); (exact ⟨rfl, rfl, rfl⟩); (simp only [List.map_cons, List.map_nil, List.flatMap_cons, List.flatMap_nil, Value.cells, List.cons_append, List.nil_append, List.append_nil]; rfl))
        | (apply LexR_callF (f := 49) (by rfl) (by rfl) (by rfl) Tryz.func49 (by kernel_rfl) (by kernel_rfl) (fun _ => ?_) (fun w1 hw1 hd1 => ?_) (fun _ hr_ => ?_); rotate_right 3; (go_simp; first | done | rfl); exact (Release_nil_c _ w1))
        | (apply LexR_det (by rfl) (by rfl) (by rfl) (fun w1 hw1 hd1 => ?_) (fun _ hr_ => ?_); rotate_right 2; (go_simp; first | done | rfl | (rw [blk_cell (grow_blk hw1 k8)]; focus ((try simp); first | done | rfl))))
        | (apply LexR_box (by rfl) (by rfl) (by rfl) (fun w1 hw1 hd1 => ?_) (fun _ hr_ => ?_); rotate_right 2; (go_simp; first | done | rfl))
        | (apply LexR_bs (t := 76) (e := 80) (z := .agg #[.int .u32 0]) (ho := rfl) (by rfl) (by rfl) Tryz.underlying76 (by kernel_rfl) (by decide) (by decide) (fun _ => ?_) (fun _ => ?_) (fun _ => ?_) (fun _ hr_ => ?_); rotate_right 4; (go_simp; rfl); (exact ⟨rfl, rfl, rfl⟩); (simp only [List.map_cons, List.map_nil, List.flatMap_cons, List.flatMap_nil, Value.cells, List.cons_append, List.nil_append, List.append_nil]; rfl)))
      apply LexR_end
      refine hK _ _ ?_
      clear hK K_
      repeat clear hr_
      clear hb_ R_ hops_ ops_
      intro w1 hw1 hf1
      apply tailR (fun _ => ?_) (fun _ => ?_) ?_
      rotate_right 2
      · simp only [putAll, Act.put, List.setIfInBounds_toArray, List.set_cons_succ, List.set_cons_zero]; first | done | rfl
      · simp only [List.drop_succ_cons, List.drop_zero]; first | done | rfl
      simp [allFacts, contOf, Exp.putAt, Exp.fact, Exp.fresh, Exp.blk] at hf1
      obtain ⟨k39, l39⟩ := hf1
      obtain ⟨g39, e_⟩ := name_blk k39
      subst e_
      rw [wrap_byte] at k39
      replace HB := bl_call hw1 HB
      replace HR := HR.grow hw1
      replace HO := ownsRow_block HO fun g hg => hw1.block g (ownsRow_lt HO hg).2
      clear hw1 l39 q8 k8
      have c39 := blk_cell k39 0
      refine wpList_app1 rfl _ _ 36 rfl w.heap.size 5 (.int .u8 0) 1 Tryz.underlying36 (by kernel_rfl) rfl (by decide) u5 k _ rfl HO g39 1 (byv (at32 bw k)) rfl c39 rfl (by omega) HB.size ?_
      intro g3 cap3 W2 hO hgr hsv hgl
      have qg : g < w1.heap.size := cell_lt' (HR k (by rw [LB.out]; exact hlt2))
      replace HR : Row W2 g 0 bw := HR.block (hgr.block g qg fun q => hne q.symm)
      replace HB := grown_below HB hgr HB.size fun g hg' => (ownsRow_lt HO hg').1
      have hne2 : (Value.slice (some ⟨g3, 0, none⟩) (k + 1) cap3).ownBlock ≠ some g := by
        intro z
        have e : g3 = g := by simpa [Value.ownBlock] using z
        rcases hsv with q | q
        · exact hne (by rw [q, e])
        · omega
      replace HO : W2.ownsRow w.heap.size 5 1 (.slice (some ⟨g3, 0, none⟩) (k + 1) cap3) (k + 1) ((bw.take (k + 1)).map byv) := by
        rw [List.take_succ_eq_append_getElem (by rw [LB.out]; exact hlt2), List.map_append, show bw[k]'(by rw [LB.out]; exact hlt2) = at32 bw k by simp [at32, LB.out, hlt2]]
        exact hO
      generalize (Value.slice (some ⟨g3, 0, none⟩) (k + 1) cap3) = sv2 at HO hne2 ⊢
      clear hO hgr hsv hgl c39 k39 qg
      go_wp2_with fail
      go_roundw
      case measure => simp [intOf] <;> omega
      refine ⟨k + 1, by omega, congrArg (Value.int .i64) (by omega), HB, HR, HO, hne2⟩
    · obtain rfl : k = 32 := by omega
      have hlt3 : ¬ ((32 : Nat) : Int) < 32 := by omega
      rw [List.take_of_length_le (by rw [LB.out]; omega)] at HO
      obtain ⟨g3, cap3, rfl, _, _⟩ := World.ownsRow.form HO (by omega)
      have hcell : ∀ i, i < 32 → wr.cell? ⟨g3, 0 + i, none⟩ = some (.int .u8 ((bw.map byteN).getD i 0)) := fun i hi => by
        rw [Nat.zero_add, World.ownsRow.cellAt HO i (by omega)]
        simp [byv, LB.out, hi]
      go_upto_region 8 with (fail)
      refine wp_region_R 3 [5] (by kernel_rfl) (by kernel_rfl) (by kernel_rfl) (by kernel_rfl) ?_
      intro K_ ops_ hops_ hK
      replace hops_ := Lib.hid hops_
      apply Exists.intro
      intro R_ hb_
      simp only [↓baseR, ↓nthR_succ, ↓nthR_zero] at hb_
      simp only [List.take_succ_cons, List.take_zero, List.drop_succ_cons, List.drop_zero]
      repeat (first
        
        | (apply LexR_det (by rfl) (by rfl) (by rfl) (fun w1 hw1 hd1 => ?_) (fun _ hr_ => ?_); rotate_right 2; (refine run_convert_bytesR (cap := cap3) rfl ?_ Tryz.underlying36 Tryz.underlying5 Tryz.underlying9 (bw.map byteN) (by rw [List.length_map, LB.out]) (fun i hi => by rw [hw1.cell (cell_lt' (hcell i hi))]; exact hcell i hi); (focus (go_simp; done))))
        
        | (apply LexR_det (by rfl) (by rfl) (by rfl) (fun w1 hw1 hd1 => ?_) (fun _ hr_ => ?_); rotate_right 2; (go_simp; first | done | rfl ))
        | (apply LexR_box (by rfl) (by rfl) (by rfl) (fun w1 hw1 hd1 => ?_) (fun _ hr_ => ?_); rotate_right 2; (go_simp; first | done | rfl))
        | (apply LexR_bs (t := 76) (e := 80) (z := .agg #[.int .u32 0]) (ho := rfl) (by rfl) (by rfl) Tryz.underlying76 (by kernel_rfl) (by decide) (by decide) (fun _ => ?_) (fun _ => ?_) (fun _ => ?_) (fun _ hr_ => ?_); rotate_right 4; (go_simp; rfl); (exact ⟨rfl, rfl, rfl⟩); (simp only [List.map_cons, List.map_nil, List.flatMap_cons, List.flatMap_nil, Value.cells, List.cons_append, List.nil_append, List.append_nil]; rfl)))
      apply LexR_end
      refine hK _ _ ?_
      clear hK K_
      repeat clear hr_
      clear hb_ R_ hops_ ops_
      intro w1 hw1 hf1
      apply tailR (fun _ => ?_) (fun _ => ?_) ?_
      rotate_right 2
      · simp only [putAll, Act.put, List.setIfInBounds_toArray, List.set_cons_succ, List.set_cons_zero]; first | done | rfl
      · simp only [List.drop_succ_cons, List.drop_zero]; first | done | rfl
      simp [allFacts, contOf, Exp.putAt, Exp.fact, Exp.fresh, Exp.blk] at hf1
      rw [strOfNums_bytes]
      replace HB := bl_call hw1 HB
      go_wp2
      exact bodyPost_ret (v := .string fin) (by simp [results, Tryz.results34, go_sem, hfin.out]) rfl ⟨rfl, HB⟩
end Go.Proofs.YthnackakgglhbaaGreat

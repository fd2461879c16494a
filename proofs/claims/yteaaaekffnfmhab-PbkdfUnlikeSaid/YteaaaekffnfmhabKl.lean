/- Contracts of pbkdf.Plain and Steps; of the reference. -/
import Derived.Test.YteaaaekffnfmhabKp
namespace Go.Proofs.Yteaaaekffnfmhab
open Go.RowKit Go.Lib
set_option maxRecDepth 100000
set_option linter.unusedSimpArgs false
set_option linter.unusedVariables false
attribute [local go_sem] evR_tmp evR_const evR_global evR_func
def zero8 : List W32 := List.replicate 8 0#32
theorem pKey_no_c (st : List W32) (hst : st.length = 16) (s : ByteArray) (n : Int) (hn : n < 1 ∨ 16777216 < n) (w : World) : Calls Try.prog 13 #[.agg (cw st), .string s, .int .i64 n] w fun e w' => e = .returned (.tuple #[.agg (cw zero8), .bool false]) ∧ Below w.heap.size w w' := by
  by_cases h1 : n < 1
  focus
    have h1' : decide (n < 1) = true := by simp [h1]
    go_enter Try.func13, Try.ntmps13
    go_upto_region 2 with (fail)
    refine gen_world fun W hW => ?_
    have k6 : W.heap[w.heap.size + 1]? = some (.cells (Array.replicate 8 (.int .u32 0)) 39 (0, 0)) := by subst hW; exact blk_new' (by simp) _
    have HB : Below w.heap.size w W := by subst hW; (repeat (first | exact Below.refl _ _ | (refine bl_alloc ?_ _) | (refine bl_drewN ?_ _) | (refine bl_drew ?_) | (refine bl_call (by assumption) ?_) | (refine bl_set _ _ (by simp <;> omega) ?_) | assumption))
    clear hW h1' hn
  rotate_left
  focus
    have h2 : 16777216 < n := by omega
    have h1' : decide (n < 1) = false := by simp [h1]
    have h2' : decide (16777216 < n) = true := by simp [h2]
    clear hn
    go_enter Try.func13, Try.ntmps13
    go_upto_region 2 with (fail)
    refine gen_world fun W hW => ?_
    have k6 : W.heap[w.heap.size + 1]? = some (.cells (Array.replicate 8 (.int .u32 0)) 39 (0, 0)) := by subst hW; exact blk_new' (by simp) _
    have HB : Below w.heap.size w W := by subst hW; (repeat (first | exact Below.refl _ _ | (refine bl_alloc ?_ _) | (refine bl_drewN ?_ _) | (refine bl_drew ?_) | (refine bl_call (by assumption) ?_) | (refine bl_set _ _ (by simp <;> omega) ?_) | assumption))
    clear hW h1' h2'
  rotate_left
  all_goals
    refine wp_region_R 1 [] (by kernel_rfl) (by kernel_rfl) (by kernel_rfl) (by kernel_rfl) ?_
    intro K_ ops_ hops_ hK
    replace hops_ := Lib.hid hops_
    apply Exists.intro
    intro R_ hb_
    simp only [↓baseR, ↓nthR_succ, ↓nthR_zero] at hb_
    simp only [List.take_succ_cons, List.take_zero, List.drop_succ_cons, List.drop_zero]
    repeat (first
      
      
      
      | (apply LexR_det (by rfl) (by rfl) (by rfl) (fun w1 hw1 hd1 => ?_) (fun _ hr_ => ?_); rotate_right 2; (go_simp; first | done | rfl ))
      | (apply LexR_box (by rfl) (by rfl) (by rfl) (fun w1 hw1 hd1 => ?_) (fun _ hr_ => ?_); rotate_right 2; (go_simp; first | done | rfl))
      | (apply LexR_bs (t := 34) (e := 37) (z := .agg #[.int .u32 0]) (ho := rfl) (by rfl) (by rfl) Try.underlying34 (by kernel_rfl) (by decide) (by decide) (fun _ => ?_) (fun _ => ?_) (fun _ => ?_) (fun _ hr_ => ?_); rotate_right 4; (go_simp; rfl); (exact ⟨rfl, rfl, rfl⟩); (simp only [List.map_cons, List.map_nil, List.flatMap_cons, List.flatMap_nil, Value.cells, List.cons_append, List.nil_append, List.append_nil]; rfl)))
    apply LexR_end
    refine hK _ _ ?_
    clear hK K_
    repeat clear hr_
    clear hb_ R_ hops_ ops_
    intro w1 hw1 hf1
    apply tailR (fun _ => ?_) (fun _ => ?_) ?_
    rotate_right 2
    · simp only [putAll, Act.put, List.setIfInBounds_toArray, List.set_cons_succ, List.set_cons_zero]; first | done | rfl
    · simp only [List.drop_succ_cons, List.drop_zero]; first | done | rfl
    simp [allFacts, contOf, Exp.putAt, Exp.fact, Exp.fresh, Exp.blk] at hf1
    clear hf1
    replace k6 := grow_blk hw1 k6
    replace HB := bl_call hw1 HB
    clear hw1
    refine wpList_store_row rfl _ _ _ rfl (w.heap.size + 1) (cw zero8) rfl rfl 39 _ k6 (by kernel_rfl) (by rfl) (cw_one _) ?_
    refine gen_list fun W2 hW => ?_
    replace k6 : W2.heap[w.heap.size + 1]? = some (.cells (cw zero8) 39 (0, 0)) := by subst hW; exact setRow_blk k6 _
    replace HB : Below w.heap.size w W2 := by subst hW; exact bl_row _ _ (by omega) HB
    clear hW
    go_wp2
    exact bodyPost_ret (v := .tuple #[.agg (cw zero8), .bool false]) (results_cell_row_tmp Try.results13 _ _ (w.heap.size + 1) 39 (cw zero8) (0, 0) _ _ rfl rfl k6 Try.underlying39 rfl (by kernel_rfl)) rfl ⟨rfl, HB⟩
/-- A key of a password, as a text. -/
def pbText (p s : ByteArray) (m : Nat) : ByteArray := ⟨(refBytes (outAt (keyB p.data.toList) s.data.toList m)).toArray⟩
set_option maxHeartbeats 4000000 in
theorem pPlain_c (s salt : ByteArray) (hs : s.size ≤ 100000) (hsa : salt.size ≤ 100000) (m : Nat) (hm : m + 1 ≤ 16777216) (w : World) : Calls Try.prog 7 #[.string s, .string salt, .int .i64 ((m : Int) + 1)] w fun e w' => e = .returned (.string (pbText s salt m)) ∧ Below w.heap.size w w' := by
  have hO : ∀ (sv : Value) (w1 : World), SliceOf w1 sv (textw s) → Calls Try.prog 14 #[sv] w1 fun e w' => e = .returned (.agg (cw (stateW (keyB s.data.toList)))) ∧ Below w1.heap.size w1 w' := fun sv w1 h => by
    have := hOf_c (textw s) sv w1 (by rw [textw_length]; omega) h
    rw [low_textw] at this
    exact this
  have hK := fun w => pKey_c (keyB s.data.toList) (keyB_length _) salt hsa m hm w
  have hfin : bytesOf (bytesw (outAt (keyB s.data.toList) salt.data.toList m)) = pbText s salt m := bytesOf_is _
  have L8 := Lib.hid (outAt_length (keyB s.data.toList) salt.data.toList m)
  have hBy := fun w => Bytes2_c (outAt (keyB s.data.toList) salt.data.toList m) L8.out w
  generalize pbText s salt m = fin at hfin ⊢
  generalize outAt (keyB s.data.toList) salt.data.toList m = mid at hK hfin L8 hBy
  have LB := Lib.hid (bytesw_length _ L8.out)
  generalize bytesw mid = bw at hBy hfin LB
  generalize stateW (keyB s.data.toList) = st at hO hK
  replace hfin := Lib.hid hfin
  obtain ⟨n, hn⟩ : ∃ n, n = (m : Int) + 1 := ⟨_, rfl⟩
  rw [← hn] at hK ⊢
  have hs' : s.size ≤ 1000000 := by omega
  clear hn hm
  go_enter Try.func7, Try.ntmps7
  go_upto_region 1 with (fail)
  go_wp2_with (first | (refine wpList_makeN rfl _ _ 34 rfl 37 (.agg #[.int .u32 0]) (.int .u32 0) 8 Try.underlying34 (by kernel_rfl) rfl (by omega) _ s.size rfl rfl rfl hs' ?_))
  refine gen_world fun W hW => ?_
  have k3 : W.heap[w.heap.size]? = some (.cells (cw (padTo s.size ((textw s).take 0))) 37 (0, 0)) := by subst hW; rw [show (textw s).take 0 = [] from rfl, padTo_nil]; exact blk_new _ _
  have HB : Below w.heap.size w W := by subst hW; (repeat (first | exact Below.refl _ _ | (refine bl_alloc ?_ _) | (refine bl_drewN ?_ _) | (refine bl_drew ?_) | (refine bl_call (by assumption) ?_) | (refine bl_set _ _ (by simp <;> omega) ?_) | assumption))
  clear hW
  have LT := Lib.hid (textw_length s)
  have k30 := k3
  have HB0 := HB
  clear k3 HB
  go_loopw [20] (fun i wr => ∃ n : Nat, n ≤ s.size ∧ i = .int .i64 (n : Int) ∧ Below w.heap.size w wr ∧ wr.heap[w.heap.size]? = some (.cells (cw (padTo s.size ((textw s).take n))) 37 (0, 0))) (fun i _ => s.size - (intOf i).toNat)
  case atStart => exact ⟨0, by omega, rfl, HB0, k30⟩
  case round =>
    clear HB0 k30
    obtain ⟨n, hn, rfl, HB, k3⟩ := hrel
    have pn : (0 : Int) ≤ (n : Int) := by omega
    by_cases hlt : n < s.size
    · have hlt' : (n : Int) < (s.size : Int) := by omega
      have q3 := blk_lt k3
      go_upto_region 5 with (fail)
      refine wp_region_R 8 [0, 7, 8] (by kernel_rfl) (by kernel_rfl) (by kernel_rfl) (by kernel_rfl) ?_
      intro K_ ops_ hops_ hK
      replace hops_ := Lib.hid hops_
      apply Exists.intro
      intro R_ hb_
      simp only [↓baseR, ↓nthR_succ, ↓nthR_zero] at hb_
      simp only [List.take_succ_cons, List.take_zero, List.drop_succ_cons, List.drop_zero]
      repeat (first
        
        
        | (apply LexR_callF (f := 12) (by rfl) (by rfl) (by rfl) Try.func12 (by kernel_rfl) (by kernel_rfl) (fun _ => ?_) (fun w1 hw1 hd1 => ?_) (fun _ hr_ => ?_); rotate_right 3; (go_simp; first | done | rfl); exact (Of_c _ (at32 (textw s) n) (text_at s n hlt) w1))
        | (apply LexR_det (by rfl) (by rfl) (by rfl) (fun w1 hw1 hd1 => ?_) (fun _ hr_ => ?_); rotate_right 2; (go_simp; first | done | rfl ))
        | (apply LexR_box (by rfl) (by rfl) (by rfl) (fun w1 hw1 hd1 => ?_) (fun _ hr_ => ?_); rotate_right 2; (go_simp; first | done | rfl))
        | (apply LexR_bs (t := 34) (e := 37) (z := .agg #[.int .u32 0]) (ho := rfl) (by rfl) (by rfl) Try.underlying34 (by kernel_rfl) (by decide) (by decide) (fun _ => ?_) (fun _ => ?_) (fun _ => ?_) (fun _ hr_ => ?_); rotate_right 4; (go_simp; rfl); (exact ⟨rfl, rfl, rfl⟩); (simp only [List.map_cons, List.map_nil, List.flatMap_cons, List.flatMap_nil, Value.cells, List.cons_append, List.nil_append, List.append_nil]; rfl)))
      apply LexR_end
      refine hK _ _ ?_
      clear hK K_
      repeat clear hr_
      clear hb_ R_ hops_ ops_
      intro w1 hw1 hf1
      apply tailR (fun _ => ?_) (fun _ => ?_) ?_
      rotate_right 2
      · simp only [putAll, Act.put, List.setIfInBounds_toArray, List.set_cons_succ, List.set_cons_zero]; first | done | rfl
      · simp only [List.drop_succ_cons, List.drop_zero]; first | done | rfl
      simp [allFacts, contOf, Exp.putAt, Exp.fact, Exp.fresh, Exp.blk] at hf1
      clear hf1 q3
      replace k3 := grow_blk hw1 k3
      replace HB := bl_call hw1 HB
      clear hw1
      have hlt3 : (List.take n (textw s)).length = n := by rw [List.length_take, LT.out]; omega
      have cs := blk_cell k3 n
      rw [cw_at _ _ (by rw [padTo_length _ _ (by omega)]; exact hlt)] at cs
      have fs := blk_frozen k3 n
      have hlt4 := Lib.hid hlt3
      clear hlt3
      go_wp2_with fail
      go_roundw
      case measure => simp [intOf] <;> omega
      refine ⟨n + 1, by omega, congrArg (Value.int .i64) (by omega), bl_set _ _ (by simp) HB, ?_⟩
      have := padTo_set s.size (List.take n (textw s)) (at32 (textw s) n) (by rw [hlt4.out]; exact hlt)
      rw [hlt4.out] at this
      rw [List.take_succ_eq_append_getElem (by rw [LT.out]; exact hlt), show (textw s)[n]'(by rw [LT.out]; exact hlt) = at32 (textw s) n by simp [at32, LT.out, hlt], ← this, ← cw_set]
      exact blk_set k3 n _
    · obtain rfl : n = s.size := by omega
      have hlt' : ¬ (s.size : Int) < (s.size : Int) := by omega
      rw [List.take_of_length_le (by rw [LT.out]; omega), padTo_full _ _ LT.out] at k3
      have HS : SliceOf wr (.slice (some ⟨w.heap.size, 0, none⟩) s.size s.size) (textw s) := .inr ⟨w.heap.size, 0, s.size, by rw [LT.out], by omega, fun k hk => by rw [Nat.zero_add, blk_cell k3 k]; exact cw_at _ _ hk⟩
      go_upto_region 8 with (first | (go_at_call 14; refine (hO _ _ HS).mono ?_; rintro e w2 ⟨rfl, hw2⟩) | (go_at_call 13; refine (hK _).mono ?_; rintro e w3 ⟨rfl, hw3⟩) | (refine wpList_store_row rfl _ _ _ rfl w3.heap.size (cw mid) rfl rfl 39 _ (blk_new w3 _) (by rw [cw_size, L8.out]; kernel_rfl) (by rw [cw_size, L8.out]; rfl) (cw_one _) ?_))
      refine gen_world fun W4 hW => ?_
      have k9 : W4.heap[w3.heap.size]? = some (.cells (cw mid) 39 (0, 0)) := by subst hW; exact setRow_blk (blk_new w3 _) _
      have hb2 : Below w3.heap.size w3 W4 := by subst hW; exact bl_row _ _ (Nat.le_refl _) (bl_alloc (Below.refl _ _) _)
      replace HB := bl_call hb2 (bl_call hw3 (bl_call hw2 HB))
      obtain ⟨g9, hg9⟩ : ∃ g, g = w3.heap.size := ⟨_, rfl⟩
      rw [← hg9] at k9 ⊢
      clear hW hb2 hw2 hw3 hg9 k3 HS hO hK
      go_upto_region 13 with (first | (refine wpList_load_row rfl _ _ rfl g9 rfl 39 (cw mid) (0, 0) _ k9 Try.underlying39 rfl (by rw [cw_size, L8.out]; kernel_rfl) ?_) | (go_at_call 16; refine (hBy _).mono ?_; rintro e w4 ⟨g, cap, rfl, hg, HR, hb4⟩))
      replace HB : Below w.heap.size w w4 := bl_call hb4 HB
      clear hb4 hg k9 hBy
      have HO0 : w4.ownsRow w.heap.size 5 1 (.slice none 0 0) 0 ((bw.take 0).map byv) := World.ownsRow_nil _ _ _ _
      have HB0 := HB
      have HR0 := HR
      clear HB HR
      go_loopw [45, 11] (fun i sv wr => ∃ k : Nat, k ≤ 32 ∧ i = .int .i64 (k : Int) ∧ Below w.heap.size w wr ∧ Row wr g 0 bw ∧ wr.ownsRow w.heap.size 5 1 sv k ((bw.take k).map byv) ∧ sv.ownBlock ≠ some g) (fun i _ _ => 32 - (intOf i).toNat)
      case atStart => exact ⟨0, by omega, rfl, HB0, HR0, HO0, by simp [Value.ownBlock]⟩
      case round =>
        clear HB0 HR0 HO0
        obtain ⟨k, hk, rfl, HB, HR, HO, hne⟩ := hrel
        have pk : (0 : Int) ≤ (k : Int) := by omega
        by_cases hlt2 : k < 32
        · have hlt3 : (k : Int) < 32 := by omega
          have ck : wr.cell? ⟨g, k, none⟩ = some (.int .u32 (iw (at32 bw k))) := by have := HR k (by rw [LB.out]; exact hlt2); rwa [Nat.zero_add] at this
          have qg := cell_lt' ck
          go_upto_region 14 with (fail)
          refine wp_region_R 4 [43, 45] (by kernel_rfl) (by kernel_rfl) (by kernel_rfl) (by kernel_rfl) ?_
          intro K_ ops_ hops_ hK
          replace hops_ := Lib.hid hops_
          apply Exists.intro
          intro R_ hb_
          simp only [↓baseR, ↓nthR_succ, ↓nthR_zero] at hb_
          simp only [List.take_succ_cons, List.take_zero, List.drop_succ_cons, List.drop_zero]
          repeat (first
            
            | (apply LexR_put (j := 2) (ho := rfl); (go_simp; rfl); (go_simp; rfl); rfl; rfl; (focus (first | decide | (simp; done))); rfl; rfl; kernel_rfl; kernel_rfl; (first | exact cw_one _ | simp [Value.oneCell']); (first | (rw [cw_size, L64.out]; rfl) | (rw [cw_size, L8.out]; rfl) | (rw [cw_size]; rfl) | rfl); intro _)
            
            | (apply LexR_det (by rfl) (by rfl) (by rfl) (fun w1 hw1 hd1 => ?_) (fun _ hr_ => ?_); rotate_right 2; (go_simp; first | done | rfl | (rw [grow_cell hw1 ck]; focus ((try simp); first | done | rfl))))
            | (apply LexR_box (by rfl) (by rfl) (by rfl) (fun w1 hw1 hd1 => ?_) (fun _ hr_ => ?_); rotate_right 2; (go_simp; first | done | rfl))
            | (apply LexR_bs (t := 34) (e := 37) (z := .agg #[.int .u32 0]) (ho := rfl) (by rfl) (by rfl) Try.underlying34 (by kernel_rfl) (by decide) (by decide) (fun _ => ?_) (fun _ => ?_) (fun _ => ?_) (fun _ hr_ => ?_); rotate_right 4; (go_simp; rfl); (exact ⟨rfl, rfl, rfl⟩); (simp only [List.map_cons, List.map_nil, List.flatMap_cons, List.flatMap_nil, Value.cells, List.cons_append, List.nil_append, List.append_nil]; rfl)))
          apply LexR_end
          refine hK _ _ ?_
          clear hK K_
          repeat clear hr_
          clear hb_ R_ hops_ ops_
          intro w1 hw1 hf1
          apply tailR (fun _ => ?_) (fun _ => ?_) ?_
          rotate_right 2
          · simp only [putAll, Act.put, List.setIfInBounds_toArray, List.set_cons_succ, List.set_cons_zero]; first | done | rfl
          · simp only [List.drop_succ_cons, List.drop_zero]; first | done | rfl
          simp [allFacts, contOf, Exp.putAt, Exp.fact, Exp.fresh, Exp.blk] at hf1
          obtain ⟨k8, l8⟩ := hf1
          obtain ⟨g8, e_⟩ := name_blk k8
          subst e_
          replace HB := bl_call hw1 HB
          replace HR := HR.grow hw1
          replace HO := ownsRow_block HO fun g hg => hw1.block g (ownsRow_lt HO hg).2
          clear hw1 l8 ck qg
          go_upto_region 15 with (fail)
          have q8 := blk_lt k8
          refine wp_region_R 6 [11, 12, 14] (by kernel_rfl) (by kernel_rfl) (by kernel_rfl) (by kernel_rfl) ?_
          intro K_ ops_ hops_ hK
          replace hops_ := Lib.hid hops_
          apply Exists.intro
          intro R_ hb_
          simp only [↓baseR, ↓nthR_succ, ↓nthR_zero] at hb_
          simp only [List.take_succ_cons, List.take_zero, List.drop_succ_cons, List.drop_zero]
          repeat (first
            
            | (apply LexR_bs (t := 22) (e := 5) (z := .int .u8 0) (ho := rfl) (by rfl) (by rfl) Try.underlying22 (by kernel_rfl) (by decide) (by decide) (fun _ => ?_) (fun _ => ?_) (fun _ => ?_) (fun _ hr_ => ?_); rotate_right 4; (go_simp; rfl); (exact ⟨rfl, rfl, rfl⟩); (simp only [List.map_cons, List.map_nil, List.flatMap_cons, List.flatMap_nil, Value.cells, List.cons_append, List.nil_append, List.append_nil]; rfl))
            | (apply LexR_callF (f := 17) (by rfl) (by rfl) (by rfl) Try.func17 (by kernel_rfl) (by kernel_rfl) (fun _ => ?_) (fun w1 hw1 hd1 => ?_) (fun _ hr_ => ?_); rotate_right 3; (go_simp; first | done | rfl); exact (Release_nil_c _ w1))
            | (apply LexR_det (by rfl) (by rfl) (by rfl) (fun w1 hw1 hd1 => ?_) (fun _ hr_ => ?_); rotate_right 2; (go_simp; first | done | rfl | (rw [blk_cell (grow_blk hw1 k8)]; focus ((try simp); first | done | rfl))))
            | (apply LexR_box (by rfl) (by rfl) (by rfl) (fun w1 hw1 hd1 => ?_) (fun _ hr_ => ?_); rotate_right 2; (go_simp; first | done | rfl))
            | (apply LexR_bs (t := 34) (e := 37) (z := .agg #[.int .u32 0]) (ho := rfl) (by rfl) (by rfl) Try.underlying34 (by kernel_rfl) (by decide) (by decide) (fun _ => ?_) (fun _ => ?_) (fun _ => ?_) (fun _ hr_ => ?_); rotate_right 4; (go_simp; rfl); (exact ⟨rfl, rfl, rfl⟩); (simp only [List.map_cons, List.map_nil, List.flatMap_cons, List.flatMap_nil, Value.cells, List.cons_append, List.nil_append, List.append_nil]; rfl)))
          apply LexR_end
          refine hK _ _ ?_
          clear hK K_
          repeat clear hr_
          clear hb_ R_ hops_ ops_
          intro w1 hw1 hf1
          apply tailR (fun _ => ?_) (fun _ => ?_) ?_
          rotate_right 2
          · simp only [putAll, Act.put, List.setIfInBounds_toArray, List.set_cons_succ, List.set_cons_zero]; first | done | rfl
          · simp only [List.drop_succ_cons, List.drop_zero]; first | done | rfl
          simp [allFacts, contOf, Exp.putAt, Exp.fact, Exp.fresh, Exp.blk] at hf1
          obtain ⟨k39, l39⟩ := hf1
          obtain ⟨g39, e_⟩ := name_blk k39
          subst e_
          rw [wrap_byte] at k39
          replace HB := bl_call hw1 HB
          replace HR := HR.grow hw1
          replace HO := ownsRow_block HO fun g hg => hw1.block g (ownsRow_lt HO hg).2
          clear hw1 l39 q8 k8
          have c39 := blk_cell k39 0
          refine wpList_app1 rfl _ _ 22 rfl w.heap.size 5 (.int .u8 0) 1 Try.underlying22 (by kernel_rfl) rfl (by decide) u11 k _ rfl HO g39 1 (byv (at32 bw k)) rfl c39 rfl (by omega) HB.size ?_
          intro g3 cap3 W2 hO hgr hsv hgl
          have qg : g < w1.heap.size := cell_lt' (HR k (by rw [LB.out]; exact hlt2))
          replace HR : Row W2 g 0 bw := HR.block (hgr.block g qg fun q => hne q.symm)
          replace HB := grown_below HB hgr HB.size fun g hg' => (ownsRow_lt HO hg').1
          have hne2 : (Value.slice (some ⟨g3, 0, none⟩) (k + 1) cap3).ownBlock ≠ some g := by
            intro z
            have e : g3 = g := by simpa [Value.ownBlock] using z
            rcases hsv with q | q
            · exact hne (by rw [q, e])
            · omega
          replace HO : W2.ownsRow w.heap.size 5 1 (.slice (some ⟨g3, 0, none⟩) (k + 1) cap3) (k + 1) ((bw.take (k + 1)).map byv) := by
            rw [List.take_succ_eq_append_getElem (by rw [LB.out]; exact hlt2), List.map_append, show bw[k]'(by rw [LB.out]; exact hlt2) = at32 bw k by simp [at32, LB.out, hlt2]]
            exact hO
          generalize (Value.slice (some ⟨g3, 0, none⟩) (k + 1) cap3) = sv2 at HO hne2 ⊢
          clear hO hgr hsv hgl c39 k39 qg
          go_wp2_with fail
          go_roundw
          case measure => simp [intOf] <;> omega
          refine ⟨k + 1, by omega, congrArg (Value.int .i64) (by omega), HB, HR, HO, hne2⟩
        · obtain rfl : k = 32 := by omega
          have hlt3 : ¬ ((32 : Nat) : Int) < 32 := by omega
          rw [List.take_of_length_le (by rw [LB.out]; omega)] at HO
          obtain ⟨g3, cap3, rfl, _, _⟩ := World.ownsRow.form HO (by omega)
          have hcell : ∀ i, i < 32 → wr.cell? ⟨g3, 0 + i, none⟩ = some (.int .u8 ((bw.map byteN).getD i 0)) := fun i hi => by
            rw [Nat.zero_add, World.ownsRow.cellAt HO i (by omega)]
            simp [byv, LB.out, hi]
          go_upto_region 17 with (fail)
          refine wp_region_R 3 [11] (by kernel_rfl) (by kernel_rfl) (by kernel_rfl) (by kernel_rfl) ?_
          intro K_ ops_ hops_ hK
          replace hops_ := Lib.hid hops_
          apply Exists.intro
          intro R_ hb_
          simp only [↓baseR, ↓nthR_succ, ↓nthR_zero] at hb_
          simp only [List.take_succ_cons, List.take_zero, List.drop_succ_cons, List.drop_zero]
          repeat (first
            
            | (apply LexR_det (by rfl) (by rfl) (by rfl) (fun w1 hw1 hd1 => ?_) (fun _ hr_ => ?_); rotate_right 2; (refine run_convert_bytesR (cap := cap3) rfl ?_ Try.underlying22 Try.underlying5 Try.underlying9 (bw.map byteN) (by rw [List.length_map, LB.out]) (fun i hi => by rw [hw1.cell (cell_lt' (hcell i hi))]; exact hcell i hi); (focus (go_simp; done))))
            
            | (apply LexR_det (by rfl) (by rfl) (by rfl) (fun w1 hw1 hd1 => ?_) (fun _ hr_ => ?_); rotate_right 2; (go_simp; first | done | rfl ))
            | (apply LexR_box (by rfl) (by rfl) (by rfl) (fun w1 hw1 hd1 => ?_) (fun _ hr_ => ?_); rotate_right 2; (go_simp; first | done | rfl))
            | (apply LexR_bs (t := 34) (e := 37) (z := .agg #[.int .u32 0]) (ho := rfl) (by rfl) (by rfl) Try.underlying34 (by kernel_rfl) (by decide) (by decide) (fun _ => ?_) (fun _ => ?_) (fun _ => ?_) (fun _ hr_ => ?_); rotate_right 4; (go_simp; rfl); (exact ⟨rfl, rfl, rfl⟩); (simp only [List.map_cons, List.map_nil, List.flatMap_cons, List.flatMap_nil, Value.cells, List.cons_append, List.nil_append, List.append_nil]; rfl)))
          apply LexR_end
          refine hK _ _ ?_
          clear hK K_
          repeat clear hr_
          clear hb_ R_ hops_ ops_
          intro w1 hw1 hf1
          apply tailR (fun _ => ?_) (fun _ => ?_) ?_
          rotate_right 2
          · simp only [putAll, Act.put, List.setIfInBounds_toArray, List.set_cons_succ, List.set_cons_zero]; first | done | rfl
          · simp only [List.drop_succ_cons, List.drop_zero]; first | done | rfl
          simp [allFacts, contOf, Exp.putAt, Exp.fact, Exp.fresh, Exp.blk] at hf1
          rw [strOfNums_bytes]
          replace HB := bl_call hw1 HB
          go_wp2
          exact bodyPost_ret (v := .string fin) (by simp [results, Try.results7, go_sem, hfin.out]) rfl ⟨rfl, HB⟩
end Go.Proofs.Yteaaaekffnfmhab

/- The law PbkdfKeys. -/
import Derived.Test.YteaaaekffnfmhabL18a
namespace Go.Proofs.Yteaaaekffnfmhab
open Go.RowKit Go.Lib
set_option maxRecDepth 100000
set_option linter.unusedSimpArgs false
set_option linter.unusedVariables false
attribute [local go_sem] evR_tmp evR_const evR_global evR_func
/-- Bytes as words. -/
def wrdB (bs : List UInt8) : List W32 := bs.map fun b => kw b.toNat
theorem wrdB_length (bs : List UInt8) : (wrdB bs).length = bs.length := by rw [wrdB, List.length_map]
theorem wrdB_at (bs : List UInt8) (k : Nat) (h : k < bs.length) : (bs[k].toNat : Int) % 4294967296 = iw (at32 (wrdB bs) k) := by
  have hb := bs[k].toNat_lt
  rw [show at32 (wrdB bs) k = kw bs[k].toNat by simp [at32, wrdB, h]]
  exact conv_kw _ (by omega)
theorem low_wrdB (bs : List UInt8) : lowB (wrdB bs) = bs := by
  unfold lowB wrdB
  rw [List.map_map]
  conv => rhs; rw [← List.map_id bs]
  apply List.map_congr_left
  intro b _
  exact byteOf_kw b
set_option maxHeartbeats 4000000 in
theorem pPlain_no_c (s salt : ByteArray) (hs : s.size ≤ 100000) (n : Int) (hn : n < 1 ∨ 16777216 < n) (w : World) : Calls Try.prog 7 #[.string s, .string salt, .int .i64 n] w fun e w' => e = .returned (.string ⟨#[]⟩) ∧ Below w.heap.size w w' := by
  have hO : ∀ (sv : Value) (w1 : World), SliceOf w1 sv (textw s) → Calls Try.prog 14 #[sv] w1 fun e w' => e = .returned (.agg (cw (stateW (keyB s.data.toList)))) ∧ Below w1.heap.size w1 w' := fun sv w1 h => by
    have := hOf_c (textw s) sv w1 (by rw [textw_length]; omega) h
    rw [low_textw] at this
    exact this
  have hK := fun w => pKey_no_c (stateW (keyB s.data.toList)) (stateW_length _) salt n hn w
  have L8 : zero8.length = 8 := rfl
  replace L8 := Lib.hid L8
  generalize zero8 = mid at hK L8
  generalize stateW (keyB s.data.toList) = st at hO hK
  have hs' : s.size ≤ 1000000 := by omega
  clear hn
  go_enter Try.func7, Try.ntmps7
  go_upto_region 1 with (fail)
  go_wp2_with (first | (refine wpList_makeN rfl _ _ 34 rfl 37 (.agg #[.int .u32 0]) (.int .u32 0) 8 Try.underlying34 (by kernel_rfl) rfl (by omega) _ s.size rfl rfl rfl hs' ?_))
  refine gen_world fun W hW => ?_
  have k3 : W.heap[w.heap.size]? = some (.cells (cw (padTo s.size ((textw s).take 0))) 37 (0, 0)) := by subst hW; rw [show (textw s).take 0 = [] from rfl, padTo_nil]; exact blk_new _ _
  have HB : Below w.heap.size w W := by subst hW; (repeat (first | exact Below.refl _ _ | (refine bl_alloc ?_ _) | (refine bl_drewN ?_ _) | (refine bl_drew ?_) | (refine bl_call (by assumption) ?_) | (refine bl_set _ _ (by simp <;> omega) ?_) | assumption))
  clear hW
  have LT := Lib.hid (textw_length s)
  have k30 := k3
  have HB0 := HB
  clear k3 HB
  go_loopw [20] (fun i wr => ∃ n : Nat, n ≤ s.size ∧ i = .int .i64 (n : Int) ∧ Below w.heap.size w wr ∧ wr.heap[w.heap.size]? = some (.cells (cw (padTo s.size ((textw s).take n))) 37 (0, 0))) (fun i _ => s.size - (intOf i).toNat)
  case atStart => exact ⟨0, by omega, rfl, HB0, k30⟩
  case round =>
    clear HB0 k30
    obtain ⟨n, hn, rfl, HB, k3⟩ := hrel
    have pn : (0 : Int) ≤ (n : Int) := by omega
    by_cases hlt : n < s.size
    · have hlt' : (n : Int) < (s.size : Int) := by omega
      have q3 := blk_lt k3
      go_upto_region 5 with (fail)
      refine wp_region_R 8 [0, 7, 8] (by kernel_rfl) (by kernel_rfl) (by kernel_rfl) (by kernel_rfl) ?_
      intro K_ ops_ hops_ hK
      replace hops_ := Lib.hid hops_
      apply Exists.intro
      intro R_ hb_
      simp only [↓baseR, ↓nthR_succ, ↓nthR_zero] at hb_
      simp only [List.take_succ_cons, List.take_zero, List.drop_succ_cons, List.drop_zero]
      repeat (first
        
        
        | (apply LexR_callF (f := 12) (by rfl) (by rfl) (by rfl) Try.func12 (by kernel_rfl) (by kernel_rfl) (fun _ => ?_) (fun w1 hw1 hd1 => ?_) (fun _ hr_ => ?_); rotate_right 3; (go_simp; first | done | rfl); exact (Of_c _ (at32 (textw s) n) (text_at s n hlt) w1))
        | (apply LexR_det (by rfl) (by rfl) (by rfl) (fun w1 hw1 hd1 => ?_) (fun _ hr_ => ?_); rotate_right 2; (go_simp; first | done | rfl ))
        | (apply LexR_box (by rfl) (by rfl) (by rfl) (fun w1 hw1 hd1 => ?_) (fun _ hr_ => ?_); rotate_right 2; (go_simp; first | done | rfl))
        | (apply LexR_bs (t := 34) (e := 37) (z := .agg #[.int .u32 0]) (ho := rfl) (by rfl) (by rfl) Try.underlying34 (by kernel_rfl) (by decide) (by decide) (fun _ => ?_) (fun _ => ?_) (fun _ => ?_) (fun _ hr_ => ?_); rotate_right 4; (go_simp; rfl); (exact ⟨rfl, rfl, rfl⟩); (simp only [List.map_cons, List.map_nil, List.flatMap_cons, List.flatMap_nil, Value.cells, List.cons_append, List.nil_append, List.append_nil]; rfl)))
      apply LexR_end
      refine hK _ _ ?_
      clear hK K_
      repeat clear hr_
      clear hb_ R_ hops_ ops_
      intro w1 hw1 hf1
      apply tailR (fun _ => ?_) (fun _ => ?_) ?_
      rotate_right 2
      · simp only [putAll, Act.put, List.setIfInBounds_toArray, List.set_cons_succ, List.set_cons_zero]; first | done | rfl
      · simp only [List.drop_succ_cons, List.drop_zero]; first | done | rfl
      simp [allFacts, contOf, Exp.putAt, Exp.fact, Exp.fresh, Exp.blk] at hf1
      clear hf1 q3
      replace k3 := grow_blk hw1 k3
      replace HB := bl_call hw1 HB
      clear hw1
      have hlt3 : (List.take n (textw s)).length = n := by rw [List.length_take, LT.out]; omega
      have cs := blk_cell k3 n
      rw [cw_at _ _ (by rw [padTo_length _ _ (by omega)]; exact hlt)] at cs
      have fs := blk_frozen k3 n
      have hlt4 := Lib.hid hlt3
      clear hlt3
      go_wp2_with fail
      go_roundw
      case measure => simp [intOf] <;> omega
      refine ⟨n + 1, by omega, congrArg (Value.int .i64) (by omega), bl_set _ _ (by simp) HB, ?_⟩
      have := padTo_set s.size (List.take n (textw s)) (at32 (textw s) n) (by rw [hlt4.out]; exact hlt)
      rw [hlt4.out] at this
      rw [List.take_succ_eq_append_getElem (by rw [LT.out]; exact hlt), show (textw s)[n]'(by rw [LT.out]; exact hlt) = at32 (textw s) n by simp [at32, LT.out, hlt], ← this, ← cw_set]
      exact blk_set k3 n _
    · obtain rfl : n = s.size := by omega
      have hlt' : ¬ (s.size : Int) < (s.size : Int) := by omega
      rw [List.take_of_length_le (by rw [LT.out]; omega), padTo_full _ _ LT.out] at k3
      have HS : SliceOf wr (.slice (some ⟨w.heap.size, 0, none⟩) s.size s.size) (textw s) := .inr ⟨w.heap.size, 0, s.size, by rw [LT.out], by omega, fun k hk => by rw [Nat.zero_add, blk_cell k3 k]; exact cw_at _ _ hk⟩
      go_wp2_with (first | (go_at_call 14; refine (hO _ _ HS).mono ?_; rintro e w2 ⟨rfl, hw2⟩) | (go_at_call 13; refine (hK _).mono ?_; rintro e w3 ⟨rfl, hw3⟩) | (refine wpList_store_row rfl _ _ _ rfl w3.heap.size (cw mid) rfl rfl 39 _ (blk_new w3 _) (by rw [cw_size, L8.out]; kernel_rfl) (by rw [cw_size, L8.out]; rfl) (cw_one _) ?_))
      exact bodyPost_ret (v := .string ⟨#[]⟩) (by simp [results, Try.results7, go_sem]) rfl ⟨rfl, bl_row _ _ (Nat.le_trans HB.size (Nat.le_trans hw2.size hw3.size)) (bl_alloc (bl_call hw3 (bl_call hw2 HB)) _)⟩
theorem PbkdfKeys_A (bs : List UInt8) (sv : Value) (s : ByteArray) (n : Int) (w : World) (hm : bs.length ≤ maxLen) (hk : 100 < bs.length) (hb : RowB w sv bs) : Calls Try.prog 5 #[sv, .string s, .int .i64 n] w fun e w' => e = .returned (.bool true) ∧ Below w.heap.size w w' := by
  obtain ⟨ao, cap, rfl, _, _⟩ := hb
  unfold maxLen at hm
  have h1 : (100 : Int) < (bs.length : Int) := by omega
  go_enter Try.func5, Try.ntmps5
  go_wp2_with (go_at_call 6; refine (awake18_c _).mono ?_; rintro e w1 ⟨rfl, HB0⟩)
  exact bodyPost_ret (v := .bool true) (by simp [results, Try.results5, go_sem]) rfl ⟨rfl, HB0⟩
theorem PbkdfKeys_B (bs : List UInt8) (sv : Value) (s : ByteArray) (n : Int) (w : World) (hm : s.size ≤ maxLen) (hk : bs.length ≤ 100) (hs : 80 < s.size) (hb : RowB w sv bs) : Calls Try.prog 5 #[sv, .string s, .int .i64 n] w fun e w' => e = .returned (.bool true) ∧ Below w.heap.size w w' := by
  obtain ⟨ao, cap, rfl, _, _⟩ := hb
  unfold maxLen at hm
  have h1 : ¬ (100 : Int) < (bs.length : Int) := by omega
  have h2 : (80 : Int) < (s.size : Int) := by omega
  go_enter Try.func5, Try.ntmps5
  go_wp2_with (go_at_call 6; refine (awake18_c _).mono ?_; rintro e w1 ⟨rfl, HB0⟩)
  exact bodyPost_ret (v := .bool true) (by simp [results, Try.results5, go_sem]) rfl ⟨rfl, HB0⟩
theorem PbkdfKeys_C (bs : List UInt8) (sv : Value) (s : ByteArray) (n : Int) (w : World) (hs : s.size ≤ 80) (hk : bs.length ≤ 100) (h20 : 20 < n) (hn : n ≤ 16777216) (hb : RowB w sv bs) : Calls Try.prog 5 #[sv, .string s, .int .i64 n] w fun e w' => e = .returned (.bool true) ∧ Below w.heap.size w w' := by
  obtain ⟨ao, cap, rfl, _, _⟩ := hb
  have h1 : ¬ (100 : Int) < (bs.length : Int) := by omega
  have h2 : ¬ (80 : Int) < (s.size : Int) := by omega
  have h3 : decide (20 < n) = true := by simp [h20]
  have h4 : decide (n ≤ 16777216) = true := by simp [hn]
  go_enter Try.func5, Try.ntmps5
  go_wp2_with (go_at_call 6; refine (awake18_c _).mono ?_; rintro e w1 ⟨rfl, HB0⟩)
  exact bodyPost_ret (v := .bool true) (by simp [results, Try.results5, go_sem]) rfl ⟨rfl, HB0⟩
end Go.Proofs.Yteaaaekffnfmhab

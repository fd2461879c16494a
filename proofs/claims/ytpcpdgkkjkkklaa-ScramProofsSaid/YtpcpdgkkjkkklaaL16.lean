/- The law ShaSteps, and what the laws of layer 16 share. -/
import Derived.Test.YtpcpdgkkjkkklaaSm
import Derived.Test.YtpcpdgkkjkkklaaR2
namespace Go.Proofs.Ytpcpdgkkjkkklaa
open Go.RowKit
set_option maxRecDepth 100000
set_option linter.unusedSimpArgs false
set_option linter.unusedVariables false
attribute [local go_sem] evR_tmp evR_const evR_global evR_func
theorem abc_sum : (sumText ⟨#[97, 98, 99]⟩).toList = [186, 120, 22, 191, 143, 1, 207, 234, 65, 65, 64, 222, 93, 174, 34, 35, 176, 3, 97, 163, 150, 23, 122, 156, 180, 16, 255, 97, 242, 0, 21, 173] := by decide +kernel
theorem Is_c (h : List W32) (hh : h.length = 8) (w : World) : Calls Try.prog 34 #[.agg (cw h), .agg (cw h)] w fun e w' => e = .returned (.bool true) ∧ Below w.heap.size w w' := by
  have L8 := Lib.hid hh
  clear hh
  go_enter Try.func34, Try.ntmps34
  go_upto_region 1 with (fail)
  refine gen_world fun W hW => ?_
  have k2 : W.heap[w.heap.size]? = some (.cells (cw h) 37 (0, 0)) := by subst hW; (repeat (first | (with_reducible assumption) | ((with_reducible refine blk_new' ?_ _); (simp; done)) | ((with_reducible refine blk_alloc ?_ _)) | ((with_reducible refine blk_far ?_ ?_ _); (simp <;> omega))))
  have k3 : W.heap[w.heap.size + 1]? = some (.cells (cw h) 33 (0, 0)) := by subst hW; (repeat (first | (with_reducible assumption) | ((with_reducible refine blk_new' ?_ _); (simp; done)) | ((with_reducible refine blk_alloc ?_ _)) | ((with_reducible refine blk_far ?_ ?_ _); (simp <;> omega))))
  have HB : Below w.heap.size w W := by subst hW; (repeat (first | exact Below.refl _ _ | (refine bl_alloc ?_ _) | (refine bl_drewN ?_ _) | (refine bl_drew ?_) | (refine bl_call (by assumption) ?_) | (refine bl_set _ _ (by simp <;> omega) ?_) | assumption))
  clear hW
  go_wp2_with fail
  have k20 := k2
  have k30 := k3
  have HB0 := HB
  clear k2 k3 HB
  go_loopw [6] (fun i wr => ∃ n : Nat, n ≤ 8 ∧ i = .int .i64 (n : Int) ∧ Below w.heap.size w wr ∧ wr.heap[w.heap.size]? = some (.cells (cw h) 37 (0, 0)) ∧ wr.heap[w.heap.size + 1]? = some (.cells (cw h) 33 (0, 0))) (fun i _ => 8 - (intOf i).toNat)
  case atStart => exact ⟨0, by omega, rfl, HB0, k20, k30⟩
  case round =>
    clear HB0 k20 k30
    obtain ⟨n, hn, rfl, HB, k2, k3⟩ := hrel
    have pn : (0 : Int) ≤ (n : Int) := by omega
    by_cases hlt : n < 8
    · have hlt' : (n : Int) < 8 := by omega
      have c2 := blk_cell k2 n
      rw [cw_at _ _ (by rw [L8.out]; exact hlt)] at c2
      have c3 := blk_cell k3 n
      rw [cw_at _ _ (by rw [L8.out]; exact hlt)] at c3
      go_upto_region 4 with (fail)
      refine wp_region_R 9 [2, 3, 5] (by kernel_rfl) (by kernel_rfl) (by kernel_rfl) (by kernel_rfl) ?_
      intro K_ ops_ hops_ hK
      replace hops_ := Lib.hid hops_
      apply Exists.intro
      intro R_ hb_
      simp only [↓baseR, ↓nthR_succ, ↓nthR_zero] at hb_
      simp only [List.take_succ_cons, List.take_zero, List.drop_succ_cons, List.drop_zero]
      repeat (first
        
        
        | (apply LexR_new (f := 48) (by rfl) (by rfl) (by rfl) Try.func48 (by kernel_rfl) (by kernel_rfl) (fun _ => ?_) (fun w1 hw1 hd1 => ?_) (fun _ hr_ => ?_); rotate_right 3; (go_simp; first | done | rfl); exact (NewLog_c w1)) | (apply LexR_use (f := 39) (j := 0) (by rfl) (by rfl) (by rfl) Try.func39 (by kernel_rfl) (by kernel_rfl) (fun _ => ?_) (by simp) rfl (by simp) rfl rfl (fun w1 hw1 hg1 hk1 => ?_) (fun _ hr_ => ?_); rotate_right 3; (go_simp; first | done | rfl); exact (Release_new_c _ _ _ w1 hk1 hg1))
        | (apply LexR_det (by rfl) (by rfl) (by rfl) (fun w1 hw1 hd1 => ?_) (fun _ hr_ => ?_); rotate_right 2; (go_simp; first | done | rfl | (rw [grow_cell hw1 c2]; focus ((try simp); first | done | rfl)) | (rw [grow_cell hw1 c3]; focus ((try simp); first | done | rfl))))
        | (apply LexR_box (by rfl) (by rfl) (by rfl) (fun w1 hw1 hd1 => ?_) (fun _ hr_ => ?_); rotate_right 2; (go_simp; first | done | rfl))
        | (apply LexR_bs (t := 60) (e := 36) (z := .agg #[.int .u32 0]) (ho := rfl) (by rfl) (by rfl) Try.underlying60 (by kernel_rfl) (by decide) (by decide) (fun _ => ?_) (fun _ => ?_) (fun _ => ?_) (fun _ hr_ => ?_); rotate_right 4; (go_simp; rfl); (exact ⟨rfl, rfl, rfl⟩); (simp only [List.map_cons, List.map_nil, List.flatMap_cons, List.flatMap_nil, Value.cells, List.cons_append, List.nil_append, List.append_nil]; rfl)))
      apply LexR_end
      refine hK _ _ ?_
      clear hK K_
      repeat clear hr_
      clear hb_ R_ hops_ ops_
      intro w1 hw1 hf1
      apply tailR (fun _ => ?_) (fun _ => ?_) ?_
      rotate_right 2
      · simp only [putAll, Act.put, List.setIfInBounds_toArray, List.set_cons_succ, List.set_cons_zero]; first | done | rfl
      · simp only [List.drop_succ_cons, List.drop_zero]; first | done | rfl
      simp [allFacts, contOf, Exp.putAt, Exp.fact, Exp.fresh, Exp.blk] at hf1
      clear hf1 c2 c3
      replace k2 := grow_blk hw1 k2
      replace k3 := grow_blk hw1 k3
      replace HB := bl_call hw1 HB
      clear hw1
      go_wp2_with fail
      go_roundw
      case measure => simp [intOf] <;> omega
      exact ⟨n + 1, by omega, congrArg (Value.int .i64) (by omega), HB, k2, k3⟩
    · obtain rfl : n = 8 := by omega
      go_wp2
      exact bodyPost_ret (v := .bool true) (by simp [results, Try.results34, go_sem]) rfl ⟨rfl, HB⟩
/-- The first n words, noughts behind. -/
theorem pad_take_set (m : Nat) (h : List W32) (hm : h.length = m) (n : Nat) (hn : n < m) : (padTo m (h.take n)).set n (at32 h n) = padTo m (h.take (n + 1)) := by
  have := padTo_set m (h.take n) (at32 h n) (by simp; omega)
  rw [show (h.take n).length = n by simp; omega] at this
  rw [this, List.take_succ_eq_append_getElem (show n < h.length by omega)]
  simp [at32, hm, hn]
theorem pad_take_len (m : Nat) (h : List W32) (hm : h.length = m) (n : Nat) (hn : n ≤ m) : (padTo m (h.take n)).length = m := padTo_length _ _ (by simp; omega)
theorem pad_take_end (m : Nat) (h : List W32) (hm : h.length = m) : padTo m (h.take m) = h := by
  rw [List.take_of_length_le (by omega), padTo_full _ _ hm]
end Go.Proofs.Ytpcpdgkkjkkklaa

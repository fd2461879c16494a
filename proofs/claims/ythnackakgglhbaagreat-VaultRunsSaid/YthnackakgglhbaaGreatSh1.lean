/- Contracts of package sha's small functions: xor, sum, .. -/
import Derived.Test.YthnackakgglhbaaGreatCt
import Derived.Test.YthnackakgglhbaaGreatLex
import Derived.Test.YthnackakgglhbaaGreatSha
import Derived.Outline
import Derived.LoopTactic
namespace Go.Proofs.YthnackakgglhbaaGreat
open Go.RowKit
set_option maxRecDepth 100000
set_option linter.unusedSimpArgs false
set_option linter.unusedVariables false
theorem xor3_eq (x y z : W32) : x ^^^ y ^^^ z = xor3 x y z := rfl
attribute [local go_sem] xor3_eq
set_option maxHeartbeats 1000000 in
theorem xor3_c (x y z : W32) (w : World) : Calls Tryz.prog 111 #[.agg #[.int .u32 (iw x)], .agg #[.int .u32 (iw y)], .agg #[.int .u32 (iw z)]] w fun e w' => e = .returned (.agg #[.int .u32 (iw (xor3 x y z))]) ∧ Below w.heap.size w w' := by
  go_enter Tryz.func111, Tryz.ntmps111
  go_upto_region 1 with (fail)
  refine gen_world fun W hW => ?_
  have k1 : W.heap[w.heap.size]? = some (.cells #[.int .u32 (iw x)] 80 (0, 0)) := by subst hW; (repeat (first | (with_reducible assumption) | ((with_reducible refine blk_new' ?_ _); (simp; done)) | ((with_reducible refine blk_alloc ?_ _)) | ((with_reducible refine blk_far ?_ ?_ _); (simp <;> omega))))
  have k2 : W.heap[w.heap.size + 1]? = some (.cells #[.int .u32 (iw y)] 80 (0, 0)) := by subst hW; (repeat (first | (with_reducible assumption) | ((with_reducible refine blk_new' ?_ _); (simp; done)) | ((with_reducible refine blk_alloc ?_ _)) | ((with_reducible refine blk_far ?_ ?_ _); (simp <;> omega))))
  have k3 : W.heap[w.heap.size + 1 + 1]? = some (.cells #[.int .u32 (iw z)] 80 (0, 0)) := by subst hW; (repeat (first | (with_reducible assumption) | ((with_reducible refine blk_new' ?_ _); (simp; done)) | ((with_reducible refine blk_alloc ?_ _)) | ((with_reducible refine blk_far ?_ ?_ _); (simp <;> omega))))
  have k4 : W.heap[w.heap.size + 1 + 1 + 1]? = some (.cells #[.int .u32 0] 80 (0, 0)) := by subst hW; (repeat (first | (with_reducible assumption) | ((with_reducible refine blk_new' ?_ _); (simp; done)) | ((with_reducible refine blk_alloc ?_ _)) | ((with_reducible refine blk_far ?_ ?_ _); (simp <;> omega))))
  have HB : Below w.heap.size w W := by subst hW; (repeat (first | exact Below.refl _ _ | (refine bl_alloc ?_ _) | (refine bl_drewN ?_ _) | (refine bl_drew ?_) | (refine bl_call (by assumption) ?_) | (refine bl_set _ _ (by simp <;> omega) ?_) | assumption))
  clear hW
  refine wp_region_lexK 5 (by kernel_rfl) (by kernel_rfl) ?_
  intro K_ ops_ _ hK
  apply Exists.intro
  simp only [List.take_succ_cons, List.take_zero, List.drop_succ_cons, List.drop_zero]
  repeat (first
    
    
    | (apply Lex_det (by rfl) (by rfl) (fun w1 hw1 hd1 => ?_) (fun _ => ?_) (fun _ => ?_); rotate_left 3; (go_simp; first | done | rfl | (rw [blk_cell (grow_blk hw1 k1)]; focus ((try simp); first | done | rfl)) | (rw [blk_cell (grow_blk hw1 k2)]; focus ((try simp); first | done | rfl)) | (rw [blk_cell (grow_blk hw1 k3)]; focus ((try simp); first | done | rfl))); (simp only [Act.put, List.setIfInBounds_toArray, List.set_cons_succ, List.set_cons_zero]; first | done | rfl))
    | (apply Lex_box (by rfl) (by rfl) (fun w1 hw1 hd1 => ?_) (fun _ => ?_) (fun _ => ?_); rotate_left 4; (go_simp; first | done | rfl); (simp only [Act.put, List.setIfInBounds_toArray, List.set_cons_succ, List.set_cons_zero]; first | done | rfl))
    | (apply Lex_bs (t := 76) (e := 80) (z := .agg #[.int .u32 0]) (ho := rfl) (by rfl) Tryz.underlying76 (by kernel_rfl) (by decide) (by decide) (fun _ => ?_) (fun _ => ?_) (fun _ => ?_) (fun _ => ?_) (fun _ => ?_); rotate_left 4; (go_simp; rfl); (exact ⟨rfl, rfl, rfl⟩); (simp only [List.map_cons, List.map_nil, List.flatMap_cons, List.flatMap_nil, Value.cells, List.cons_append, List.nil_append, List.append_nil]; rfl); (simp only [Act.put, List.setIfInBounds_toArray, List.set_cons_succ, List.set_cons_zero]; first | done | rfl))
    | (apply Lex_call (by rfl) (by rfl) (fun w1 => ?_) (fun w1 hw1 hd1 => ?_) (fun _ => ?_) (fun _ => ?_); rotate_left 5; (go_simp; first | done | exact ⟨rfl, rfl⟩ | rfl); (first | (go_at_call 113; exact (Xor_c _ _ w1))); (simp only [Act.put, List.setIfInBounds_toArray, List.set_cons_succ, List.set_cons_zero]; first | done | rfl)))
  apply Lex_end
  refine hK _ _ ?_
  clear hK K_
  intro w1 hw1 hf1
  simp only [List.drop_succ_cons, List.drop_zero]
  simp [allFacts, contOf, Exp.putAt, Exp.fact, Exp.fresh, Exp.blk] at hf1
  have c_ := blk_cell (grow_blk hw1 k4) 0
  have f_ := blk_frozen (grow_blk hw1 k4) 0
  go_wp2
  exact bodyPost_ret (v := .agg #[.int .u32 (iw (xor3 x y z))]) (by simp [results, Tryz.results111, go_sem, c_]) rfl ⟨rfl, (by (repeat (first | exact Below.refl _ _ | (refine bl_alloc ?_ _) | (refine bl_drewN ?_ _) | (refine bl_drew ?_) | (refine bl_call (by assumption) ?_) | (refine bl_set _ _ (by simp <;> omega) ?_) | assumption)))⟩
set_option maxHeartbeats 1000000 in
theorem sum_c (xs : List W32) (g c : Nat) (w : World) (hg : w.heap[g]? = some (.cells (cw xs) 80 (0, 0))) (hn : xs.length ≤ 1000) :
    Calls Tryz.prog 110 #[.slice (some ⟨g, 0, none⟩) xs.length c] w fun e w' => e = .returned (.agg #[.int .u32 (iw (sumw xs))]) ∧ Below w.heap.size w w' := by
  have hgl := blk_lt hg
  go_enter Tryz.func110, Tryz.ntmps110
  go_wp2_with fail
  refine gen_call fun W hW => ?_
  have k1 : W.heap[w.heap.size]? = some (.cells #[.int .u32 0] 80 (0, 0)) := by subst hW; (repeat (first | (with_reducible assumption) | ((with_reducible refine blk_new' ?_ _); (simp; done)) | ((with_reducible refine blk_alloc ?_ _)) | ((with_reducible refine blk_far ?_ ?_ _); (simp <;> omega))))
  have kg : W.heap[g]? = some (.cells (cw xs) 80 (0, 0)) := by subst hW; (repeat (first | (with_reducible assumption) | ((with_reducible refine blk_new' ?_ _); (simp; done)) | ((with_reducible refine blk_alloc ?_ _)) | ((with_reducible refine blk_far ?_ ?_ _); (simp <;> omega))))
  have HB : Below w.heap.size w W := by subst hW; (repeat (first | exact Below.refl _ _ | (refine bl_alloc ?_ _) | (refine bl_drewN ?_ _) | (refine bl_drew ?_) | (refine bl_call (by assumption) ?_) | (refine bl_set _ _ (by simp <;> omega) ?_) | assumption))
  clear hW
  refine (Of_c 0 0#32 rfl _).mono ?_
  rintro e w1 ⟨rfl, hb1⟩
  replace k1 := grow_blk hb1 k1
  replace kg := grow_blk hb1 kg
  replace HB := bl_call hb1 HB
  have l1 := blk_lt k1
  have lg := blk_lt kg
  clear hb1
  go_wp2_with fail
  refine gen_world fun W2 hW => ?_
  have k3 : W2.heap[w1.heap.size]? = some (.cells #[.int .u32 (iw (sumw (xs.take 0)))] 80 (0, 0)) := by subst hW; exact blk_new _ _
  replace k1 : W2.heap[w.heap.size]? = some (.cells #[.int .u32 0] 80 (0, 0)) := by subst hW; (repeat (first | (with_reducible assumption) | ((with_reducible refine blk_new' ?_ _); (simp; done)) | ((with_reducible refine blk_alloc ?_ _)) | ((with_reducible refine blk_far ?_ ?_ _); (simp <;> omega))))
  replace kg : W2.heap[g]? = some (.cells (cw xs) 80 (0, 0)) := by subst hW; (repeat (first | (with_reducible assumption) | ((with_reducible refine blk_new' ?_ _); (simp; done)) | ((with_reducible refine blk_alloc ?_ _)) | ((with_reducible refine blk_far ?_ ?_ _); (simp <;> omega))))
  replace HB : Below w.heap.size w W2 := by subst hW; (repeat (first | exact Below.refl _ _ | (refine bl_alloc ?_ _) | (refine bl_drewN ?_ _) | (refine bl_drew ?_) | (refine bl_call (by assumption) ?_) | (refine bl_set _ _ (by simp <;> omega) ?_) | assumption))
  clear hW
  generalize w1.heap.size = b3 at *
  clear w1
  go_loopw [9] (fun i wr => ∃ k : Nat, k ≤ xs.length ∧ i = .int .i64 k ∧ Below w.heap.size w wr ∧ wr.heap[b3]? = some (.cells #[.int .u32 (iw (sumw (xs.take k)))] 80 (0, 0)) ∧
      wr.heap[w.heap.size]? = some (.cells #[.int .u32 0] 80 (0, 0)) ∧ wr.heap[g]? = some (.cells (cw xs) 80 (0, 0))) (fun i _ => xs.length - (intOf i).toNat)
  case atStart => exact ⟨0, by omega, rfl, HB, k3, k1, kg⟩
  case round =>
    clear HB k3 k1 kg
    obtain ⟨k, hk, rfl, HB, k3, k1, kg⟩ := hrel
    by_cases hlt : k < xs.length
    · have c1 := blk_cell kg k
      rw [cw_get xs k hlt] at c1
      have c3 : wr.cell? ⟨b3, 0, none⟩ = some (.int .u32 (iw (sumw (xs.take k)))) := blk_cell k3 0
      have l3 := blk_lt k3
      have l1' := blk_lt k1
      go_wp2_with fail
      refine gen_call fun W3 hW => ?_
      replace k3 : W3.heap[b3]? = some (.cells #[.int .u32 (iw (sumw (xs.take k)))] 80 (0, 0)) := by subst hW; (repeat (first | (with_reducible assumption) | ((with_reducible refine blk_new' ?_ _); (simp; done)) | ((with_reducible refine blk_alloc ?_ _)) | ((with_reducible refine blk_far ?_ ?_ _); (simp <;> omega))))
      replace k1 : W3.heap[w.heap.size]? = some (.cells #[.int .u32 0] 80 (0, 0)) := by subst hW; (repeat (first | (with_reducible assumption) | ((with_reducible refine blk_new' ?_ _); (simp; done)) | ((with_reducible refine blk_alloc ?_ _)) | ((with_reducible refine blk_far ?_ ?_ _); (simp <;> omega))))
      replace kg : W3.heap[g]? = some (.cells (cw xs) 80 (0, 0)) := by subst hW; (repeat (first | (with_reducible assumption) | ((with_reducible refine blk_new' ?_ _); (simp; done)) | ((with_reducible refine blk_alloc ?_ _)) | ((with_reducible refine blk_far ?_ ?_ _); (simp <;> omega))))
      replace HB : Below w.heap.size w W3 := by subst hW; (repeat (first | exact Below.refl _ _ | (refine bl_alloc ?_ _) | (refine bl_drewN ?_ _) | (refine bl_drew ?_) | (refine bl_call (by assumption) ?_) | (refine bl_set _ _ (by simp <;> omega) ?_) | assumption))
      clear hW c1 c3
      refine (Add_c _ _ _).mono ?_
      rintro e w4 ⟨rfl, hb⟩
      replace k3 := grow_blk hb k3
      replace k1 := grow_blk hb k1
      replace kg := grow_blk hb kg
      replace HB := bl_call hb HB
      have c3 : w4.cell? ⟨b3, 0, none⟩ = some (.int .u32 (iw (sumw (xs.take k)))) := blk_cell k3 0
      have f3 := blk_frozen k3 0
      rw [← sumw_snoc xs k hlt]
      clear hb
      go_wp2
      go_roundw
      case rel => exact ⟨k + 1, by omega, by go_num, bl_set _ _ (by simp; omega) HB, blk_set k3 0 _, blk_far k1 (by simp; omega) _, blk_far kg (by simp; omega) _⟩
      case measure => simp [intOf]; omega
    · obtain rfl : k = xs.length := by omega
      rw [List.take_length] at k3
      have c3 : wr.cell? ⟨b3, 0, none⟩ = some (.int .u32 (iw (sumw xs))) := blk_cell k3 0
      have c1 : wr.cell? ⟨w.heap.size, 0, none⟩ = some (.int .u32 0) := blk_cell k1 0
      have f1 := blk_frozen k1 0
      go_wp2
      exact bodyPost_ret (v := .agg #[.int .u32 (iw (sumw xs))]) (by simp [results, Tryz.results110, go_sem, c1]) rfl ⟨rfl, bl_set _ _ (by simp) HB⟩
end Go.Proofs.YthnackakgglhbaaGreat

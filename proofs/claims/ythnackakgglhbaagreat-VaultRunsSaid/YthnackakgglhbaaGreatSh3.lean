/- Contracts of package sha: word, padded. -/
import Derived.Test.YthnackakgglhbaaGreatSh2
namespace Go.Proofs.YthnackakgglhbaaGreat
open Go.RowKit
set_option maxRecDepth 100000
set_option linter.unusedSimpArgs false
set_option linter.unusedVariables false
set_option maxHeartbeats 2000000 in
theorem word_c (bs : List W32) (hbs : bs.length = 4) (w : World) : Calls Tryz.prog 103 #[.agg (cw bs)] w fun e w' => e = .returned (.agg #[.int .u32 (iw (wordw bs))]) ∧ Below w.heap.size w w' := by
  go_enter Tryz.func103, Tryz.ntmps103
  go_wp2_with fail
  refine gen_call fun W hW => ?_
  have k0 : W.heap[w.heap.size]? = some (.cells (cw bs) 142 (0, 0)) := by subst hW; (repeat (first | (with_reducible assumption) | ((with_reducible refine blk_new' ?_ _); (simp; done)) | ((with_reducible refine blk_alloc ?_ _)) | ((with_reducible refine blk_far ?_ ?_ _); (simp <;> omega))))
  have k1 : W.heap[w.heap.size + 1]? = some (.cells #[.int .u32 0] 80 (0, 0)) := by subst hW; (repeat (first | (with_reducible assumption) | ((with_reducible refine blk_new' ?_ _); (simp; done)) | ((with_reducible refine blk_alloc ?_ _)) | ((with_reducible refine blk_far ?_ ?_ _); (simp <;> omega))))
  have HB : Below w.heap.size w W := by subst hW; (repeat (first | exact Below.refl _ _ | (refine bl_alloc ?_ _) | (refine bl_drewN ?_ _) | (refine bl_drew ?_) | (refine bl_call (by assumption) ?_) | (refine bl_set _ _ (by simp <;> omega) ?_) | assumption))
  clear hW
  refine (Of_c 0 0#32 rfl _).mono ?_
  rintro e w1 ⟨rfl, hb⟩
  replace k0 := grow_blk hb k0
  replace k1 := grow_blk hb k1
  replace HB := bl_call hb HB
  have l1 := blk_lt k1
  clear hb
  go_upto_region 2 with (fail)
  refine gen_world fun W2 hW => ?_
  replace k0 := carry hW k0 (by intro kk; (repeat (first | exact kk | (refine blk_far ?_ (by simp only [ne_eq]; omega) _) | (refine setRow_far ?_ (by omega) _) | (refine blk_alloc ?_ _) | (refine grow_blk (by assumption) ?_))))
  replace k1 := carry hW k1 (by intro kk; (repeat (first | exact kk | (refine blk_far ?_ (by simp only [ne_eq]; omega) _) | (refine setRow_far ?_ (by omega) _) | (refine blk_alloc ?_ _) | (refine grow_blk (by assumption) ?_))))
  have k2 : W2.heap[w1.heap.size]? = some (.cells #[.int .u32 (iw (wordw (bs.take 0)))] 80 (0, 0)) := by subst hW; exact blk_new _ _
  replace HB : Below w.heap.size w W2 := by subst hW; (repeat (first | exact Below.refl _ _ | (refine bl_alloc ?_ _) | (refine bl_drewN ?_ _) | (refine bl_drew ?_) | (refine bl_call (by assumption) ?_) | (refine bl_set _ _ (by simp <;> omega) ?_) | assumption))
  clear hW
  generalize w1.heap.size = b3 at *
  clear w1
  refine wp_region_lit ?_
  refine wpList_load_row rfl _ _ rfl w.heap.size rfl 142 (cw bs) (0, 0) _ k0 Tryz.underlying142 rfl (by rw [cw_size, hbs]; kernel_rfl) ?_
  go_wp2_with fail
  go_loopw [8] (fun i wr => ∃ k : Nat, k ≤ 4 ∧ i = .int .i64 k ∧ Below w.heap.size w wr ∧ wr.heap[w.heap.size + 1]? = some (.cells #[.int .u32 0] 80 (0, 0)) ∧
      wr.heap[b3]? = some (.cells #[.int .u32 (iw (wordw (bs.take k)))] 80 (0, 0))) (fun i _ => 4 - (intOf i).toNat)
  case atStart => exact ⟨0, by omega, rfl, HB, k1, k2⟩
  case round =>
    clear HB k0 k1 k2
    obtain ⟨k, hk, rfl, HB, k1, k2⟩ := hrel
    have lk1 := blk_lt k1
    have lk2 := blk_lt k2
    by_cases hlt : k < 4
    · have hix : ∀ w1, (Instr.index 142 (.agg (cw bs)) (.int .i64 (k : Int))).run Tryz.prog w1 = .ok (.agg #[.int .u32 (iw (at32 bs k))]) w1 :=
        index_cell Tryz.underlying142 Tryz.underlying80 (by kernel_rfl) (by omega) (by omega) (by rw [Int.toNat_natCast, cw_at bs k (by omega)])
      go_upto_region 5 with (fail)
      clear hix
      refine gen_world fun W hW => ?_
      replace k1 := carry hW k1 (by intro kk; (repeat (first | exact kk | (refine blk_far ?_ (by simp only [ne_eq]; omega) _) | (refine setRow_far ?_ (by omega) _) | (refine blk_alloc ?_ _) | (refine grow_blk (by assumption) ?_))))
      replace k2 := carry hW k2 (by intro kk; (repeat (first | exact kk | (refine blk_far ?_ (by simp only [ne_eq]; omega) _) | (refine setRow_far ?_ (by omega) _) | (refine blk_alloc ?_ _) | (refine grow_blk (by assumption) ?_))))
      have k3 : W.heap[wr.heap.size]? = some (.cells #[.int .u32 (iw (at32 bs k))] 80 (0, 0)) := by subst hW; exact blk_new _ _
      replace HB : Below w.heap.size w W := by subst hW; (repeat (first | exact Below.refl _ _ | (refine bl_alloc ?_ _) | (refine bl_drewN ?_ _) | (refine bl_drew ?_) | (refine bl_call (by assumption) ?_) | (refine bl_set _ _ (by simp <;> omega) ?_) | assumption))
      clear hW
      refine wp_region_lexK 4 (by kernel_rfl) (by kernel_rfl) ?_
      intro K_ ops_ _ hK
      apply Exists.intro
      simp only [List.take_succ_cons, List.take_zero, List.drop_succ_cons, List.drop_zero]
      repeat (first
        
        
        | (apply Lex_det (by rfl) (by rfl) (fun w1 hw1 hd1 => ?_) (fun _ => ?_) (fun _ => ?_); rotate_left 3; (go_simp; first | done | rfl | (rw [blk_cell (grow_blk hw1 k2)]; focus ((try simp); first | done | rfl)) | (rw [blk_cell (grow_blk hw1 k3)]; focus ((try simp); first | done | rfl))); (simp only [Act.put, List.setIfInBounds_toArray, List.set_cons_succ, List.set_cons_zero]; first | done | rfl))
        | (apply Lex_box (by rfl) (by rfl) (fun w1 hw1 hd1 => ?_) (fun _ => ?_) (fun _ => ?_); rotate_left 4; (go_simp; first | done | rfl); (simp only [Act.put, List.setIfInBounds_toArray, List.set_cons_succ, List.set_cons_zero]; first | done | rfl))
        | (apply Lex_bs (t := 76) (e := 80) (z := .agg #[.int .u32 0]) (ho := rfl) (by rfl) Tryz.underlying76 (by kernel_rfl) (by decide) (by decide) (fun _ => ?_) (fun _ => ?_) (fun _ => ?_) (fun _ => ?_) (fun _ => ?_); rotate_left 4; (go_simp; rfl); (exact ⟨rfl, rfl, rfl⟩); (simp only [List.map_cons, List.map_nil, List.flatMap_cons, List.flatMap_nil, Value.cells, List.cons_append, List.nil_append, List.append_nil]; rfl); (simp only [Act.put, List.setIfInBounds_toArray, List.set_cons_succ, List.set_cons_zero]; first | done | rfl))
        | (apply Lex_call (by rfl) (by rfl) (fun w1 => ?_) (fun w1 hw1 hd1 => ?_) (fun _ => ?_) (fun _ => ?_); rotate_left 5; (go_simp; first | done | exact ⟨rfl, rfl⟩ | rfl); (first | (go_at_call 106; exact (Shl_c _ 8 (by omega) (by omega) w1)) | (go_at_call 105; exact (Or_c _ _ w1))); (simp only [Act.put, List.setIfInBounds_toArray, List.set_cons_succ, List.set_cons_zero]; first | done | rfl)))
      apply Lex_end
      refine hK _ _ ?_
      clear hK K_
      intro w1 hw1 hf1
      simp only [List.drop_succ_cons, List.drop_zero]
      simp [allFacts, contOf, Exp.putAt, Exp.fact, Exp.fresh, Exp.blk] at hf1
      replace k1 := grow_blk hw1 k1
      replace k2 := grow_blk hw1 k2
      replace HB := bl_call hw1 HB
      have c2 : w1.cell? ⟨b3, 0, none⟩ = some (.int .u32 (iw (wordw (bs.take k)))) := blk_cell k2 0
      have f2 := blk_frozen k2 0
      rw [← wordw_snoc bs k (by omega)]
      clear hw1
      go_wp2
      go_roundw
      case rel => exact ⟨k + 1, by omega, by go_num, bl_set _ _ (by simp; omega) HB, blk_far k1 (by simp; omega) _, blk_set k2 0 _⟩
      case measure => simp [intOf]; omega
    · obtain rfl : k = 4 := by omega
      rw [List.take_of_length_le (by omega)] at k2
      have c2 : wr.cell? ⟨b3, 0, none⟩ = some (.int .u32 (iw (wordw bs))) := blk_cell k2 0
      have c1 : wr.cell? ⟨w.heap.size + 1, 0, none⟩ = some (.int .u32 0) := blk_cell k1 0
      have f1 := blk_frozen k1 0
      go_wp2
      exact bodyPost_ret (v := .agg #[.int .u32 (iw (wordw bs))]) (by simp [results, Tryz.results103, go_sem, c1]) rfl ⟨rfl, bl_set _ _ (by simp) HB⟩
set_option maxHeartbeats 2000000 in
theorem padded_c (b : W32) (i : Nat) (len : W32) (hi : i < 4294967296) (w : World) : Calls Tryz.prog 102 #[.agg #[.int .u32 (iw b)], .int .i64 (i : Int), .agg #[.int .u32 (iw len)]] w fun e w' => e = .returned (.agg #[.int .u32 (iw (padw b i len))]) ∧ Below w.heap.size w w' := by
  go_enter Tryz.func102, Tryz.ntmps102
  go_wp2_with fail
  refine gen_call fun W hW => ?_
  have k0 : W.heap[w.heap.size]? = some (.cells #[.int .u32 (iw b)] 80 (0, 0)) := by subst hW; (repeat (first | (with_reducible assumption) | ((with_reducible refine blk_new' ?_ _); (simp; done)) | ((with_reducible refine blk_alloc ?_ _)) | ((with_reducible refine blk_far ?_ ?_ _); (simp <;> omega))))
  have k1 : W.heap[w.heap.size + 1]? = some (.cells #[.int .u32 (iw len)] 80 (0, 0)) := by subst hW; (repeat (first | (with_reducible assumption) | ((with_reducible refine blk_new' ?_ _); (simp; done)) | ((with_reducible refine blk_alloc ?_ _)) | ((with_reducible refine blk_far ?_ ?_ _); (simp <;> omega))))
  have k2 : W.heap[w.heap.size + 1 + 1]? = some (.cells #[.int .u32 0] 80 (0, 0)) := by subst hW; (repeat (first | (with_reducible assumption) | ((with_reducible refine blk_new' ?_ _); (simp; done)) | ((with_reducible refine blk_alloc ?_ _)) | ((with_reducible refine blk_far ?_ ?_ _); (simp <;> omega))))
  have HB : Below w.heap.size w W := by subst hW; (repeat (first | exact Below.refl _ _ | (refine bl_alloc ?_ _) | (refine bl_drewN ?_ _) | (refine bl_drew ?_) | (refine bl_call (by assumption) ?_) | (refine bl_set _ _ (by simp <;> omega) ?_) | assumption))
  clear hW
  refine (Of_c _ (kw i) (by rw [← kw_iw i hi]) _).mono ?_
  rintro e w1 ⟨rfl, hb⟩
  replace k0 := grow_blk hb k0
  replace k1 := grow_blk hb k1
  replace k2 := grow_blk hb k2
  replace HB := bl_call hb HB
  have l2 := blk_lt k2
  clear hb
  go_upto_region 2 with (fail)
  refine gen_world fun W2 hW => ?_
  replace k0 := carry hW k0 (by intro kk; (repeat (first | exact kk | (refine blk_far ?_ (by simp only [ne_eq]; omega) _) | (refine setRow_far ?_ (by omega) _) | (refine blk_alloc ?_ _) | (refine grow_blk (by assumption) ?_))))
  replace k1 := carry hW k1 (by intro kk; (repeat (first | exact kk | (refine blk_far ?_ (by simp only [ne_eq]; omega) _) | (refine setRow_far ?_ (by omega) _) | (refine blk_alloc ?_ _) | (refine grow_blk (by assumption) ?_))))
  replace k2 := carry hW k2 (by intro kk; (repeat (first | exact kk | (refine blk_far ?_ (by simp only [ne_eq]; omega) _) | (refine setRow_far ?_ (by omega) _) | (refine blk_alloc ?_ _) | (refine grow_blk (by assumption) ?_))))
  have k3 : W2.heap[w1.heap.size]? = some (.cells #[.int .u32 (iw (kw i))] 80 (0, 0)) := by subst hW; exact blk_new _ _
  replace HB : Below w.heap.size w W2 := by subst hW; (repeat (first | exact Below.refl _ _ | (refine bl_alloc ?_ _) | (refine bl_drewN ?_ _) | (refine bl_drew ?_) | (refine bl_call (by assumption) ?_) | (refine bl_set _ _ (by simp <;> omega) ?_) | assumption))
  clear hW
  refine wp_region_lexK 11 (by kernel_rfl) (by kernel_rfl) ?_
  intro K_ ops_ _ hK
  apply Exists.intro
  simp only [List.take_succ_cons, List.take_zero, List.drop_succ_cons, List.drop_zero]
  repeat (first
    
    
    | (apply Lex_det (by rfl) (by rfl) (fun w1 hw1 hd1 => ?_) (fun _ => ?_) (fun _ => ?_); rotate_left 3; (go_simp; first | done | rfl | (rw [blk_cell (grow_blk hw1 k0)]; focus ((try simp); first | done | rfl)) | (rw [blk_cell (grow_blk hw1 k1)]; focus ((try simp); first | done | rfl)) | (rw [blk_cell (grow_blk hw1 k3)]; focus ((try simp); first | done | rfl))); (simp only [Act.put, List.setIfInBounds_toArray, List.set_cons_succ, List.set_cons_zero]; first | done | rfl))
    | (apply Lex_box (by rfl) (by rfl) (fun w1 hw1 hd1 => ?_) (fun _ => ?_) (fun _ => ?_); rotate_left 4; (go_simp; first | done | rfl); (simp only [Act.put, List.setIfInBounds_toArray, List.set_cons_succ, List.set_cons_zero]; first | done | rfl))
    | (apply Lex_bs (t := 76) (e := 80) (z := .agg #[.int .u32 0]) (ho := rfl) (by rfl) Tryz.underlying76 (by kernel_rfl) (by decide) (by decide) (fun _ => ?_) (fun _ => ?_) (fun _ => ?_) (fun _ => ?_) (fun _ => ?_); rotate_left 4; (go_simp; rfl); (exact ⟨rfl, rfl, rfl⟩); (simp only [List.map_cons, List.map_nil, List.flatMap_cons, List.flatMap_nil, Value.cells, List.cons_append, List.nil_append, List.append_nil]; rfl); (simp only [Act.put, List.setIfInBounds_toArray, List.set_cons_succ, List.set_cons_zero]; first | done | rfl))
    | (apply Lex_call (by rfl) (by rfl) (fun w1 => ?_) (fun w1 hw1 hd1 => ?_) (fun _ => ?_) (fun _ => ?_); rotate_left 5; (go_simp; first | done | exact ⟨rfl, rfl⟩ | rfl); (first | (go_at_call 87; exact (Lt_c _ _ w1)) | (go_at_call 104; exact (Eq_c _ _ w1)) | (go_at_call 68; exact (Of_c 128 (kw 128) rfl w1)) | (go_at_call 66; exact (And_c _ _ w1)) | (go_at_call 105; exact (Or_c _ _ w1))); (simp only [Act.put, List.setIfInBounds_toArray, List.set_cons_succ, List.set_cons_zero]; first | done | rfl)))
  apply Lex_end
  refine hK _ _ ?_
  clear hK K_
  intro w1 hw1 hf1
  simp only [List.drop_succ_cons, List.drop_zero]
  simp [allFacts, contOf, Exp.putAt, Exp.fact, Exp.fresh, Exp.blk] at hf1
  replace k2 := grow_blk hw1 k2
  replace HB := bl_call hw1 HB
  have c2 : w1.cell? ⟨w.heap.size + 1 + 1, 0, none⟩ = some (.int .u32 0) := blk_cell k2 0
  have f2 := blk_frozen k2 0
  go_wp2
  exact bodyPost_ret (v := .agg #[.int .u32 (iw (padw b i len))]) (by simp [results, Tryz.results102, go_sem, c2]; rfl) rfl ⟨rfl, bl_set _ _ (by simp; omega) HB⟩
end Go.Proofs.YthnackakgglhbaaGreat

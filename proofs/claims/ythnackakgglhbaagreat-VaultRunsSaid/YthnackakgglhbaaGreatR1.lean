/- Contracts of the document's SHA (sabretacheref16): rot, First, table, Step. -/
import Derived.Test.YthnackakgglhbaaGreatOw
namespace Go.Proofs.YthnackakgglhbaaGreat
open Go.RowKit
set_option maxRecDepth 100000
set_option linter.unusedSimpArgs false
set_option linter.unusedVariables false
attribute [local go_sem] evR_tmp evR_const evR_global evR_func xor_iw and_iw or_iw not_iw not_iw' add_iw sub_iw neg_iw shl_iwI shr_iwI IntKind.wrap_u32'
theorem rotI_eq (x : W32) (n : Int) : shrI x n ||| shlI x (32 - n) = rotI x n := rfl
attribute [local go_sem] rotI_eq
theorem rot_c (x : W32) (n : Int) (h0 : 1 ≤ n) (h1 : n ≤ 31) (w : World) : Calls Tryz.prog 75 #[.int .u32 (iw x), .int .i64 n] w fun e w' => e = .returned (.int .u32 (iw (rotI x n))) ∧ Below w.heap.size w w' := by
  have e32 : IntKind.i64.wrap (32 - n) = 32 - n := IntWalk.i64_in _ (by omega)
  have e33 : ¬ (32 - n < 0) := by omega
  have e34 : ¬ (n < 0) := by omega
  go_enter Tryz.func75, Tryz.ntmps75
  go_upto_region 1 with (fail)
  refine wp_region_R 9 [0, 1] (by kernel_rfl) (by kernel_rfl) (by kernel_rfl) (by kernel_rfl) ?_
  intro K_ ops_ hops_ hK
  replace hops_ := Lib.hid hops_
  apply Exists.intro
  intro R_ hb_
  simp only [↓baseR, ↓nthR_succ, ↓nthR_zero] at hb_
  simp only [List.take_succ_cons, List.take_zero, List.drop_succ_cons, List.drop_zero]
  repeat (first
    
    
    
    | (apply LexR_det (by rfl) (by rfl) (by rfl) (fun w1 hw1 hd1 => ?_) (fun _ hr_ => ?_); rotate_right 2; (go_simp; first | done | rfl ))
    | (apply LexR_box (by rfl) (by rfl) (by rfl) (fun w1 hw1 hd1 => ?_) (fun _ hr_ => ?_); rotate_right 2; (go_simp; first | done | rfl))
    | (apply LexR_bs (t := 76) (e := 80) (z := .agg #[.int .u32 0]) (ho := rfl) (by rfl) (by rfl) Tryz.underlying76 (by kernel_rfl) (by decide) (by decide) (fun _ => ?_) (fun _ => ?_) (fun _ => ?_) (fun _ hr_ => ?_); rotate_right 4; (go_simp; rfl); (exact ⟨rfl, rfl, rfl⟩); (simp only [List.map_cons, List.map_nil, List.flatMap_cons, List.flatMap_nil, Value.cells, List.cons_append, List.nil_append, List.append_nil]; rfl)))
  apply LexR_end
  refine hK _ _ ?_
  clear hK K_
  repeat clear hr_
  clear hb_ R_ hops_ ops_
  intro w1 hw1 hf1
  apply tailR (fun _ => ?_) (fun _ => ?_) ?_
  rotate_right 2
  · simp only [putAll, Act.put, List.setIfInBounds_toArray, List.set_cons_succ, List.set_cons_zero]; first | done | rfl
  · simp only [List.drop_succ_cons, List.drop_zero]; first | done | rfl
  simp [allFacts, contOf, Exp.putAt, Exp.fact, Exp.fresh, Exp.blk] at hf1
  go_wp2
  exact bodyPost_ret (v := .int .u32 (iw (rotI x n))) (by simp [results, Tryz.results75, go_sem]) rfl ⟨rfl, hw1⟩
theorem rFirst_c (w : World) : Calls Tryz.prog 50 #[] w fun e w' => e = .returned (.agg (cw h0)) ∧ Below w.heap.size w w' := by
  go_enter Tryz.func50, Tryz.ntmps50
  go_upto_region 1 with (fail)
  refine gen_world fun W hW => ?_
  have k1 : W.heap[w.heap.size]? = some (.cells (Array.replicate 8 (.int .u32 0)) 54 (0, 0)) := by subst hW; exact blk_new' (by simp) _
  have HB : Below w.heap.size w W := by subst hW; (repeat (first | exact Below.refl _ _ | (refine bl_alloc ?_ _) | (refine bl_drewN ?_ _) | (refine bl_drew ?_) | (refine bl_call (by assumption) ?_) | (refine bl_set _ _ (by simp <;> omega) ?_) | assumption))
  clear hW
  refine wp_region_R 1 [] (by kernel_rfl) (by kernel_rfl) (by kernel_rfl) (by kernel_rfl) ?_
  intro K_ ops_ hops_ hK
  replace hops_ := Lib.hid hops_
  apply Exists.intro
  intro R_ hb_
  simp only [↓baseR, ↓nthR_succ, ↓nthR_zero] at hb_
  simp only [List.take_succ_cons, List.take_zero, List.drop_succ_cons, List.drop_zero]
  repeat (first
    
    
    
    | (apply LexR_det (by rfl) (by rfl) (by rfl) (fun w1 hw1 hd1 => ?_) (fun _ hr_ => ?_); rotate_right 2; (go_simp; first | done | rfl ))
    | (apply LexR_box (by rfl) (by rfl) (by rfl) (fun w1 hw1 hd1 => ?_) (fun _ hr_ => ?_); rotate_right 2; (go_simp; first | done | rfl))
    | (apply LexR_bs (t := 76) (e := 80) (z := .agg #[.int .u32 0]) (ho := rfl) (by rfl) (by rfl) Tryz.underlying76 (by kernel_rfl) (by decide) (by decide) (fun _ => ?_) (fun _ => ?_) (fun _ => ?_) (fun _ hr_ => ?_); rotate_right 4; (go_simp; rfl); (exact ⟨rfl, rfl, rfl⟩); (simp only [List.map_cons, List.map_nil, List.flatMap_cons, List.flatMap_nil, Value.cells, List.cons_append, List.nil_append, List.append_nil]; rfl)))
  apply LexR_end
  refine hK _ _ ?_
  clear hK K_
  repeat clear hr_
  clear hb_ R_ hops_ ops_
  intro w1 hw1 hf1
  apply tailR (fun _ => ?_) (fun _ => ?_) ?_
  rotate_right 2
  · simp only [putAll, Act.put, List.setIfInBounds_toArray, List.set_cons_succ, List.set_cons_zero]; first | done | rfl
  · simp only [List.drop_succ_cons, List.drop_zero]; first | done | rfl
  simp [allFacts, contOf, Exp.putAt, Exp.fact, Exp.fresh, Exp.blk] at hf1
  clear hf1
  replace k1 := grow_blk hw1 k1
  replace HB := bl_call hw1 HB
  clear hw1
  refine wpList_store_row rfl _ _ _ rfl (w.heap.size) (cw h0) rfl (by kernel_rfl) 54 _ k1 (by kernel_rfl) (by kernel_rfl) (cw_one _) ?_
  refine gen_list fun W2 hW => ?_
  replace k1 : W2.heap[w.heap.size]? = some (.cells (cw h0) 54 (0, 0)) := by subst hW; exact setRow_blk k1 _
  replace HB : Below w.heap.size w W2 := by subst hW; exact bl_row _ _ (by omega) HB
  clear hW
  go_wp2
  exact bodyPost_ret (v := .agg (cw h0)) (results_cell_row Tryz.results50 _ _ (w.heap.size) 54 (cw h0) (0, 0) _ rfl k1 Tryz.underlying54 rfl (by kernel_rfl)) rfl ⟨rfl, HB⟩
theorem table_c (w : World) : Calls Tryz.prog 74 #[] w fun e w' => ∃ g, e = .returned (.slice (some ⟨g, 0, none⟩) 64 64) ∧ w.heap.size ≤ g ∧ w'.heap[g]? = some (.cells (cw kTab) 53 (0, 0)) ∧ Below w.heap.size w w' := by
  go_enter Tryz.func74, Tryz.ntmps74
  go_wp2
  exact bodyPost_ret (v := .slice (some ⟨w.heap.size, 0, none⟩) 64 64) (by simp [results, Tryz.results74, go_sem]) rfl ⟨_, rfl, Nat.le_refl _, (blk_new _ _).trans (by kernel_rfl), by (repeat (first | exact Below.refl _ _ | (refine bl_alloc ?_ _) | (refine bl_drewN ?_ _) | (refine bl_drew ?_) | (refine bl_call (by assumption) ?_) | (refine bl_set _ _ (by simp <;> omega) ?_) | assumption))⟩
theorem shr10 (x : W32) : iw x / 1024 = iw (shrI x 10) := shr_iwI x 10
theorem shr3 (x : W32) : iw x / 8 = iw (shrI x 3) := shr_iwI x 3
theorem shr24 (x : W32) : iw x / 16777216 = iw (shrI x 24) := shr_iwI x 24
theorem shr16 (x : W32) : iw x / 65536 = iw (shrI x 16) := shr_iwI x 16
theorem shr8 (x : W32) : iw x / 256 = iw (shrI x 8) := shr_iwI x 8
theorem shl8 (x : W32) : iw x * 256 % 4294967296 = iw (shlI x 8) := shl_iwI x 8
attribute [local go_sem] shr10 shr3 shr24 shr16 shr8 shl8
theorem ch_eq (e f g : W32) : (e &&& f) ^^^ (~~~e &&& g) = selw e f g := by
  apply BitVec.eq_of_getLsbD_eq
  intro i hi
  simp only [selw, BitVec.getLsbD_xor, BitVec.getLsbD_and, BitVec.getLsbD_not, hi, decide_true, Bool.true_and]
  cases e.getLsbD i <;> cases f.getLsbD i <;> cases g.getLsbD i <;> rfl
theorem maj_eq (a b c : W32) : (a &&& b) ^^^ (a &&& c) ^^^ (b &&& c) = majw a b c := by
  apply BitVec.eq_of_getLsbD_eq
  intro i hi
  simp only [majw, BitVec.getLsbD_xor, BitVec.getLsbD_and, BitVec.getLsbD_or]
  cases a.getLsbD i <;> cases b.getLsbD i <;> cases c.getLsbD i <;> rfl
theorem great_eq (y : W32) : rotI y 17 ^^^ rotI y 19 ^^^ shrI y 10 = greatw y := rfl
theorem small_eq (x : W32) : rotI x 7 ^^^ rotI x 18 ^^^ shrI x 3 = smallw x := rfl
theorem next_eq (ws : List W32) (t : Nat) : greatw (at32 ws (t + 14)) + at32 ws (t + 9) + smallw (at32 ws (t + 1)) + at32 ws t = nextw ws t := by
  simp [nextw, sumw]
theorem one_eq (e f g h k w : W32) : h + (rotI e 6 ^^^ rotI e 11 ^^^ rotI e 25) + selw e f g + k + w = onew e f g h k w := by
  simp [onew, sumw, xor3]
theorem two_eq (a b c : W32) : (rotI a 2 ^^^ rotI a 13 ^^^ rotI a 22) + majw a b c = twow a b c := by
  simp [twow, sumw, xor3]
/-- The words so far, noughts behind. -/
def wAt (b : List W32) (n : Nat) : List W32 := if n ≤ 16 then padTo 64 (b.take n) else spreadAt b (n - 16)
theorem padTo_length' (m : Nat) (xs : List W32) (h : xs.length ≤ m) : (padTo m xs).length = m := by simp [padTo]; omega
theorem wAt_len (b : List W32) (hb : b.length = 16) (n : Nat) (hn : n ≤ 64) : (wAt b n).length = 64 := by
  unfold wAt
  split
  · exact padTo_length' _ _ (by simp; omega)
  · exact spreadAt_length b hb _ (by omega)
theorem wAt_low (b : List W32) (hb : b.length = 16) (n : Nat) (hn : n < 16) : (wAt b n).set n (at32 b n) = wAt b (n + 1) := by
  unfold wAt
  rw [if_pos (by omega), if_pos (by omega)]
  have := padTo_set 64 (b.take n) (at32 b n) (by simp; omega)
  rw [show (b.take n).length = n by simp; omega] at this
  rw [this, List.take_succ_eq_append_getElem (show n < b.length by omega)]
  simp [at32, hb, hn]
theorem wAt_16 (b : List W32) (hb : b.length = 16) : wAt b 16 = spreadAt b 0 := by
  unfold wAt padTo spreadAt
  rw [if_pos (by omega), List.take_of_length_le (by omega), hb]
  rfl
theorem wAt_hi (b : List W32) (hb : b.length = 16) (m : Nat) : wAt b (m + 16) = spreadAt b m := by
  rcases Nat.eq_zero_or_pos m with rfl | h
  · exact wAt_16 b hb
  · unfold wAt; rw [if_neg (by omega)]; congr 1
/-- The words shifted by one place, down to place i. -/
def shiftAt (s : List W32) (i : Nat) : List W32 := (List.range 8).map fun j => if j ≤ i then at32 s j else at32 s (j - 1)
theorem shiftAt_len (s : List W32) (i : Nat) : (shiftAt s i).length = 8 := by simp [shiftAt]
theorem shiftAt_start (a b c d e f g h : W32) : shiftAt [a, b, c, d, e, f, g, h] 7 = [a, b, c, d, e, f, g, h] := rfl
theorem shiftAt_end (a b c d e f g h : W32) : shiftAt [a, b, c, d, e, f, g, h] 0 = [a, a, b, c, d, e, f, g] := rfl
theorem shiftAt_at (s : List W32) (i : Nat) (hi : i < 7) : at32 (shiftAt s (i + 1)) i = at32 s i := by
  simp [at32, shiftAt, show i < 8 by omega]
theorem shiftAt_set (s : List W32) (i : Nat) (hi : i < 7) : (shiftAt s (i + 1)).set (i + 1) (at32 s i) = shiftAt s i := by
  apply List.ext_getElem?
  intro k
  by_cases q : k = i + 1
  · subst q
    rw [List.getElem?_set_self (by rw [shiftAt_len]; omega)]
    simp [shiftAt, show i + 1 < 8 by omega]
    intro z; omega
  · rw [List.getElem?_set_ne (Ne.symm q)]
    by_cases hk : k < 8
    · simp only [shiftAt, List.getElem?_map, List.getElem?_range hk, Option.map_some]
      by_cases z : k ≤ i
      · rw [if_pos z, if_pos (by omega)]
      · rw [if_neg z, if_neg (by omega)]
    · rw [List.getElem?_eq_none (by rw [shiftAt_len]; omega), List.getElem?_eq_none (by rw [shiftAt_len]; omega)]
end Go.Proofs.YthnackakgglhbaaGreat

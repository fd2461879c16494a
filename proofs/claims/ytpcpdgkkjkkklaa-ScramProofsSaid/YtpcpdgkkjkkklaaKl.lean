/- Contracts of pbkdf.Plain and Steps; of the reference. -/
import Derived.Test.YtpcpdgkkjkkklaaKp
namespace Go.Proofs.Ytpcpdgkkjkkklaa
open Go.RowKit Go.Lib
set_option maxRecDepth 100000
set_option linter.unusedSimpArgs false
set_option linter.unusedVariables false
attribute [local go_sem] evR_tmp evR_const evR_global evR_func
def zero8 : List W32 := List.replicate 8 0#32
theorem pKey_no_c (st : List W32) (hst : st.length = 16) (s : ByteArray) (n : Int) (hn : n < 1 ∨ 16777216 < n) (w : World) : Calls Try.prog 36 #[.agg (cw st), .string s, .int .i64 n] w fun e w' => e = .returned (.tuple #[.agg (cw zero8), .bool false]) ∧ Below w.heap.size w w' := by
  by_cases h1 : n < 1
  focus
    have h1' : decide (n < 1) = true := by simp [h1]
    go_enter Try.func36, Try.ntmps36
    go_upto_region 2 with (fail)
    refine gen_world fun W hW => ?_
    have k6 : W.heap[w.heap.size + 1]? = some (.cells (Array.replicate 8 (.int .u32 0)) 37 (0, 0)) := by subst hW; exact blk_new' (by simp) _
    have HB : Below w.heap.size w W := by subst hW; (repeat (first | exact Below.refl _ _ | (refine bl_alloc ?_ _) | (refine bl_drewN ?_ _) | (refine bl_drew ?_) | (refine bl_call (by assumption) ?_) | (refine bl_set _ _ (by simp <;> omega) ?_) | assumption))
    clear hW h1' hn
  rotate_left
  focus
    have h2 : 16777216 < n := by omega
    have h1' : decide (n < 1) = false := by simp [h1]
    have h2' : decide (16777216 < n) = true := by simp [h2]
    clear hn
    go_enter Try.func36, Try.ntmps36
    go_upto_region 2 with (fail)
    refine gen_world fun W hW => ?_
    have k6 : W.heap[w.heap.size + 1]? = some (.cells (Array.replicate 8 (.int .u32 0)) 37 (0, 0)) := by subst hW; exact blk_new' (by simp) _
    have HB : Below w.heap.size w W := by subst hW; (repeat (first | exact Below.refl _ _ | (refine bl_alloc ?_ _) | (refine bl_drewN ?_ _) | (refine bl_drew ?_) | (refine bl_call (by assumption) ?_) | (refine bl_set _ _ (by simp <;> omega) ?_) | assumption))
    clear hW h1' h2'
  rotate_left
  all_goals
    refine wp_region_R 1 [] (by kernel_rfl) (by kernel_rfl) (by kernel_rfl) (by kernel_rfl) ?_
    intro K_ ops_ hops_ hK
    replace hops_ := Lib.hid hops_
    apply Exists.intro
    intro R_ hb_
    simp only [↓baseR, ↓nthR_succ, ↓nthR_zero] at hb_
    simp only [List.take_succ_cons, List.take_zero, List.drop_succ_cons, List.drop_zero]
    repeat (first
      
      
      
      | (apply LexR_det (by rfl) (by rfl) (by rfl) (fun w1 hw1 hd1 => ?_) (fun _ hr_ => ?_); rotate_right 2; (go_simp; first | done | rfl ))
      | (apply LexR_box (by rfl) (by rfl) (by rfl) (fun w1 hw1 hd1 => ?_) (fun _ hr_ => ?_); rotate_right 2; (go_simp; first | done | rfl))
      | (apply LexR_bs (t := 60) (e := 36) (z := .agg #[.int .u32 0]) (ho := rfl) (by rfl) (by rfl) Try.underlying60 (by kernel_rfl) (by decide) (by decide) (fun _ => ?_) (fun _ => ?_) (fun _ => ?_) (fun _ hr_ => ?_); rotate_right 4; (go_simp; rfl); (exact ⟨rfl, rfl, rfl⟩); (simp only [List.map_cons, List.map_nil, List.flatMap_cons, List.flatMap_nil, Value.cells, List.cons_append, List.nil_append, List.append_nil]; rfl)))
    apply LexR_end
    refine hK _ _ ?_
    clear hK K_
    repeat clear hr_
    clear hb_ R_ hops_ ops_
    intro w1 hw1 hf1
    apply tailR (fun _ => ?_) (fun _ => ?_) ?_
    rotate_right 2
    · simp only [putAll, Act.put, List.setIfInBounds_toArray, List.set_cons_succ, List.set_cons_zero]; first | done | rfl
    · simp only [List.drop_succ_cons, List.drop_zero]; first | done | rfl
    simp [allFacts, contOf, Exp.putAt, Exp.fact, Exp.fresh, Exp.blk] at hf1
    clear hf1
    replace k6 := grow_blk hw1 k6
    replace HB := bl_call hw1 HB
    clear hw1
    refine wpList_store_row rfl _ _ _ rfl (w.heap.size + 1) (cw zero8) rfl rfl 37 _ k6 (by kernel_rfl) (by rfl) (cw_one _) ?_
    refine gen_list fun W2 hW => ?_
    replace k6 : W2.heap[w.heap.size + 1]? = some (.cells (cw zero8) 37 (0, 0)) := by subst hW; exact setRow_blk k6 _
    replace HB : Below w.heap.size w W2 := by subst hW; exact bl_row _ _ (by omega) HB
    clear hW
    go_wp2
    exact bodyPost_ret (v := .tuple #[.agg (cw zero8), .bool false]) (results_cell_row_tmp Try.results36 _ _ (w.heap.size + 1) 37 (cw zero8) (0, 0) _ _ rfl rfl k6 Try.underlying37 rfl (by kernel_rfl)) rfl ⟨rfl, HB⟩
/-- A key of a password, as a text. -/
def pbText (p s : ByteArray) (m : Nat) : ByteArray := ⟨(refBytes (outAt (keyB p.data.toList) s.data.toList m)).toArray⟩
end Go.Proofs.Ytpcpdgkkjkkklaa

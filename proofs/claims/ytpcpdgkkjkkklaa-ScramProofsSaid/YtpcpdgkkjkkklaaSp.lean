/- Contracts of params.Iter, of scram's salted, Plain. -/
import Derived.Test.YtpcpdgkkjkkklaaSo
namespace Go.Proofs.Ytpcpdgkkjkkklaa
open Go.RowKit Go.Lib
set_option maxRecDepth 100000
set_option linter.unusedSimpArgs false
set_option linter.unusedVariables false
attribute [local go_sem] evR_tmp evR_const evR_global evR_func
theorem when_c (b : Bool) (n : Int) (w : World) : Calls Try.prog 49 #[.bool b, .int .i64 n] w fun e w' => e = .returned (.int .i64 (if b then n else 0)) ∧ Below w.heap.size w w' := by
  cases b
  all_goals
    go_enter Try.func49, Try.ntmps49
    go_wp2
    first
    | exact bodyPost_ret (v := .int .i64 n) (by simp [results, Try.results49, go_sem]) rfl ⟨rfl, Below.refl _ _⟩
    | exact bodyPost_ret (v := .int .i64 0) (by simp [results, Try.results49, go_sem]) rfl ⟨rfl, Below.refl _ _⟩
theorem iter_ok (n : Int) (h1 : 1 ≤ n) (h2 : n ≤ 16777216) (w : World) : Calls Try.prog 35 #[.int .i64 n] w fun e w' => e = .returned (.int .i64 0) ∧ Below w.heap.size w w' := by
  have q1 : ¬ n < 1 := by omega
  have q2 : ¬ 16777216 < n := by omega
  have hw := fun w => when_c false 7 w
  go_enter Try.func35, Try.ntmps35
  go_wp2_with (go_at_call 49; refine (hw _).mono ?_; rintro e w1 ⟨rfl, hb1⟩)
  exact bodyPost_ret (v := .int .i64 0) (by simp [results, Try.results35, go_sem]) rfl ⟨rfl, hb1⟩
theorem iter_no (n : Int) (h : n < 1 ∨ 16777216 < n) (w : World) : Calls Try.prog 35 #[.int .i64 n] w fun e w' => e = .returned (.int .i64 7) ∧ Below w.heap.size w w' := by
  have hw := fun w => when_c true 7 w
  rcases h with h | h
  · have q1 : n < 1 := h
    clear h
    go_enter Try.func35, Try.ntmps35
    go_wp2_with (go_at_call 49; refine (hw _).mono ?_; rintro e w1 ⟨rfl, hb1⟩)
    exact bodyPost_ret (v := .int .i64 7) (by simp [results, Try.results35, go_sem]) rfl ⟨rfl, hb1⟩
  · have q1 : ¬ n < 1 := by omega
    have q2 : 16777216 < n := h
    clear h
    go_enter Try.func35, Try.ntmps35
    go_wp2_with (go_at_call 49; refine (hw _).mono ?_; rintro e w1 ⟨rfl, hb1⟩)
    exact bodyPost_ret (v := .int .i64 7) (by simp [results, Try.results35, go_sem]) rfl ⟨rfl, hb1⟩
/-- A salted password's words. -/
def saltW (p s : ByteArray) (m : Nat) : List W32 := outAt (keyB p.data.toList) s.data.toList m
theorem saltW_length (p s : ByteArray) (m : Nat) : (saltW p s m).length = 8 := outAt_length _ _ _
set_option maxHeartbeats 4000000 in
theorem salted_c (p s : ByteArray) (hp : p.size ≤ 100000) (hs : s.size ≤ 100000) (m : Nat) (hm : m + 1 ≤ 16777216) (w : World) : Calls Try.prog 24 #[.string p, .string s, .int .i64 ((m : Int) + 1)] w fun e w' => e = .returned (.tuple #[.agg (cw (saltW p s m)), .int .i64 0]) ∧ Below w.heap.size w w' := by
  have hO : ∀ (sv : Value) (w1 : World), SliceOf w1 sv (textw p) → Calls Try.prog 37 #[sv] w1 fun e w' => e = .returned (.agg (cw (stateW (keyB p.data.toList)))) ∧ Below w1.heap.size w1 w' := fun sv w1 h => by
    have := hOf_c (textw p) sv w1 (by rw [textw_length]; omega) h
    rw [low_textw] at this
    exact this
  have hK := fun w => pKey_c (keyB p.data.toList) (keyB_length _) s hs m hm w
  have hSe := fun w => secret_c0 p (by omega) w
  have hI := fun w => iter_ok ((m : Int) + 1) (by omega) (by omega) w
  have L8 := Lib.hid (saltW_length p s m)
  rw [show outAt (keyB p.data.toList) s.data.toList m = saltW p s m from rfl] at hK
  generalize saltW p s m = mid at hK L8 ⊢
  generalize stateW (keyB p.data.toList) = st at hO hK
  obtain ⟨n, hn⟩ : ∃ n, n = (m : Int) + 1 := ⟨_, rfl⟩
  rw [← hn] at hK hI ⊢
  clear hn hm
  go_enter Try.func24, Try.ntmps24
  go_upto_region 1 with (fail)
  refine gen_world fun W hW => ?_
  have k6 : W.heap[w.heap.size]? = some (.cells (Array.replicate 8 (.int .u32 0)) 37 (0, 0)) := by subst hW; exact blk_new' (by simp) _
  have HB : Below w.heap.size w W := by subst hW; (repeat (first | exact Below.refl _ _ | (refine bl_alloc ?_ _) | (refine bl_drewN ?_ _) | (refine bl_drew ?_) | (refine bl_call (by assumption) ?_) | (refine bl_set _ _ (by simp <;> omega) ?_) | assumption))
  clear hW
  go_upto_region 5 with (first | (go_at_call 35; refine (hI _).mono ?_; rintro e w1 ⟨rfl, hw1⟩) | (go_at_call 38; refine (hSe _).mono ?_; rintro e w2 ⟨g, cap, cur, rfl, _, hg, k2, t2, hw2⟩) | (go_at_call 37; refine (hO _ _ (list_slice k2 t2 (by rw [textw_length]))).mono ?_; rintro e w3 ⟨rfl, hw3⟩) | (go_at_call 36; refine (hK _).mono ?_; rintro e w4 ⟨rfl, hw4⟩) | (refine wpList_store_row rfl _ _ _ rfl w4.heap.size (cw mid) rfl rfl 37 _ (blk_new w4 _) (by rw [cw_size, L8.out]; kernel_rfl) (by rw [cw_size, L8.out]; rfl) (cw_one _) ?_))
  refine gen_world fun W4 hW => ?_
  have k9 : W4.heap[w4.heap.size]? = some (.cells (cw mid) 37 (0, 0)) := by subst hW; exact setRow_blk (blk_new w4 _) _
  have hb2 : Below w4.heap.size w4 W4 := by subst hW; exact bl_row _ _ (Nat.le_refl _) (bl_alloc (Below.refl _ _) _)
  have hb3 : Below W.heap.size W W4 := bl_call hb2 (bl_call hw4 (bl_call hw3 (bl_call hw2 hw1)))
  have q2 := blk_lt k6
  have q3 := hw1.size
  have q4 := hw2.size
  have q5 := hw3.size
  have q6 := hw4.size
  have q7 : w.heap.size < w4.heap.size := by omega
  replace k6 := grow_blk hb3 k6
  replace HB := bl_call hb3 HB
  obtain ⟨g9, hg9⟩ : ∃ g, g = w4.heap.size := ⟨_, rfl⟩
  rw [← hg9] at k9 q7 ⊢
  clear hW hb2 hb3 hw1 hw2 hw3 hw4 hg9 hO hK hI hSe k2 t2 q2 q3 q4 q5 q6 hg
  go_wp2_with (first | (refine wpList_load_row rfl _ _ rfl g9 rfl 37 (cw mid) (0, 0) _ k9 Try.underlying37 rfl (by rw [cw_size, L8.out]; kernel_rfl) ?_) | (refine wpList_store_row rfl _ _ _ rfl w.heap.size (cw mid) rfl rfl 37 _ k6 (by rw [cw_size, L8.out]; kernel_rfl) (by rw [cw_size, L8.out]; rfl) (cw_one _) ?_; refine gen_list fun W2 hW => ?_; replace k6 : W2.heap[w.heap.size]? = some (.cells (cw mid) 37 (0, 0)) := (by subst hW; exact setRow_blk k6 _); replace HB : Below w.heap.size w W2 := (by subst hW; exact bl_row _ _ (Nat.le_refl _) HB); clear hW))
  exact bodyPost_ret (v := .tuple #[.agg (cw mid), .int .i64 0]) (results_cell_row_tmp Try.results24 _ _ w.heap.size 37 (cw mid) (0, 0) _ _ rfl rfl k6 Try.underlying37 rfl (by rw [cw_size, L8.out]; kernel_rfl)) rfl ⟨rfl, HB⟩
set_option maxHeartbeats 4000000 in
theorem salted_no (p s : ByteArray) (n : Int) (hn : n < 1 ∨ 16777216 < n) (w : World) : Calls Try.prog 24 #[.string p, .string s, .int .i64 n] w fun e w' => e = .returned (.tuple #[.agg (cw zero8), .int .i64 7]) ∧ Below w.heap.size w w' := by
  have hI := fun w => iter_no n hn w
  clear hn
  go_enter Try.func24, Try.ntmps24
  go_upto_region 1 with (fail)
  refine gen_world fun W hW => ?_
  have k6 : W.heap[w.heap.size]? = some (.cells (Array.replicate 8 (.int .u32 0)) 37 (0, 0)) := by subst hW; exact blk_new' (by simp) _
  have HB : Below w.heap.size w W := by subst hW; (repeat (first | exact Below.refl _ _ | (refine bl_alloc ?_ _) | (refine bl_drewN ?_ _) | (refine bl_drew ?_) | (refine bl_call (by assumption) ?_) | (refine bl_set _ _ (by simp <;> omega) ?_) | assumption))
  clear hW
  go_upto_region 3 with (go_at_call 35; refine (hI _).mono ?_; rintro e w1 ⟨rfl, hw1⟩)
  replace k6 := grow_blk hw1 k6
  replace HB := bl_call hw1 HB
  clear hw1
  go_wp2_with (refine wpList_store_row rfl _ _ _ rfl w.heap.size (cw zero8) rfl rfl 37 _ k6 (by kernel_rfl) (by rfl) (cw_one _) ?_; refine gen_list fun W2 hW => ?_; replace k6 : W2.heap[w.heap.size]? = some (.cells (cw zero8) 37 (0, 0)) := (by subst hW; exact setRow_blk k6 _); replace HB : Below w.heap.size w W2 := (by subst hW; exact bl_row _ _ (Nat.le_refl _) HB); clear hW)
  exact bodyPost_ret (v := .tuple #[.agg (cw zero8), .int .i64 7]) (results_cell_row_tmp Try.results24 _ _ w.heap.size 37 (cw zero8) (0, 0) _ _ rfl rfl k6 Try.underlying37 rfl (by kernel_rfl)) rfl ⟨rfl, HB⟩
end Go.Proofs.Ytpcpdgkkjkkklaa

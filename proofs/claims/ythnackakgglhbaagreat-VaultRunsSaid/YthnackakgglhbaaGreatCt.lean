/- Contracts of the words of package ct: each is the word's plain law. -/
import Derived.Test.YthnackakgglhbaaGreatProg
import Derived.Test.YthnackakgglhbaaGreatWd
import Derived.KernelRfl
import Derived.Outline
import Derived.IntWalk
import Derived.Deep.DeepCutAuto
import Derived.Test.YthnackakgglhbaaGreatGrow
namespace Go.Proofs.YthnackakgglhbaaGreat
open Go.RowKit
set_option maxRecDepth 100000
attribute [local go_sem] xor_iw and_iw or_iw not_iw not_iw' add_iw sub_iw neg_iw shl_iwI shr_iwI IntKind.wrap_u32'

set_option maxHeartbeats 400000 in
theorem Of_i (v : Int) (w : World) : Calls Tryz.prog 68 #[.int .u32 v] w fun e w' => e = .returned (.agg #[.int .u32 v]) ∧ Below w.heap.size w w' := by
  go_enter Tryz.func68, Tryz.ntmps68
  go_wp2
  exact bodyPost_ret (v := .agg #[.int .u32 v]) (by simp [results, Tryz.results68, go_sem]) rfl ⟨rfl, (by repeat (first | exact Below.refl _ _ | apply bl_alloc | refine bl_call (by assumption) ?_ | refine bl_set _ _ (by simp <;> omega) ?_))⟩
theorem Of_c (v : Int) (x : W32) (h : v = iw x) (w : World) : Calls Tryz.prog 68 #[.int .u32 v] w fun e w' => e = .returned (.agg #[.int .u32 (iw x)]) ∧ Below w.heap.size w w' := by
  subst h; exact Of_i _ w

set_option maxHeartbeats 400000 in
theorem Xor_c (x y : W32) (w : World) : Calls Tryz.prog 113 #[.agg #[.int .u32 (iw x)], .agg #[.int .u32 (iw y)]] w fun e w' => e = .returned (.agg #[.int .u32 (iw (x ^^^ y))]) ∧ Below w.heap.size w w' := by
  go_enter Tryz.func113, Tryz.ntmps113
  go_wp2_with (go_at_call 68; refine (Of_i _ _).mono ?_; rintro e w1 ⟨rfl, hb1⟩; obtain ⟨hc1, hf1⟩ := bcell hb1; have hz1 := hb1.size; (try simp at hz1))
  exact bodyPost_ret (v := .agg #[.int .u32 (iw (x ^^^ y))]) (by simp [results, Tryz.results113, go_sem, hc1]) rfl ⟨rfl, (by repeat (first | exact Below.refl _ _ | apply bl_alloc | refine bl_call (by assumption) ?_ | refine bl_set _ _ (by simp <;> omega) ?_))⟩

set_option maxHeartbeats 400000 in
theorem Or_c (x y : W32) (w : World) : Calls Tryz.prog 105 #[.agg #[.int .u32 (iw x)], .agg #[.int .u32 (iw y)]] w fun e w' => e = .returned (.agg #[.int .u32 (iw (x ||| y))]) ∧ Below w.heap.size w w' := by
  go_enter Tryz.func105, Tryz.ntmps105
  go_wp2_with (go_at_call 68; refine (Of_i _ _).mono ?_; rintro e w1 ⟨rfl, hb1⟩; obtain ⟨hc1, hf1⟩ := bcell hb1; have hz1 := hb1.size; (try simp at hz1))
  exact bodyPost_ret (v := .agg #[.int .u32 (iw (x ||| y))]) (by simp [results, Tryz.results105, go_sem, hc1]) rfl ⟨rfl, (by repeat (first | exact Below.refl _ _ | apply bl_alloc | refine bl_call (by assumption) ?_ | refine bl_set _ _ (by simp <;> omega) ?_))⟩

set_option maxHeartbeats 400000 in
theorem And_c (x y : W32) (w : World) : Calls Tryz.prog 66 #[.agg #[.int .u32 (iw x)], .agg #[.int .u32 (iw y)]] w fun e w' => e = .returned (.agg #[.int .u32 (iw (x &&& y))]) ∧ Below w.heap.size w w' := by
  go_enter Tryz.func66, Tryz.ntmps66
  go_wp2_with (go_at_call 68; refine (Of_i _ _).mono ?_; rintro e w1 ⟨rfl, hb1⟩; obtain ⟨hc1, hf1⟩ := bcell hb1; have hz1 := hb1.size; (try simp at hz1))
  exact bodyPost_ret (v := .agg #[.int .u32 (iw (x &&& y))]) (by simp [results, Tryz.results66, go_sem, hc1]) rfl ⟨rfl, (by repeat (first | exact Below.refl _ _ | apply bl_alloc | refine bl_call (by assumption) ?_ | refine bl_set _ _ (by simp <;> omega) ?_))⟩

set_option maxHeartbeats 400000 in
theorem Add_c (x y : W32) (w : World) : Calls Tryz.prog 100 #[.agg #[.int .u32 (iw x)], .agg #[.int .u32 (iw y)]] w fun e w' => e = .returned (.agg #[.int .u32 (iw (x + y))]) ∧ Below w.heap.size w w' := by
  go_enter Tryz.func100, Tryz.ntmps100
  go_wp2_with (go_at_call 68; refine (Of_i _ _).mono ?_; rintro e w1 ⟨rfl, hb1⟩; obtain ⟨hc1, hf1⟩ := bcell hb1; have hz1 := hb1.size; (try simp at hz1))
  exact bodyPost_ret (v := .agg #[.int .u32 (iw (x + y))]) (by simp [results, Tryz.results100, go_sem, hc1]) rfl ⟨rfl, (by repeat (first | exact Below.refl _ _ | apply bl_alloc | refine bl_call (by assumption) ?_ | refine bl_set _ _ (by simp <;> omega) ?_))⟩

set_option maxHeartbeats 400000 in
theorem Not_c (x : W32) (w : World) : Calls Tryz.prog 115 #[.agg #[.int .u32 (iw x)]] w fun e w' => e = .returned (.agg #[.int .u32 (iw (~~~x))]) ∧ Below w.heap.size w w' := by
  go_enter Tryz.func115, Tryz.ntmps115
  go_wp2_with (go_at_call 68; refine (Of_i _ _).mono ?_; rintro e w1 ⟨rfl, hb1⟩; obtain ⟨hc1, hf1⟩ := bcell hb1; have hz1 := hb1.size; (try simp at hz1))
  exact bodyPost_ret (v := .agg #[.int .u32 (iw (~~~x))]) (by simp [results, Tryz.results115, go_sem, hc1]) rfl ⟨rfl, (by repeat (first | exact Below.refl _ _ | apply bl_alloc | refine bl_call (by assumption) ?_ | refine bl_set _ _ (by simp <;> omega) ?_))⟩

set_option maxHeartbeats 400000 in
theorem Sel_c (x y z : W32) (w : World) : Calls Tryz.prog 88 #[.agg #[.int .u32 (iw x)], .agg #[.int .u32 (iw y)], .agg #[.int .u32 (iw z)]] w fun e w' => e = .returned (.agg #[.int .u32 (iw (z ^^^ (x &&& (y ^^^ z))))]) ∧ Below w.heap.size w w' := by
  go_enter Tryz.func88, Tryz.ntmps88
  go_wp2_with (go_at_call 68; refine (Of_i _ _).mono ?_; rintro e w1 ⟨rfl, hb1⟩; obtain ⟨hc1, hf1⟩ := bcell hb1; have hz1 := hb1.size; (try simp at hz1))
  exact bodyPost_ret (v := .agg #[.int .u32 (iw (z ^^^ (x &&& (y ^^^ z))))]) (by simp [results, Tryz.results88, go_sem, hc1]) rfl ⟨rfl, (by repeat (first | exact Below.refl _ _ | apply bl_alloc | refine bl_call (by assumption) ?_ | refine bl_set _ _ (by simp <;> omega) ?_))⟩

set_option maxHeartbeats 400000 in
theorem Shl_c (x : W32) (n : Int) (h0 : 1 ≤ n) (h1 : n ≤ 31) (w : World) : Calls Tryz.prog 106 #[.agg #[.int .u32 (iw x)], .int .i64 n] w fun e w' => e = .returned (.agg #[.int .u32 (iw (shlI x n))]) ∧ Below w.heap.size w w' := by
  go_enter Tryz.func106, Tryz.ntmps106
  go_wp2_with (go_at_call 68; refine (Of_i _ _).mono ?_; rintro e w1 ⟨rfl, hb1⟩; obtain ⟨hc1, hf1⟩ := bcell hb1; have hz1 := hb1.size; (try simp at hz1))
  exact bodyPost_ret (v := .agg #[.int .u32 (iw (shlI x n))]) (by simp [results, Tryz.results106, go_sem, hc1]) rfl ⟨rfl, (by repeat (first | exact Below.refl _ _ | apply bl_alloc | refine bl_call (by assumption) ?_ | refine bl_set _ _ (by simp <;> omega) ?_))⟩

set_option maxHeartbeats 400000 in
theorem Shr_c (x : W32) (n : Int) (h0 : 1 ≤ n) (h1 : n ≤ 31) (w : World) : Calls Tryz.prog 67 #[.agg #[.int .u32 (iw x)], .int .i64 n] w fun e w' => e = .returned (.agg #[.int .u32 (iw (shrI x n))]) ∧ Below w.heap.size w w' := by
  go_enter Tryz.func67, Tryz.ntmps67
  go_wp2_with (go_at_call 68; refine (Of_i _ _).mono ?_; rintro e w1 ⟨rfl, hb1⟩; obtain ⟨hc1, hf1⟩ := bcell hb1; have hz1 := hb1.size; (try simp at hz1))
  exact bodyPost_ret (v := .agg #[.int .u32 (iw (shrI x n))]) (by simp [results, Tryz.results67, go_sem, hc1]) rfl ⟨rfl, (by repeat (first | exact Below.refl _ _ | apply bl_alloc | refine bl_call (by assumption) ?_ | refine bl_set _ _ (by simp <;> omega) ?_))⟩

set_option maxHeartbeats 400000 in
theorem Shl0_c (x : W32) (w : World) : Calls Tryz.prog 106 #[.agg #[.int .u32 (iw x)], .int .i64 0] w fun e w' => e = .returned (.agg #[.int .u32 (iw x)]) ∧ Below w.heap.size w w' := by
  go_enter Tryz.func106, Tryz.ntmps106
  go_wp2
  exact bodyPost_ret (v := .agg #[.int .u32 (iw x)]) (by simp [results, Tryz.results106, go_sem]) rfl ⟨rfl, (by repeat (first | exact Below.refl _ _ | apply bl_alloc | refine bl_call (by assumption) ?_ | refine bl_set _ _ (by simp <;> omega) ?_))⟩

set_option maxHeartbeats 400000 in
theorem Shr0_c (x : W32) (w : World) : Calls Tryz.prog 67 #[.agg #[.int .u32 (iw x)], .int .i64 0] w fun e w' => e = .returned (.agg #[.int .u32 (iw x)]) ∧ Below w.heap.size w w' := by
  go_enter Tryz.func67, Tryz.ntmps67
  go_wp2
  exact bodyPost_ret (v := .agg #[.int .u32 (iw x)]) (by simp [results, Tryz.results67, go_sem]) rfl ⟨rfl, (by repeat (first | exact Below.refl _ _ | apply bl_alloc | refine bl_call (by assumption) ?_ | refine bl_set _ _ (by simp <;> omega) ?_))⟩

theorem or_rot (x : W32) (n : Int) : shrI x n ||| shlI x (32 - n) = rotI x n := rfl
attribute [local go_sem] or_rot
set_option maxHeartbeats 400000 in
theorem Rot_c (x : W32) (n : Int) (h0 : 1 ≤ n) (h1 : n ≤ 31) (w : World) : Calls Tryz.prog 112 #[.agg #[.int .u32 (iw x)], .int .i64 n] w fun e w' => e = .returned (.agg #[.int .u32 (iw (rotI x n))]) ∧ Below w.heap.size w w' := by
  have e31 := and31 n (by omega) h1
  go_enter Tryz.func112, Tryz.ntmps112
  go_wp2_with fail
  clear e31
  refine gen_world fun W hW => ?_
  have k1 : W.heap[w.heap.size]? = some (.cells #[.int .u32 (iw x)] 80 (0, 0)) := by subst hW; (repeat (first | (with_reducible assumption) | ((with_reducible refine blk_new' ?_ _); (simp; done)) | ((with_reducible refine blk_alloc ?_ _)) | ((with_reducible refine blk_far ?_ ?_ _); (simp <;> omega))))
  have k2 : W.heap[w.heap.size + 1]? = some (.cells #[.int .u32 0] 80 (0, 0)) := by subst hW; (repeat (first | (with_reducible assumption) | ((with_reducible refine blk_new' ?_ _); (simp; done)) | ((with_reducible refine blk_alloc ?_ _)) | ((with_reducible refine blk_far ?_ ?_ _); (simp <;> omega))))
  have HB : Below w.heap.size w W := by subst hW; (repeat (first | exact Below.refl _ _ | (refine bl_alloc ?_ _) | (refine bl_drewN ?_ _) | (refine bl_drew ?_) | (refine bl_call (by assumption) ?_) | (refine bl_set _ _ (by simp <;> omega) ?_) | assumption))
  clear hW
  have e32 : IntKind.i64.wrap (32 - n) = 32 - n := IntWalk.i64_in _ (by omega)
  have e33 : ¬ (32 - n < 0) := by omega
  refine wp_region_grow (fun w' => Below W.heap.size W w') 10 (by kernel_rfl) (by kernel_rfl) ⟨rfl, rfl, rfl, Nat.le_refl _, fun _ _ => rfl⟩ ?_
  simp only [List.take_succ_cons, List.take_zero, List.drop_succ_cons, List.drop_zero]
  repeat (refine wpQuiet_step (fun K hK => ?_); go_simp; first | (refine hK _ ?_; clear hK K) | (apply Exists.intro; refine ⟨fun w1 hw1 => ?_, hK _ ?_⟩; (first | exact rfl | (rw [(blk_cell (grow_blk hw1 k1) _)]; exact ⟨rfl, rfl⟩) | (go_at_call 67; refine Calls_grow hw1 (Shr_c x n h0 h1 w1)) | (go_at_call 68; refine Calls_grow hw1 (Of_i _ w1)) | (go_at_call 105; refine Calls_grow hw1 (Or_c _ _ w1))); clear hK K))
  refine wpQuiet_nil ?_
  intro w1 hw1
  have c2 := blk_cell (grow_blk hw1 k2) 0
  have f2 := blk_frozen (grow_blk hw1 k2) 0
  go_wp2
  exact bodyPost_ret (v := .agg #[.int .u32 (iw (rotI x n))]) (by simp [results, Tryz.results112, go_sem, c2]) rfl ⟨rfl, (by (repeat (first | exact Below.refl _ _ | (refine bl_alloc ?_ _) | (refine bl_drewN ?_ _) | (refine bl_drew ?_) | (refine bl_call (by assumption) ?_) | (refine bl_set _ _ (by simp <;> omega) ?_) | assumption)))⟩

set_option maxHeartbeats 400000 in
theorem spread_c (x : W32) (w : World) : Calls Tryz.prog 96 #[.int .u32 (iw x)] w fun e w' => e = .returned (.agg #[.int .u32 (iw (mk (hib x)))]) ∧ Below w.heap.size w w' := by
  go_enter Tryz.func96, Tryz.ntmps96
  go_wp2_with (go_at_call 68; refine (Of_c _ (mk (hib x)) (by rw [spread_iw]) _).mono ?_; rintro e w1 ⟨rfl, hb1⟩; obtain ⟨hc1, hf1⟩ := bcell hb1; have hz1 := hb1.size; (try simp at hz1))
  exact bodyPost_ret (v := .agg #[.int .u32 (iw (mk (hib x)))]) (by simp [results, Tryz.results96, go_sem, hc1]) rfl ⟨rfl, (by repeat (first | exact Below.refl _ _ | apply bl_alloc | refine bl_call (by assumption) ?_ | refine bl_set _ _ (by simp <;> omega) ?_))⟩

set_option maxHeartbeats 400000 in
theorem Zero_r_c (x : W32) (w : World) : Calls Tryz.prog 114 #[.agg #[.int .u32 (iw x)]] w fun e w' => e = .returned (.agg #[.int .u32 (iw (~~~(mk (hib (x ||| -x)))))]) ∧ Below w.heap.size w w' := by
  go_enter Tryz.func114, Tryz.ntmps114
  go_upto_region 1 with (fail)
  refine gen_world fun W hW => ?_
  have k1 : W.heap[w.heap.size]? = some (.cells #[.int .u32 (iw x)] 80 (0, 0)) := by subst hW; (repeat (first | (with_reducible assumption) | ((with_reducible refine blk_new' ?_ _); (simp; done)) | ((with_reducible refine blk_alloc ?_ _)) | ((with_reducible refine blk_far ?_ ?_ _); (simp <;> omega))))
  have k2 : W.heap[w.heap.size + 1]? = some (.cells #[.int .u32 0] 80 (0, 0)) := by subst hW; (repeat (first | (with_reducible assumption) | ((with_reducible refine blk_new' ?_ _); (simp; done)) | ((with_reducible refine blk_alloc ?_ _)) | ((with_reducible refine blk_far ?_ ?_ _); (simp <;> omega))))
  have HB : Below w.heap.size w W := by subst hW; (repeat (first | exact Below.refl _ _ | (refine bl_alloc ?_ _) | (refine bl_drewN ?_ _) | (refine bl_drew ?_) | (refine bl_call (by assumption) ?_) | (refine bl_set _ _ (by simp <;> omega) ?_) | assumption))
  clear hW
  refine wp_region_flow (fun w' => Below W.heap.size W w') 8 (Below.refl _ _) ?_
  simp only [List.take_succ_cons, List.take_zero, List.drop_succ_cons, List.drop_zero]
  repeat (refine wpQuiet_step (fun K hK => ?_); go_simp; first | (refine hK _ ?_; clear hK K) | (apply Exists.intro; refine ⟨fun w1 hw1 => ?_, hK _ ?_⟩; (first | exact rfl | (rw [(blk_cell (grow_blk hw1 k1) _)]; exact ⟨rfl, rfl⟩) | (go_at_call 96; refine Calls_grow hw1 (spread_c _ w1)) | (go_at_call 115; refine Calls_grow hw1 (Not_c _ w1))); clear hK K))
  refine wpQuiet_nil ?_
  intro w1 hw1
  have c_ := blk_cell (grow_blk hw1 k2) 0
  have f_ := blk_frozen (grow_blk hw1 k2) 0
  go_wp2
  exact bodyPost_ret (v := .agg #[.int .u32 (iw (~~~(mk (hib (x ||| -x)))))]) (by simp [results, Tryz.results114, go_sem, c_]) rfl ⟨rfl, (by (repeat (first | exact Below.refl _ _ | (refine bl_alloc ?_ _) | (refine bl_drewN ?_ _) | (refine bl_drew ?_) | (refine bl_call (by assumption) ?_) | (refine bl_set _ _ (by simp <;> omega) ?_) | assumption)))⟩

theorem Zero_c (x : W32) (w : World) : Calls Tryz.prog 114 #[.agg #[.int .u32 (iw x)]] w fun e w' => e = .returned (.agg #[.int .u32 (iw (mk (eqw x 0#32)))]) ∧ Below w.heap.size w w' := by
  have h := Zero_r_c x w
  rw [zero_hib] at h
  exact h

set_option maxHeartbeats 400000 in
theorem Eq_r_c (x y : W32) (w : World) : Calls Tryz.prog 104 #[.agg #[.int .u32 (iw x)], .agg #[.int .u32 (iw y)]] w fun e w' => e = .returned (.agg #[.int .u32 (iw (mk (eqw (x ^^^ y) 0#32)))]) ∧ Below w.heap.size w w' := by
  go_enter Tryz.func104, Tryz.ntmps104
  go_upto_region 1 with (fail)
  refine gen_world fun W hW => ?_
  have k1 : W.heap[w.heap.size]? = some (.cells #[.int .u32 (iw x)] 80 (0, 0)) := by subst hW; (repeat (first | (with_reducible assumption) | ((with_reducible refine blk_new' ?_ _); (simp; done)) | ((with_reducible refine blk_alloc ?_ _)) | ((with_reducible refine blk_far ?_ ?_ _); (simp <;> omega))))
  have k2 : W.heap[w.heap.size + 1]? = some (.cells #[.int .u32 (iw y)] 80 (0, 0)) := by subst hW; (repeat (first | (with_reducible assumption) | ((with_reducible refine blk_new' ?_ _); (simp; done)) | ((with_reducible refine blk_alloc ?_ _)) | ((with_reducible refine blk_far ?_ ?_ _); (simp <;> omega))))
  have k3 : W.heap[w.heap.size + 1 + 1]? = some (.cells #[.int .u32 0] 80 (0, 0)) := by subst hW; (repeat (first | (with_reducible assumption) | ((with_reducible refine blk_new' ?_ _); (simp; done)) | ((with_reducible refine blk_alloc ?_ _)) | ((with_reducible refine blk_far ?_ ?_ _); (simp <;> omega))))
  have HB : Below w.heap.size w W := by subst hW; (repeat (first | exact Below.refl _ _ | (refine bl_alloc ?_ _) | (refine bl_drewN ?_ _) | (refine bl_drew ?_) | (refine bl_call (by assumption) ?_) | (refine bl_set _ _ (by simp <;> omega) ?_) | assumption))
  clear hW
  refine wp_region_flow (fun w' => Below W.heap.size W w') 4 (Below.refl _ _) ?_
  simp only [List.take_succ_cons, List.take_zero, List.drop_succ_cons, List.drop_zero]
  repeat (refine wpQuiet_step (fun K hK => ?_); go_simp; first | (refine hK _ ?_; clear hK K) | (apply Exists.intro; refine ⟨fun w1 hw1 => ?_, hK _ ?_⟩; (first | exact rfl | (rw [(blk_cell (grow_blk hw1 k1) _)]; exact ⟨rfl, rfl⟩) | (rw [(blk_cell (grow_blk hw1 k2) _)]; exact ⟨rfl, rfl⟩) | (go_at_call 113; refine Calls_grow hw1 (Xor_c _ _ w1)) | (go_at_call 114; refine Calls_grow hw1 (Zero_c _ w1))); clear hK K))
  refine wpQuiet_nil ?_
  intro w1 hw1
  have c_ := blk_cell (grow_blk hw1 k3) 0
  have f_ := blk_frozen (grow_blk hw1 k3) 0
  go_wp2
  exact bodyPost_ret (v := .agg #[.int .u32 (iw (mk (eqw (x ^^^ y) 0#32)))]) (by simp [results, Tryz.results104, go_sem, c_]) rfl ⟨rfl, (by (repeat (first | exact Below.refl _ _ | (refine bl_alloc ?_ _) | (refine bl_drewN ?_ _) | (refine bl_drew ?_) | (refine bl_call (by assumption) ?_) | (refine bl_set _ _ (by simp <;> omega) ?_) | assumption)))⟩

theorem Eq_c (x y : W32) (w : World) : Calls Tryz.prog 104 #[.agg #[.int .u32 (iw x)], .agg #[.int .u32 (iw y)]] w fun e w' => e = .returned (.agg #[.int .u32 (iw (mk (eqw x y)))]) ∧ Below w.heap.size w w' := by
  have h := Eq_r_c x y w
  rw [eq_hib] at h
  exact h

set_option maxHeartbeats 400000 in
theorem Lt_r_c (x y : W32) (w : World) : Calls Tryz.prog 87 #[.agg #[.int .u32 (iw x)], .agg #[.int .u32 (iw y)]] w fun e w' => e = .returned (.agg #[.int .u32 (iw (mk (hib ((~~~x &&& y) ||| ((~~~x ||| y) &&& (x - y))))))]) ∧ Below w.heap.size w w' := by
  go_enter Tryz.func87, Tryz.ntmps87
  go_wp2_with (go_at_call 96; refine (spread_c ((~~~x &&& y) ||| ((~~~x ||| y) &&& (x - y))) _).mono ?_; rintro e w1 ⟨rfl, hb1⟩; obtain ⟨hc1, hf1⟩ := bcell hb1; have hz1 := hb1.size; (try simp at hz1))
  exact bodyPost_ret (v := .agg #[.int .u32 (iw (mk (hib ((~~~x &&& y) ||| ((~~~x ||| y) &&& (x - y))))))]) (by simp [results, Tryz.results87, go_sem, hc1]) rfl ⟨rfl, (by repeat (first | exact Below.refl _ _ | apply bl_alloc | refine bl_call (by assumption) ?_ | refine bl_set _ _ (by simp <;> omega) ?_))⟩

theorem Lt_c (x y : W32) (w : World) : Calls Tryz.prog 87 #[.agg #[.int .u32 (iw x)], .agg #[.int .u32 (iw y)]] w fun e w' => e = .returned (.agg #[.int .u32 (iw (mk (ltw x y)))]) ∧ Below w.heap.size w w' := by
  have h := Lt_r_c x y w
  rw [lt_hib] at h
  exact h

end Go.Proofs.YthnackakgglhbaaGreat

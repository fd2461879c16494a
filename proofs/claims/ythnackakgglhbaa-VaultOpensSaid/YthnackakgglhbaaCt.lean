/- Contracts of the words of package ct: each is the word's plain law. -/
import Derived.Test.YthnackakgglhbaaProg
import Derived.Test.YthnackakgglhbaaWd
import Derived.KernelRfl
import Derived.Outline
import Derived.IntWalk
import Derived.Deep.DeepCutAuto
import Derived.Test.YthnackakgglhbaaGrow
namespace Go.Proofs.Ythnackakgglhbaa
open Go.RowKit
set_option maxRecDepth 100000
attribute [local go_sem] xor_iw and_iw or_iw not_iw not_iw' add_iw sub_iw neg_iw shl_iwI shr_iwI IntKind.wrap_u32'

set_option maxHeartbeats 400000 in
theorem Of_i (v : Int) (w : World) : Calls Try.prog 35 #[.int .u32 v] w fun e w' => e = .returned (.agg #[.int .u32 v]) ∧ Below w.heap.size w w' := by
  go_enter Try.func35, Try.ntmps35
  go_wp2
  exact bodyPost_ret (v := .agg #[.int .u32 v]) (by simp [results, Try.results35, go_sem]) rfl ⟨rfl, (by repeat (first | exact Below.refl _ _ | apply bl_alloc | refine bl_call (by assumption) ?_ | refine bl_set _ _ (by simp <;> omega) ?_))⟩
theorem Of_c (v : Int) (x : W32) (h : v = iw x) (w : World) : Calls Try.prog 35 #[.int .u32 v] w fun e w' => e = .returned (.agg #[.int .u32 (iw x)]) ∧ Below w.heap.size w w' := by
  subst h; exact Of_i _ w

set_option maxHeartbeats 400000 in
theorem Xor_c (x y : W32) (w : World) : Calls Try.prog 78 #[.agg #[.int .u32 (iw x)], .agg #[.int .u32 (iw y)]] w fun e w' => e = .returned (.agg #[.int .u32 (iw (x ^^^ y))]) ∧ Below w.heap.size w w' := by
  go_enter Try.func78, Try.ntmps78
  go_wp2_with (go_at_call 35; refine (Of_i _ _).mono ?_; rintro e w1 ⟨rfl, hb1⟩; obtain ⟨hc1, hf1⟩ := bcell hb1; have hz1 := hb1.size; (try simp at hz1))
  exact bodyPost_ret (v := .agg #[.int .u32 (iw (x ^^^ y))]) (by simp [results, Try.results78, go_sem, hc1]) rfl ⟨rfl, (by repeat (first | exact Below.refl _ _ | apply bl_alloc | refine bl_call (by assumption) ?_ | refine bl_set _ _ (by simp <;> omega) ?_))⟩

set_option maxHeartbeats 400000 in
theorem Or_c (x y : W32) (w : World) : Calls Try.prog 64 #[.agg #[.int .u32 (iw x)], .agg #[.int .u32 (iw y)]] w fun e w' => e = .returned (.agg #[.int .u32 (iw (x ||| y))]) ∧ Below w.heap.size w w' := by
  go_enter Try.func64, Try.ntmps64
  go_wp2_with (go_at_call 35; refine (Of_i _ _).mono ?_; rintro e w1 ⟨rfl, hb1⟩; obtain ⟨hc1, hf1⟩ := bcell hb1; have hz1 := hb1.size; (try simp at hz1))
  exact bodyPost_ret (v := .agg #[.int .u32 (iw (x ||| y))]) (by simp [results, Try.results64, go_sem, hc1]) rfl ⟨rfl, (by repeat (first | exact Below.refl _ _ | apply bl_alloc | refine bl_call (by assumption) ?_ | refine bl_set _ _ (by simp <;> omega) ?_))⟩

set_option maxHeartbeats 400000 in
theorem And_c (x y : W32) (w : World) : Calls Try.prog 33 #[.agg #[.int .u32 (iw x)], .agg #[.int .u32 (iw y)]] w fun e w' => e = .returned (.agg #[.int .u32 (iw (x &&& y))]) ∧ Below w.heap.size w w' := by
  go_enter Try.func33, Try.ntmps33
  go_wp2_with (go_at_call 35; refine (Of_i _ _).mono ?_; rintro e w1 ⟨rfl, hb1⟩; obtain ⟨hc1, hf1⟩ := bcell hb1; have hz1 := hb1.size; (try simp at hz1))
  exact bodyPost_ret (v := .agg #[.int .u32 (iw (x &&& y))]) (by simp [results, Try.results33, go_sem, hc1]) rfl ⟨rfl, (by repeat (first | exact Below.refl _ _ | apply bl_alloc | refine bl_call (by assumption) ?_ | refine bl_set _ _ (by simp <;> omega) ?_))⟩

set_option maxHeartbeats 400000 in
theorem Add_c (x y : W32) (w : World) : Calls Try.prog 59 #[.agg #[.int .u32 (iw x)], .agg #[.int .u32 (iw y)]] w fun e w' => e = .returned (.agg #[.int .u32 (iw (x + y))]) ∧ Below w.heap.size w w' := by
  go_enter Try.func59, Try.ntmps59
  go_wp2_with (go_at_call 35; refine (Of_i _ _).mono ?_; rintro e w1 ⟨rfl, hb1⟩; obtain ⟨hc1, hf1⟩ := bcell hb1; have hz1 := hb1.size; (try simp at hz1))
  exact bodyPost_ret (v := .agg #[.int .u32 (iw (x + y))]) (by simp [results, Try.results59, go_sem, hc1]) rfl ⟨rfl, (by repeat (first | exact Below.refl _ _ | apply bl_alloc | refine bl_call (by assumption) ?_ | refine bl_set _ _ (by simp <;> omega) ?_))⟩

set_option maxHeartbeats 400000 in
theorem Not_c (x : W32) (w : World) : Calls Try.prog 82 #[.agg #[.int .u32 (iw x)]] w fun e w' => e = .returned (.agg #[.int .u32 (iw (~~~x))]) ∧ Below w.heap.size w w' := by
  go_enter Try.func82, Try.ntmps82
  go_wp2_with (go_at_call 35; refine (Of_i _ _).mono ?_; rintro e w1 ⟨rfl, hb1⟩; obtain ⟨hc1, hf1⟩ := bcell hb1; have hz1 := hb1.size; (try simp at hz1))
  exact bodyPost_ret (v := .agg #[.int .u32 (iw (~~~x))]) (by simp [results, Try.results82, go_sem, hc1]) rfl ⟨rfl, (by repeat (first | exact Below.refl _ _ | apply bl_alloc | refine bl_call (by assumption) ?_ | refine bl_set _ _ (by simp <;> omega) ?_))⟩

set_option maxHeartbeats 400000 in
theorem Sel_c (x y z : W32) (w : World) : Calls Try.prog 46 #[.agg #[.int .u32 (iw x)], .agg #[.int .u32 (iw y)], .agg #[.int .u32 (iw z)]] w fun e w' => e = .returned (.agg #[.int .u32 (iw (z ^^^ (x &&& (y ^^^ z))))]) ∧ Below w.heap.size w w' := by
  go_enter Try.func46, Try.ntmps46
  go_wp2_with (go_at_call 35; refine (Of_i _ _).mono ?_; rintro e w1 ⟨rfl, hb1⟩; obtain ⟨hc1, hf1⟩ := bcell hb1; have hz1 := hb1.size; (try simp at hz1))
  exact bodyPost_ret (v := .agg #[.int .u32 (iw (z ^^^ (x &&& (y ^^^ z))))]) (by simp [results, Try.results46, go_sem, hc1]) rfl ⟨rfl, (by repeat (first | exact Below.refl _ _ | apply bl_alloc | refine bl_call (by assumption) ?_ | refine bl_set _ _ (by simp <;> omega) ?_))⟩

set_option maxHeartbeats 400000 in
theorem Shl_c (x : W32) (n : Int) (h0 : 1 ≤ n) (h1 : n ≤ 31) (w : World) : Calls Try.prog 65 #[.agg #[.int .u32 (iw x)], .int .i64 n] w fun e w' => e = .returned (.agg #[.int .u32 (iw (shlI x n))]) ∧ Below w.heap.size w w' := by
  go_enter Try.func65, Try.ntmps65
  go_wp2_with (go_at_call 35; refine (Of_i _ _).mono ?_; rintro e w1 ⟨rfl, hb1⟩; obtain ⟨hc1, hf1⟩ := bcell hb1; have hz1 := hb1.size; (try simp at hz1))
  exact bodyPost_ret (v := .agg #[.int .u32 (iw (shlI x n))]) (by simp [results, Try.results65, go_sem, hc1]) rfl ⟨rfl, (by repeat (first | exact Below.refl _ _ | apply bl_alloc | refine bl_call (by assumption) ?_ | refine bl_set _ _ (by simp <;> omega) ?_))⟩

set_option maxHeartbeats 400000 in
theorem Shr_c (x : W32) (n : Int) (h0 : 1 ≤ n) (h1 : n ≤ 31) (w : World) : Calls Try.prog 34 #[.agg #[.int .u32 (iw x)], .int .i64 n] w fun e w' => e = .returned (.agg #[.int .u32 (iw (shrI x n))]) ∧ Below w.heap.size w w' := by
  go_enter Try.func34, Try.ntmps34
  go_wp2_with (go_at_call 35; refine (Of_i _ _).mono ?_; rintro e w1 ⟨rfl, hb1⟩; obtain ⟨hc1, hf1⟩ := bcell hb1; have hz1 := hb1.size; (try simp at hz1))
  exact bodyPost_ret (v := .agg #[.int .u32 (iw (shrI x n))]) (by simp [results, Try.results34, go_sem, hc1]) rfl ⟨rfl, (by repeat (first | exact Below.refl _ _ | apply bl_alloc | refine bl_call (by assumption) ?_ | refine bl_set _ _ (by simp <;> omega) ?_))⟩

set_option maxHeartbeats 400000 in
theorem Shl0_c (x : W32) (w : World) : Calls Try.prog 65 #[.agg #[.int .u32 (iw x)], .int .i64 0] w fun e w' => e = .returned (.agg #[.int .u32 (iw x)]) ∧ Below w.heap.size w w' := by
  go_enter Try.func65, Try.ntmps65
  go_wp2
  exact bodyPost_ret (v := .agg #[.int .u32 (iw x)]) (by simp [results, Try.results65, go_sem]) rfl ⟨rfl, (by repeat (first | exact Below.refl _ _ | apply bl_alloc | refine bl_call (by assumption) ?_ | refine bl_set _ _ (by simp <;> omega) ?_))⟩

set_option maxHeartbeats 400000 in
theorem Shr0_c (x : W32) (w : World) : Calls Try.prog 34 #[.agg #[.int .u32 (iw x)], .int .i64 0] w fun e w' => e = .returned (.agg #[.int .u32 (iw x)]) ∧ Below w.heap.size w w' := by
  go_enter Try.func34, Try.ntmps34
  go_wp2
  exact bodyPost_ret (v := .agg #[.int .u32 (iw x)]) (by simp [results, Try.results34, go_sem]) rfl ⟨rfl, (by repeat (first | exact Below.refl _ _ | apply bl_alloc | refine bl_call (by assumption) ?_ | refine bl_set _ _ (by simp <;> omega) ?_))⟩

theorem or_rot (x : W32) (n : Int) : shrI x n ||| shlI x (32 - n) = rotI x n := rfl
attribute [local go_sem] or_rot
set_option maxHeartbeats 400000 in
theorem Rot_c (x : W32) (n : Int) (h0 : 1 ≤ n) (h1 : n ≤ 31) (w : World) : Calls Try.prog 77 #[.agg #[.int .u32 (iw x)], .int .i64 n] w fun e w' => e = .returned (.agg #[.int .u32 (iw (rotI x n))]) ∧ Below w.heap.size w w' := by
  have e31 := and31 n (by omega) h1
  go_enter Try.func77, Try.ntmps77
  go_wp2_with fail
  clear e31
  refine gen_world fun W hW => ?_
  have k1 : W.heap[w.heap.size]? = some (.cells #[.int .u32 (iw x)] 55 (0, 0)) := by subst hW; (repeat (first | (with_reducible assumption) | ((with_reducible refine blk_new' ?_ _); (simp; done)) | ((with_reducible refine blk_alloc ?_ _)) | ((with_reducible refine blk_far ?_ ?_ _); (simp <;> omega))))
  have k2 : W.heap[w.heap.size + 1]? = some (.cells #[.int .u32 0] 55 (0, 0)) := by subst hW; (repeat (first | (with_reducible assumption) | ((with_reducible refine blk_new' ?_ _); (simp; done)) | ((with_reducible refine blk_alloc ?_ _)) | ((with_reducible refine blk_far ?_ ?_ _); (simp <;> omega))))
  have HB : Below w.heap.size w W := by subst hW; (repeat (first | exact Below.refl _ _ | (refine bl_alloc ?_ _) | (refine bl_drewN ?_ _) | (refine bl_drew ?_) | (refine bl_call (by assumption) ?_) | (refine bl_set _ _ (by simp <;> omega) ?_) | assumption))
  clear hW
  have e32 : IntKind.i64.wrap (32 - n) = 32 - n := IntWalk.i64_in _ (by omega)
  have e33 : ¬ (32 - n < 0) := by omega
  refine wp_region_grow (fun w' => Below W.heap.size W w') 10 (by kernel_rfl) (by kernel_rfl) ⟨rfl, rfl, rfl, Nat.le_refl _, fun _ _ => rfl⟩ ?_
  simp only [List.take_succ_cons, List.take_zero, List.drop_succ_cons, List.drop_zero]
  repeat (refine wpQuiet_step (fun K hK => ?_); go_simp; first | (refine hK _ ?_; clear hK K) | (apply Exists.intro; refine ⟨fun w1 hw1 => ?_, hK _ ?_⟩; (first | exact rfl | (rw [(blk_cell (grow_blk hw1 k1) _)]; exact ⟨rfl, rfl⟩) | (go_at_call 34; refine Calls_grow hw1 (Shr_c x n h0 h1 w1)) | (go_at_call 35; refine Calls_grow hw1 (Of_i _ w1)) | (go_at_call 64; refine Calls_grow hw1 (Or_c _ _ w1))); clear hK K))
  refine wpQuiet_nil ?_
  intro w1 hw1
  have c2 := blk_cell (grow_blk hw1 k2) 0
  have f2 := blk_frozen (grow_blk hw1 k2) 0
  go_wp2
  exact bodyPost_ret (v := .agg #[.int .u32 (iw (rotI x n))]) (by simp [results, Try.results77, go_sem, c2]) rfl ⟨rfl, (by (repeat (first | exact Below.refl _ _ | (refine bl_alloc ?_ _) | (refine bl_drewN ?_ _) | (refine bl_drew ?_) | (refine bl_call (by assumption) ?_) | (refine bl_set _ _ (by simp <;> omega) ?_) | assumption)))⟩

set_option maxHeartbeats 400000 in
theorem spread_c (x : W32) (w : World) : Calls Try.prog 55 #[.int .u32 (iw x)] w fun e w' => e = .returned (.agg #[.int .u32 (iw (mk (hib x)))]) ∧ Below w.heap.size w w' := by
  go_enter Try.func55, Try.ntmps55
  go_wp2_with (go_at_call 35; refine (Of_c _ (mk (hib x)) (by rw [spread_iw]) _).mono ?_; rintro e w1 ⟨rfl, hb1⟩; obtain ⟨hc1, hf1⟩ := bcell hb1; have hz1 := hb1.size; (try simp at hz1))
  exact bodyPost_ret (v := .agg #[.int .u32 (iw (mk (hib x)))]) (by simp [results, Try.results55, go_sem, hc1]) rfl ⟨rfl, (by repeat (first | exact Below.refl _ _ | apply bl_alloc | refine bl_call (by assumption) ?_ | refine bl_set _ _ (by simp <;> omega) ?_))⟩

set_option maxHeartbeats 400000 in
theorem Zero_r_c (x : W32) (w : World) : Calls Try.prog 79 #[.agg #[.int .u32 (iw x)]] w fun e w' => e = .returned (.agg #[.int .u32 (iw (~~~(mk (hib (x ||| -x)))))]) ∧ Below w.heap.size w w' := by
  go_enter Try.func79, Try.ntmps79
  go_upto_region 1 with (fail)
  refine gen_world fun W hW => ?_
  have k1 : W.heap[w.heap.size]? = some (.cells #[.int .u32 (iw x)] 55 (0, 0)) := by subst hW; (repeat (first | (with_reducible assumption) | ((with_reducible refine blk_new' ?_ _); (simp; done)) | ((with_reducible refine blk_alloc ?_ _)) | ((with_reducible refine blk_far ?_ ?_ _); (simp <;> omega))))
  have k2 : W.heap[w.heap.size + 1]? = some (.cells #[.int .u32 0] 55 (0, 0)) := by subst hW; (repeat (first | (with_reducible assumption) | ((with_reducible refine blk_new' ?_ _); (simp; done)) | ((with_reducible refine blk_alloc ?_ _)) | ((with_reducible refine blk_far ?_ ?_ _); (simp <;> omega))))
  have HB : Below w.heap.size w W := by subst hW; (repeat (first | exact Below.refl _ _ | (refine bl_alloc ?_ _) | (refine bl_drewN ?_ _) | (refine bl_drew ?_) | (refine bl_call (by assumption) ?_) | (refine bl_set _ _ (by simp <;> omega) ?_) | assumption))
  clear hW
  refine wp_region_flow (fun w' => Below W.heap.size W w') 8 (Below.refl _ _) ?_
  simp only [List.take_succ_cons, List.take_zero, List.drop_succ_cons, List.drop_zero]
  repeat (refine wpQuiet_step (fun K hK => ?_); go_simp; first | (refine hK _ ?_; clear hK K) | (apply Exists.intro; refine ⟨fun w1 hw1 => ?_, hK _ ?_⟩; (first | exact rfl | (rw [(blk_cell (grow_blk hw1 k1) _)]; exact ⟨rfl, rfl⟩) | (go_at_call 55; refine Calls_grow hw1 (spread_c _ w1)) | (go_at_call 82; refine Calls_grow hw1 (Not_c _ w1))); clear hK K))
  refine wpQuiet_nil ?_
  intro w1 hw1
  have c_ := blk_cell (grow_blk hw1 k2) 0
  have f_ := blk_frozen (grow_blk hw1 k2) 0
  go_wp2
  exact bodyPost_ret (v := .agg #[.int .u32 (iw (~~~(mk (hib (x ||| -x)))))]) (by simp [results, Try.results79, go_sem, c_]) rfl ⟨rfl, (by (repeat (first | exact Below.refl _ _ | (refine bl_alloc ?_ _) | (refine bl_drewN ?_ _) | (refine bl_drew ?_) | (refine bl_call (by assumption) ?_) | (refine bl_set _ _ (by simp <;> omega) ?_) | assumption)))⟩

theorem Zero_c (x : W32) (w : World) : Calls Try.prog 79 #[.agg #[.int .u32 (iw x)]] w fun e w' => e = .returned (.agg #[.int .u32 (iw (mk (eqw x 0#32)))]) ∧ Below w.heap.size w w' := by
  have h := Zero_r_c x w
  rw [zero_hib] at h
  exact h

set_option maxHeartbeats 400000 in
theorem Eq_r_c (x y : W32) (w : World) : Calls Try.prog 63 #[.agg #[.int .u32 (iw x)], .agg #[.int .u32 (iw y)]] w fun e w' => e = .returned (.agg #[.int .u32 (iw (mk (eqw (x ^^^ y) 0#32)))]) ∧ Below w.heap.size w w' := by
  go_enter Try.func63, Try.ntmps63
  go_upto_region 1 with (fail)
  refine gen_world fun W hW => ?_
  have k1 : W.heap[w.heap.size]? = some (.cells #[.int .u32 (iw x)] 55 (0, 0)) := by subst hW; (repeat (first | (with_reducible assumption) | ((with_reducible refine blk_new' ?_ _); (simp; done)) | ((with_reducible refine blk_alloc ?_ _)) | ((with_reducible refine blk_far ?_ ?_ _); (simp <;> omega))))
  have k2 : W.heap[w.heap.size + 1]? = some (.cells #[.int .u32 (iw y)] 55 (0, 0)) := by subst hW; (repeat (first | (with_reducible assumption) | ((with_reducible refine blk_new' ?_ _); (simp; done)) | ((with_reducible refine blk_alloc ?_ _)) | ((with_reducible refine blk_far ?_ ?_ _); (simp <;> omega))))
  have k3 : W.heap[w.heap.size + 1 + 1]? = some (.cells #[.int .u32 0] 55 (0, 0)) := by subst hW; (repeat (first | (with_reducible assumption) | ((with_reducible refine blk_new' ?_ _); (simp; done)) | ((with_reducible refine blk_alloc ?_ _)) | ((with_reducible refine blk_far ?_ ?_ _); (simp <;> omega))))
  have HB : Below w.heap.size w W := by subst hW; (repeat (first | exact Below.refl _ _ | (refine bl_alloc ?_ _) | (refine bl_drewN ?_ _) | (refine bl_drew ?_) | (refine bl_call (by assumption) ?_) | (refine bl_set _ _ (by simp <;> omega) ?_) | assumption))
  clear hW
  refine wp_region_flow (fun w' => Below W.heap.size W w') 4 (Below.refl _ _) ?_
  simp only [List.take_succ_cons, List.take_zero, List.drop_succ_cons, List.drop_zero]
  repeat (refine wpQuiet_step (fun K hK => ?_); go_simp; first | (refine hK _ ?_; clear hK K) | (apply Exists.intro; refine ⟨fun w1 hw1 => ?_, hK _ ?_⟩; (first | exact rfl | (rw [(blk_cell (grow_blk hw1 k1) _)]; exact ⟨rfl, rfl⟩) | (rw [(blk_cell (grow_blk hw1 k2) _)]; exact ⟨rfl, rfl⟩) | (go_at_call 78; refine Calls_grow hw1 (Xor_c _ _ w1)) | (go_at_call 79; refine Calls_grow hw1 (Zero_c _ w1))); clear hK K))
  refine wpQuiet_nil ?_
  intro w1 hw1
  have c_ := blk_cell (grow_blk hw1 k3) 0
  have f_ := blk_frozen (grow_blk hw1 k3) 0
  go_wp2
  exact bodyPost_ret (v := .agg #[.int .u32 (iw (mk (eqw (x ^^^ y) 0#32)))]) (by simp [results, Try.results63, go_sem, c_]) rfl ⟨rfl, (by (repeat (first | exact Below.refl _ _ | (refine bl_alloc ?_ _) | (refine bl_drewN ?_ _) | (refine bl_drew ?_) | (refine bl_call (by assumption) ?_) | (refine bl_set _ _ (by simp <;> omega) ?_) | assumption)))⟩

theorem Eq_c (x y : W32) (w : World) : Calls Try.prog 63 #[.agg #[.int .u32 (iw x)], .agg #[.int .u32 (iw y)]] w fun e w' => e = .returned (.agg #[.int .u32 (iw (mk (eqw x y)))]) ∧ Below w.heap.size w w' := by
  have h := Eq_r_c x y w
  rw [eq_hib] at h
  exact h

set_option maxHeartbeats 400000 in
theorem Lt_r_c (x y : W32) (w : World) : Calls Try.prog 45 #[.agg #[.int .u32 (iw x)], .agg #[.int .u32 (iw y)]] w fun e w' => e = .returned (.agg #[.int .u32 (iw (mk (hib ((~~~x &&& y) ||| ((~~~x ||| y) &&& (x - y))))))]) ∧ Below w.heap.size w w' := by
  go_enter Try.func45, Try.ntmps45
  go_wp2_with (go_at_call 55; refine (spread_c ((~~~x &&& y) ||| ((~~~x ||| y) &&& (x - y))) _).mono ?_; rintro e w1 ⟨rfl, hb1⟩; obtain ⟨hc1, hf1⟩ := bcell hb1; have hz1 := hb1.size; (try simp at hz1))
  exact bodyPost_ret (v := .agg #[.int .u32 (iw (mk (hib ((~~~x &&& y) ||| ((~~~x ||| y) &&& (x - y))))))]) (by simp [results, Try.results45, go_sem, hc1]) rfl ⟨rfl, (by repeat (first | exact Below.refl _ _ | apply bl_alloc | refine bl_call (by assumption) ?_ | refine bl_set _ _ (by simp <;> omega) ?_))⟩

theorem Lt_c (x y : W32) (w : World) : Calls Try.prog 45 #[.agg #[.int .u32 (iw x)], .agg #[.int .u32 (iw y)]] w fun e w' => e = .returned (.agg #[.int .u32 (iw (mk (ltw x y)))]) ∧ Below w.heap.size w w' := by
  have h := Lt_r_c x y w
  rw [lt_hib] at h
  exact h

end Go.Proofs.Ythnackakgglhbaa

/- attr.text, attr.Encode. -/
import Derived.Test.YtjigckibbjfkmaaGreatDoorMd
import Derived.Test.YtjigckibbjfkmaaGreatDoorBd
import Derived.BigQuiet
namespace Go.Proofs.YtjigckibbjfkmaaGreatDoor
open Go.RowKit
set_option maxRecDepth 100000
set_option linter.unusedSimpArgs false
set_option linter.unusedVariables false
theorem run_catA (a b s : ByteArray) (hs : s = a ++ b) (hz : a.size + b.size ≤ 100000) (w : World) : (Op.stringOp .add a b).run Tryz.prog w = .ok (.string s) w := by
  subst hs
  exact run_string_add_sum w a b (by omega)
structure SzT (m : MsgS) : Prop where
  u : m.u.size ≤ 2000
  n : m.n.size ≤ 2000
  s : m.s.size ≤ 2000
  p : m.p.size ≤ 2000
  g : m.g.size ≤ 2000
  f : m.f.size ≤ 2000
theorem SzT.big {m : MsgS} (h : SzT m) : SzM m := ⟨by have := h.u; omega, by have := h.n; omega, by have := h.s; omega, by have := h.p; omega, by have := h.g; omega, by have := h.f; omega⟩
def txS (m : MsgS) : ByteArray := ⟨(textM (toM m)).toArray⟩
def enM (s : ByteArray) : ByteArray := ⟨(encL s.data.toList).toArray⟩
def esM (s : ByteArray) : ByteArray := ⟨(escL s.data.toList).toArray⟩
def itM (n : Int) : ByteArray := ⟨(Lib.itoa n).toArray⟩
theorem enM_size (s : ByteArray) (h : s.size ≤ 2000) : (enM s).size ≤ 3000 := by
  have := encL_length s.data.toList
  rw [zlen] at this
  show (encL s.data.toList).toArray.size ≤ _
  rw [List.size_toArray]
  omega
theorem esM_size (s : ByteArray) (h : s.size ≤ 2000) : (esM s).size ≤ 6000 := by
  have := esc_len s.data.toList
  rw [zlen] at this
  show (escL s.data.toList).toArray.size ≤ _
  rw [List.size_toArray]
  omega
theorem itM_size (n : Int) (h1 : 1 ≤ n) (h2 : n ≤ 16777216) : (itM n).size ≤ 100 := by
  have := Lib.itoa_length_le n (by omega) (by omega)
  show (Lib.itoa n).toArray.size ≤ _
  rw [List.size_toArray]
  omega
theorem bs_ext {a b : ByteArray} (h : a.data.toList = b.data.toList) : a = b := ByteArray.ext (Array.ext' h)
def cNN : ByteArray := ⟨#[110, 44, 44, 110, 61]⟩
def cR : ByteArray := ⟨#[44, 114, 61]⟩
def c_r : ByteArray := ⟨#[114, 61]⟩
def cS : ByteArray := ⟨#[44, 115, 61]⟩
def cI : ByteArray := ⟨#[44, 105, 61]⟩
def cCR : ByteArray := ⟨#[99, 61, 98, 105, 119, 115, 44, 114, 61]⟩
def cP : ByteArray := ⟨#[44, 112, 61]⟩
def c_e : ByteArray := ⟨#[101, 61]⟩
def c_v : ByteArray := ⟨#[118, 61]⟩
theorem tx1 (m : MsgS) (h : m.k = 1) : txS m = ((cNN ++ esM m.u) ++ cR) ++ m.n := by
  apply bs_ext

  simp [txS, textM, h, toM, joinL, cNN, cR, esM]
theorem tx2 (m : MsgS) (h : m.k = 2) : txS m = ((((c_r ++ m.n) ++ cS) ++ enM m.s) ++ cI) ++ itM m.i := by
  apply bs_ext

  simp [txS, textM, h, toM, joinL, c_r, cS, cI, enM, itM]
theorem tx3 (m : MsgS) (h : m.k = 3) : txS m = ((cCR ++ m.n) ++ cP) ++ enM m.p := by
  apply bs_ext

  simp [txS, textM, h, toM, joinL, cCR, cP, enM]
theorem tx4 (m : MsgS) (h1 : m.k ≠ 1) (h2 : m.k ≠ 2) (h3 : m.k ≠ 3) : txS m = if m.f = ⟨#[]⟩ then c_v ++ enM m.g else c_e ++ m.f := by
  apply bs_ext
  have g1 : (toM m).k ≠ 1 := h1
  have g2 : (toM m).k ≠ 2 := h2
  have g3 : (toM m).k ≠ 3 := h3
  have e : (toM m).f = [] ↔ m.f = ⟨#[]⟩ := by
    show m.f.data.toList = [] ↔ _
    constructor
    · intro q; exact bs_ext q
    · intro q; rw [q]
  simp only [txS, textM, if_neg g1, if_neg g2, if_neg g3]
  by_cases hf : m.f = ⟨#[]⟩
  · rw [if_pos hf, if_neg (by simp [e.2 hf])]
    simp [toM, c_v, enM]
  · rw [if_neg hf, if_pos (by intro q; exact hf (e.1 q))]
    simp [toM, c_e]
set_option maxHeartbeats 4000000 in
theorem aText_1 (m : MsgS) (hk : m.k = 1) (hz : SzT m) (w : World) (he : Env w) : Calls Tryz.prog 21 #[mv m] w fun x w' => x = .returned (.string (txS m)) ∧ Below w.heap.size w w' := by
  have ht := tx1 m hk
  obtain ⟨k, u, n, s, i, p, g, f⟩ := m
  simp only at hk ht
  subst hk
  have hE : ∀ w, Env w → Calls Tryz.prog 14 #[.string u] w fun e w' => e = .returned (.string (esM u)) ∧ Below w.heap.size w w' := (fun w he => Escape_c u (by have := hz.u; simp only at this; omega) w he)
  have z0 := esM_size u hz.u
  generalize esM u = E at hE ht z0
  generalize txS ⟨1, u, n, s, i, p, g, f⟩ = T at ht ⊢
  obtain ⟨S1, e1⟩ : ∃ S, S = cNN ++ E := ⟨_, rfl⟩
  rw [← e1] at ht
  obtain ⟨S2, e2⟩ : ∃ S, S = S1 ++ cR := ⟨_, rfl⟩
  rw [← e2] at ht
  have zn := hz.n
  have zc : cNN.size ≤ 9 ∧ cR.size ≤ 9 ∧ c_r.size ≤ 9 ∧ cS.size ≤ 9 ∧ cI.size ≤ 9 ∧ cCR.size ≤ 9 ∧ cP.size ≤ 9 := by decide
  simp only at zn
  have z1 := congrArg ByteArray.size e1
  rw [ByteArray.size_append] at z1
  have z2 := congrArg ByteArray.size e2
  rw [ByteArray.size_append] at z2
  have a1 := run_catA cNN E S1 e1 (by omega)
  have a2 := run_catA S1 cR S2 e2 (by omega)
  have a3 := run_catA S2 n T ht (by omega)
  unfold cNN at a1
  unfold cR at a2
  clear e1 z1 e2 z2 ht zc z0 zn
  replace he := Lib.hid he
  unfold mv
  go_enter Tryz.func21, Tryz.ntmps21
  go_upto_region 1 with fail
  refine gen_world fun W hW => ?_
  have hk : W.heap[w.heap.size]? = some (.cells (mA ⟨1, u, n, s, i, p, g, f⟩) 23 (0, 0)) := by subst hW; exact blk_new _ _
  have hAb : Below w.heap.size w W := by subst hW; (repeat (first | exact Below.refl _ _ | (refine bl_alloc ?_ _) | (refine bl_drewN ?_ _) | (refine bl_drew ?_) | (refine bl_call (by assumption) ?_) | (refine bl_set _ _ (by simp <;> omega) ?_) | assumption))
  clear hW
  have b0 : W.cell? ⟨w.heap.size, 0, none⟩ = some (.int .i64 1) := blk_cell hk 0
  have b1 : W.cell? ⟨w.heap.size, 1, none⟩ = some (.string u) := blk_cell hk 1
  have b2 : W.cell? ⟨w.heap.size, 2, none⟩ = some (.string n) := blk_cell hk 2
  have he2 := Lib.hid (he.out.below hAb)
  clear hk
  go_upto_region 3 with fail
  refine wp_region_grow (fun w' => Below W.heap.size W w') 8 (by kernel_rfl) (by kernel_rfl) ⟨rfl, rfl, rfl, Nat.le_refl _, fun _ _ => rfl⟩ ?_
  simp only [List.take_succ_cons, List.take_zero, List.drop_succ_cons, List.drop_zero]
  repeat (first | go_big_quiet_skip | (go_big_quiet_want; go_big_quiet_op; first | go_big_quiet_on | (apply Exists.intro; refine ⟨fun w1 hw1 => ?_, ?_⟩; (first | exact rfl | (simp only [grow_cell hw1 b1, Result.andThen_ok]; exact ⟨trivial, rfl⟩) | (simp only [grow_cell hw1 b2, Result.andThen_ok]; exact ⟨trivial, rfl⟩) | (simp only [a1, a2, a3, Result.andThen_ok]; exact ⟨trivial, rfl⟩) | (go_at_call 14; refine Calls_grow hw1 (hE w1 (he2.out.below hw1)))); go_big_quiet_on)))
  refine wpQuiet_nil ?_
  intro w1 hw1
  have hA2 := bl_call hw1 hAb
  clear hw1
  go_wp2_with fail
  exact bodyPost_ret (v := .string T) (by simp [results, Tryz.results21, go_sem]) rfl ⟨rfl, hA2⟩
set_option maxHeartbeats 4000000 in
theorem aText_2 (m : MsgS) (hk : m.k = 2) (hz : SzT m) (hi : 1 ≤ m.i ∧ m.i ≤ 16777216) (w : World) (he : Env w) : Calls Tryz.prog 21 #[mv m] w fun x w' => x = .returned (.string (txS m)) ∧ Below w.heap.size w w' := by
  have ht := tx2 m hk
  obtain ⟨k, u, n, s, i, p, g, f⟩ := m
  simp only at hk ht hi
  subst hk
  have hE : ∀ s : ByteArray, s.size ≤ 2000 → ∀ w, Calls Tryz.prog 46 #[.string s] w fun e w' => e = .returned (.string (enM s)) ∧ Below w.heap.size w w' := fun s hs w => Encode_c s hs w
  have hE := hE s hz.s
  have z0 := enM_size s hz.s
  have z00 := itM_size i hi.1 hi.2
  have hI : ∀ w, Env w → Calls Tryz.prog 47 #[.int .i64 i] w fun e w' => e = .returned (.string (itM i)) ∧ Below w.heap.size w w' := fun w he => Itoa_g i (by omega) (by omega) w he
  generalize enM s = E at hE ht z0
  generalize itM i = N at hI ht z00
  generalize txS ⟨2, u, n, s, i, p, g, f⟩ = T at ht ⊢
  obtain ⟨S1, e1⟩ : ∃ S, S = c_r ++ n := ⟨_, rfl⟩
  rw [← e1] at ht
  obtain ⟨S2, e2⟩ : ∃ S, S = S1 ++ cS := ⟨_, rfl⟩
  rw [← e2] at ht
  obtain ⟨S3, e3⟩ : ∃ S, S = S2 ++ E := ⟨_, rfl⟩
  rw [← e3] at ht
  obtain ⟨S4, e4⟩ : ∃ S, S = S3 ++ cI := ⟨_, rfl⟩
  rw [← e4] at ht
  have zn := hz.n
  have zc : cNN.size ≤ 9 ∧ cR.size ≤ 9 ∧ c_r.size ≤ 9 ∧ cS.size ≤ 9 ∧ cI.size ≤ 9 ∧ cCR.size ≤ 9 ∧ cP.size ≤ 9 := by decide
  simp only at zn
  have z1 := congrArg ByteArray.size e1
  rw [ByteArray.size_append] at z1
  have z2 := congrArg ByteArray.size e2
  rw [ByteArray.size_append] at z2
  have z3 := congrArg ByteArray.size e3
  rw [ByteArray.size_append] at z3
  have z4 := congrArg ByteArray.size e4
  rw [ByteArray.size_append] at z4
  have a1 := run_catA c_r n S1 e1 (by omega)
  have a2 := run_catA S1 cS S2 e2 (by omega)
  have a3 := run_catA S2 E S3 e3 (by omega)
  have a4 := run_catA S3 cI S4 e4 (by omega)
  have a5 := run_catA S4 N T ht (by omega)
  unfold c_r at a1
  unfold cS at a2
  unfold cI at a4
  clear e1 z1 e2 z2 e3 z3 e4 z4 ht zc z0 zn z00
  replace he := Lib.hid he
  unfold mv
  go_enter Tryz.func21, Tryz.ntmps21
  go_upto_region 1 with fail
  refine gen_world fun W hW => ?_
  have hk : W.heap[w.heap.size]? = some (.cells (mA ⟨2, u, n, s, i, p, g, f⟩) 23 (0, 0)) := by subst hW; exact blk_new _ _
  have hAb : Below w.heap.size w W := by subst hW; (repeat (first | exact Below.refl _ _ | (refine bl_alloc ?_ _) | (refine bl_drewN ?_ _) | (refine bl_drew ?_) | (refine bl_call (by assumption) ?_) | (refine bl_set _ _ (by simp <;> omega) ?_) | assumption))
  clear hW
  have b0 : W.cell? ⟨w.heap.size, 0, none⟩ = some (.int .i64 2) := blk_cell hk 0
  have b2 : W.cell? ⟨w.heap.size, 2, none⟩ = some (.string n) := blk_cell hk 2
  have b3 : W.cell? ⟨w.heap.size, 3, none⟩ = some (.string s) := blk_cell hk 3
  have b4 : W.cell? ⟨w.heap.size, 4, none⟩ = some (.int .i64 i) := blk_cell hk 4
  have he2 := Lib.hid (he.out.below hAb)
  clear hk
  go_upto_region 5 with fail
  refine wp_region_grow (fun w' => Below W.heap.size W w') 13 (by kernel_rfl) (by kernel_rfl) ⟨rfl, rfl, rfl, Nat.le_refl _, fun _ _ => rfl⟩ ?_
  simp only [List.take_succ_cons, List.take_zero, List.drop_succ_cons, List.drop_zero]
  repeat (first | go_big_quiet_skip | (go_big_quiet_want; go_big_quiet_op; first | go_big_quiet_on | (apply Exists.intro; refine ⟨fun w1 hw1 => ?_, ?_⟩; (first | exact rfl | (simp only [grow_cell hw1 b2, Result.andThen_ok]; exact ⟨trivial, rfl⟩) | (simp only [grow_cell hw1 b3, Result.andThen_ok]; exact ⟨trivial, rfl⟩) | (simp only [grow_cell hw1 b4, Result.andThen_ok]; exact ⟨trivial, rfl⟩) | (simp only [a1, a2, a3, a4, a5, Result.andThen_ok]; exact ⟨trivial, rfl⟩) | (go_at_call 46; refine Calls_grow hw1 (hE w1)) | (go_at_call 47; refine Calls_grow hw1 (hI w1 (he2.out.below hw1)))); go_big_quiet_on)))
  refine wpQuiet_nil ?_
  intro w1 hw1
  have hA2 := bl_call hw1 hAb
  clear hw1
  go_wp2_with fail
  exact bodyPost_ret (v := .string T) (by simp [results, Tryz.results21, go_sem]) rfl ⟨rfl, hA2⟩
set_option maxHeartbeats 4000000 in
theorem aText_3 (m : MsgS) (hk : m.k = 3) (hz : SzT m) (w : World) (he : Env w) : Calls Tryz.prog 21 #[mv m] w fun x w' => x = .returned (.string (txS m)) ∧ Below w.heap.size w w' := by
  have ht := tx3 m hk
  obtain ⟨k, u, n, s, i, p, g, f⟩ := m
  simp only at hk ht
  subst hk
  have hE : ∀ s : ByteArray, s.size ≤ 2000 → ∀ w, Calls Tryz.prog 46 #[.string s] w fun e w' => e = .returned (.string (enM s)) ∧ Below w.heap.size w w' := fun s hs w => Encode_c s hs w
  have hE := hE p hz.p
  have z0 := enM_size p hz.p
  generalize enM p = E at hE ht z0
  generalize txS ⟨3, u, n, s, i, p, g, f⟩ = T at ht ⊢
  obtain ⟨S1, e1⟩ : ∃ S, S = cCR ++ n := ⟨_, rfl⟩
  rw [← e1] at ht
  obtain ⟨S2, e2⟩ : ∃ S, S = S1 ++ cP := ⟨_, rfl⟩
  rw [← e2] at ht
  have zn := hz.n
  have zc : cNN.size ≤ 9 ∧ cR.size ≤ 9 ∧ c_r.size ≤ 9 ∧ cS.size ≤ 9 ∧ cI.size ≤ 9 ∧ cCR.size ≤ 9 ∧ cP.size ≤ 9 := by decide
  simp only at zn
  have z1 := congrArg ByteArray.size e1
  rw [ByteArray.size_append] at z1
  have z2 := congrArg ByteArray.size e2
  rw [ByteArray.size_append] at z2
  have a1 := run_catA cCR n S1 e1 (by omega)
  have a2 := run_catA S1 cP S2 e2 (by omega)
  have a3 := run_catA S2 E T ht (by omega)
  unfold cCR at a1
  unfold cP at a2
  clear e1 z1 e2 z2 ht zc z0 zn
  replace he := Lib.hid he
  unfold mv
  go_enter Tryz.func21, Tryz.ntmps21
  go_upto_region 1 with fail
  refine gen_world fun W hW => ?_
  have hk : W.heap[w.heap.size]? = some (.cells (mA ⟨3, u, n, s, i, p, g, f⟩) 23 (0, 0)) := by subst hW; exact blk_new _ _
  have hAb : Below w.heap.size w W := by subst hW; (repeat (first | exact Below.refl _ _ | (refine bl_alloc ?_ _) | (refine bl_drewN ?_ _) | (refine bl_drew ?_) | (refine bl_call (by assumption) ?_) | (refine bl_set _ _ (by simp <;> omega) ?_) | assumption))
  clear hW
  have b0 : W.cell? ⟨w.heap.size, 0, none⟩ = some (.int .i64 3) := blk_cell hk 0
  have b2 : W.cell? ⟨w.heap.size, 2, none⟩ = some (.string n) := blk_cell hk 2
  have b5 : W.cell? ⟨w.heap.size, 5, none⟩ = some (.string p) := blk_cell hk 5
  have he2 := Lib.hid (he.out.below hAb)
  clear hk
  go_upto_region 7 with fail
  refine wp_region_grow (fun w' => Below W.heap.size W w') 8 (by kernel_rfl) (by kernel_rfl) ⟨rfl, rfl, rfl, Nat.le_refl _, fun _ _ => rfl⟩ ?_
  simp only [List.take_succ_cons, List.take_zero, List.drop_succ_cons, List.drop_zero]
  repeat (first | go_big_quiet_skip | (go_big_quiet_want; go_big_quiet_op; first | go_big_quiet_on | (apply Exists.intro; refine ⟨fun w1 hw1 => ?_, ?_⟩; (first | exact rfl | (simp only [grow_cell hw1 b2, Result.andThen_ok]; exact ⟨trivial, rfl⟩) | (simp only [grow_cell hw1 b5, Result.andThen_ok]; exact ⟨trivial, rfl⟩) | (simp only [a1, a2, a3, Result.andThen_ok]; exact ⟨trivial, rfl⟩) | (go_at_call 46; refine Calls_grow hw1 (hE w1))); go_big_quiet_on)))
  refine wpQuiet_nil ?_
  intro w1 hw1
  have hA2 := bl_call hw1 hAb
  clear hw1
  go_wp2_with fail
  exact bodyPost_ret (v := .string T) (by simp [results, Tryz.results21, go_sem]) rfl ⟨rfl, hA2⟩
set_option maxHeartbeats 4000000 in
theorem aText_4 (m : MsgS) (hk : m.k ≠ 1 ∧ m.k ≠ 2 ∧ m.k ≠ 3) (hz : SzT m) (w : World) (he : Env w) : Calls Tryz.prog 21 #[mv m] w fun x w' => x = .returned (.string (txS m)) ∧ Below w.heap.size w w' := by
  have ht := tx4 m hk.1 hk.2.1 hk.2.2
  obtain ⟨k, u, n, s, i, p, g, f⟩ := m
  simp only at hk ht
  obtain ⟨k1, k2, k3⟩ := hk
  have d1 : (k == 1) = false := by rw [beq_eq_false_iff_ne]; exact k1
  have d2 : (k == 2) = false := by rw [beq_eq_false_iff_ne]; exact k2
  have d3 : (k == 3) = false := by rw [beq_eq_false_iff_ne]; exact k3
  have hE : ∀ s : ByteArray, s.size ≤ 2000 → ∀ w, Calls Tryz.prog 46 #[.string s] w fun e w' => e = .returned (.string (enM s)) ∧ Below w.heap.size w w' := fun s hs w => Encode_c s hs w
  have hE := hE g hz.g
  have z0 := enM_size g hz.g
  have zf := hz.f
  have zc : c_e.size ≤ 9 ∧ c_v.size ≤ 9 := by decide
  simp only at zf
  generalize enM g = E at hE ht z0
  generalize txS ⟨k, u, n, s, i, p, g, f⟩ = T at ht ⊢
  clear hz he
  unfold mv
  by_cases hf : f = ⟨#[]⟩
  · rw [if_pos hf] at ht
    have a1 := run_catA c_v E T ht (by omega)
    unfold c_v at a1
    obtain ⟨ef1, ef2⟩ := emp_yes hf
    clear ht z0 zf zc hf
    go_enter Tryz.func21, Tryz.ntmps21
    go_upto_region 1 with fail
    refine gen_world fun W hW => ?_
    have hk : W.heap[w.heap.size]? = some (.cells (mA ⟨k, u, n, s, i, p, g, f⟩) 23 (0, 0)) := by subst hW; exact blk_new _ _
    have hAb : Below w.heap.size w W := by subst hW; (repeat (first | exact Below.refl _ _ | (refine bl_alloc ?_ _) | (refine bl_drewN ?_ _) | (refine bl_drew ?_) | (refine bl_call (by assumption) ?_) | (refine bl_set _ _ (by simp <;> omega) ?_) | assumption))
    clear hW
    have b0 : W.cell? ⟨w.heap.size, 0, none⟩ = some (.int .i64 k) := blk_cell hk 0
    have b6 : W.cell? ⟨w.heap.size, 6, none⟩ = some (.string g) := blk_cell hk 6
    have b7 : W.cell? ⟨w.heap.size, 7, none⟩ = some (.string f) := blk_cell hk 7
    clear hk
    go_wp2_with (go_at_call 46; refine (hE _).mono ?_; rintro e w5 ⟨rfl, hb5⟩)
    exact bodyPost_ret (v := .string T) (by simp [results, Tryz.results21, go_sem]) rfl ⟨rfl, bl_call hb5 hAb⟩
  · rw [if_neg hf] at ht
    have a1 := run_catA c_e f T ht (by omega)
    unfold c_e at a1
    obtain ⟨ef1, ef2⟩ := emp_no hf
    clear ht z0 zf zc hf
    go_enter Tryz.func21, Tryz.ntmps21
    go_upto_region 1 with fail
    refine gen_world fun W hW => ?_
    have hk : W.heap[w.heap.size]? = some (.cells (mA ⟨k, u, n, s, i, p, g, f⟩) 23 (0, 0)) := by subst hW; exact blk_new _ _
    have hAb : Below w.heap.size w W := by subst hW; (repeat (first | exact Below.refl _ _ | (refine bl_alloc ?_ _) | (refine bl_drewN ?_ _) | (refine bl_drew ?_) | (refine bl_call (by assumption) ?_) | (refine bl_set _ _ (by simp <;> omega) ?_) | assumption))
    clear hW
    have b0 : W.cell? ⟨w.heap.size, 0, none⟩ = some (.int .i64 k) := blk_cell hk 0
    have b6 : W.cell? ⟨w.heap.size, 6, none⟩ = some (.string g) := blk_cell hk 6
    have b7 : W.cell? ⟨w.heap.size, 7, none⟩ = some (.string f) := blk_cell hk 7
    clear hk
    go_wp2_with fail
    exact bodyPost_ret (v := .string T) (by simp [results, Tryz.results21, go_sem]) rfl ⟨rfl, hAb⟩
theorem aText_c (m : MsgS) (hz : SzT m) (hi : m.k = 2 → 1 ≤ m.i ∧ m.i ≤ 16777216) (w : World) (he : Env w) : Calls Tryz.prog 21 #[mv m] w fun x w' => x = .returned (.string (txS m)) ∧ Below w.heap.size w w' := by
  by_cases h1 : m.k = 1
  · exact aText_1 m h1 hz w he
  by_cases h2 : m.k = 2
  · exact aText_2 m h2 hz (hi h2) w he
  by_cases h3 : m.k = 3
  · exact aText_3 m h3 hz w he
  exact aText_4 m ⟨h1, h2, h3⟩ hz w he
theorem right_iter {m : MsgS} (h : rightM (toM m)) : m.k = 2 → 1 ≤ m.i ∧ m.i ≤ 16777216 := by
  intro hk
  rcases h with q | q | q | q
  · exact absurd (hk.symm.trans q.1) (by decide)
  · exact q.2.2.2.2.2.2.2
  · exact absurd (hk.symm.trans q.1) (by decide)
  · exact absurd (hk.symm.trans q.1) (by decide)
/-- What Encode answers. -/
def encV (m : MsgS) : Value := if rightM (toM m) then .tuple #[.string (txS m), .int .i64 0] else .tuple #[.string ⟨#[]⟩, .int .i64 4]
set_option maxHeartbeats 1000000 in
theorem aEncode_c (m : MsgS) (hz : SzT m) (w : World) (he : Env w) : Calls Tryz.prog 8 #[mv m] w fun x w' => x = .returned (encV m) ∧ Below w.heap.size w w' := by
  have hR := fun w he => Right_c m hz.big w he
  by_cases hr : rightM (toM m)
  · have hT := fun w he => aText_c m hz (right_iter hr) w he
    rw [decide_eq_true hr] at hR
    have hV : encV m = .tuple #[.string (txS m), .int .i64 0] := if_pos hr
    rw [hV]
    generalize txS m = T at hT ⊢
    clear hr hV hz
    replace he := Lib.hid he
    obtain ⟨k, u, n, s, i, p, g, f⟩ := m
    unfold mv at hR hT ⊢
    go_enter Tryz.func8, Tryz.ntmps8
    go_upto_region 1 with fail
    refine gen_world fun W hW => ?_
    have hk : W.heap[w.heap.size]? = some (.cells (mA ⟨k, u, n, s, i, p, g, f⟩) 23 (0, 0)) := by subst hW; exact blk_new _ _
    have hAb : Below w.heap.size w W := by subst hW; (repeat (first | exact Below.refl _ _ | (refine bl_alloc ?_ _) | (refine bl_drewN ?_ _) | (refine bl_drew ?_) | (refine bl_call (by assumption) ?_) | (refine bl_set _ _ (by simp <;> omega) ?_) | assumption))
    clear hW
    have b0 := blk_cell hk 0
    have b1 := blk_cell hk 1
    have b2 := blk_cell hk 2
    have b3 := blk_cell hk 3
    have b4 := blk_cell hk 4
    have b5 := blk_cell hk 5
    have b6 := blk_cell hk 6
    have b7 := blk_cell hk 7
    have he2 := Lib.hid (he.out.below hAb)
    unfold mA at b0 b1 b2 b3 b4 b5 b6 b7
    go_wp2_with (first | (go_at_call 10; refine (hR _ he2.out).mono ?_; rintro e w5 ⟨rfl, hb5⟩; have he5 := Lib.hid (he2.out.below hb5); have hk5 := grow_blk hb5 hk; have c0 := blk_cell hk5 0; have c1 := blk_cell hk5 1; have c2 := blk_cell hk5 2; have c3 := blk_cell hk5 3; have c4 := blk_cell hk5 4; have c5 := blk_cell hk5 5; have c6 := blk_cell hk5 6; have c7 := blk_cell hk5 7; unfold mA at c0 c1 c2 c3 c4 c5 c6 c7) | (go_at_call 21; refine (hT _ he5.out).mono ?_; rintro e w6 ⟨rfl, hb6⟩))
    exact bodyPost_ret (v := .tuple #[.string T, .int .i64 0]) (by simp [results, Tryz.results8, go_sem]) rfl ⟨rfl, bl_call hb6 (bl_call hb5 hAb)⟩
  · rw [decide_eq_false hr] at hR
    have hV : encV m = .tuple #[.string ⟨#[]⟩, .int .i64 4] := if_neg hr
    rw [hV]
    clear hr hV hz
    replace he := Lib.hid he
    obtain ⟨k, u, n, s, i, p, g, f⟩ := m
    unfold mv at hR ⊢
    go_enter Tryz.func8, Tryz.ntmps8
    go_upto_region 1 with fail
    refine gen_world fun W hW => ?_
    have hk : W.heap[w.heap.size]? = some (.cells (mA ⟨k, u, n, s, i, p, g, f⟩) 23 (0, 0)) := by subst hW; exact blk_new _ _
    have hAb : Below w.heap.size w W := by subst hW; (repeat (first | exact Below.refl _ _ | (refine bl_alloc ?_ _) | (refine bl_drewN ?_ _) | (refine bl_drew ?_) | (refine bl_call (by assumption) ?_) | (refine bl_set _ _ (by simp <;> omega) ?_) | assumption))
    clear hW
    have b0 := blk_cell hk 0
    have b1 := blk_cell hk 1
    have b2 := blk_cell hk 2
    have b3 := blk_cell hk 3
    have b4 := blk_cell hk 4
    have b5 := blk_cell hk 5
    have b6 := blk_cell hk 6
    have b7 := blk_cell hk 7
    have he2 := Lib.hid (he.out.below hAb)
    unfold mA at b0 b1 b2 b3 b4 b5 b6 b7
    go_wp2_with (go_at_call 10; refine (hR _ he2.out).mono ?_; rintro e w5 ⟨rfl, hb5⟩)
    exact bodyPost_ret (v := .tuple #[.string ⟨#[]⟩, .int .i64 4]) (by simp [results, Tryz.results8, go_sem]) rfl ⟨rfl, bl_call hb5 hAb⟩
end Go.Proofs.YtjigckibbjfkmaaGreatDoor

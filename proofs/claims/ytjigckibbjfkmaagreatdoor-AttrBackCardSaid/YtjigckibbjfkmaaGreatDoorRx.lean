/- Reference 31: Digits; reference 33: Text. -/
import Derived.Test.YtjigckibbjfkmaaGreatDoorRu
import Derived.Test.YtjigckibbjfkmaaGreatDoorBf
import Derived.BigQuiet
namespace Go.Proofs.YtjigckibbjfkmaaGreatDoor
open Go.RowKit
set_option maxRecDepth 100000
set_option linter.unusedSimpArgs false
set_option linter.unusedVariables false
def hexB : ByteArray := ⟨#[48, 49, 50, 51, 52, 53, 54, 55, 56, 57, 97, 98, 99, 100, 101, 102]⟩
theorem run_hex (d : Nat) (h : d < 10) (w : World) : (Instr.slice 9 (.string hexB) (some (.int .i64 (d : Int))) (some (.int .i64 ((d : Int) + 1))) none).run Tryz.prog w = .ok (.string ⟨#[UInt8.ofNat (48 + d)]⟩) w := by
  have hs : d < hexB.size := Nat.lt_of_lt_of_le h (by decide)
  rw [run_one hexB d hs w]
  have : ∀ k : Fin 10, hexB[k.val]'(Nat.lt_of_lt_of_le k.isLt (by decide)) = UInt8.ofNat (48 + k.val) := by decide
  have t : hexB[d]'hs = UInt8.ofNat (48 + d) := this ⟨d, h⟩
  rw [t]
theorem digit_c (d : Nat) (h : d < 10) (w : World) : Calls Tryz.prog 55 #[.int .i64 (d : Int)] w fun e w' => e = .returned (.string ⟨#[UInt8.ofNat (48 + d)]⟩) ∧ w' = w := by
  have hr := fun W => run_hex d h W
  unfold hexB at hr
  have pn : (0 : Int) ≤ (d : Int) := by omega
  have hd : (d : Int) < 10 := by omega
  go_enter Tryz.func55, Tryz.ntmps55
  go_wp2_with fail
  exact bodyPost_ret (v := .string ⟨#[UInt8.ofNat (48 + d)]⟩) (by simp [results, Tryz.results55, go_sem]) rfl ⟨rfl, rfl⟩
theorem rDigN_c : ∀ (k N : Nat), N < 10 ^ (k + 1) → k ≤ 10 → ∀ w : World, Calls Tryz.prog 33 #[.int .i64 (N : Int)] w fun e w' => e = .returned (.string ⟨(Lib.decDigits N).toArray⟩) ∧ w' = w := by
  intro k
  induction k with
  | zero =>
    intro N hN _ w
    have h10 : N < 10 := by simpa using hN
    have hd := digit_c N h10
    have hI : (N : Int) < 10 := by omega
    have h0 : ¬ (N : Int) < 0 := by omega
    rw [Lib.decDigits, dif_pos h10]
    replace hd := Lib.hid hd
    go_enter Tryz.func33, Tryz.ntmps33
    go_wp2_with (go_at_call 55; refine (hd.out _).mono ?_; rintro e w' ⟨rfl, rfl⟩)
    exact bodyPost_ret (v := .string ⟨#[UInt8.ofNat (48 + N)]⟩) (by simp [results, Tryz.results33, go_sem]) rfl ⟨rfl, rfl⟩
  | succ k ih =>
    intro N hN hk w
    by_cases h10 : N < 10
    · have hd := digit_c N h10
      have hI : (N : Int) < 10 := by omega
      have h0 : ¬ (N : Int) < 0 := by omega
      rw [Lib.decDigits, dif_pos h10]
      replace hd := Lib.hid hd
      clear ih
      go_enter Tryz.func33, Tryz.ntmps33
      go_wp2_with (go_at_call 55; refine (hd.out _).mono ?_; rintro e w' ⟨rfl, rfl⟩)
      exact bodyPost_ret (v := .string ⟨#[UInt8.ofNat (48 + N)]⟩) (by simp [results, Tryz.results33, go_sem]) rfl ⟨rfl, rfl⟩
    · have hq := ih (N / 10) (by rw [Nat.pow_succ] at hN; omega) (by omega)
      have hd := digit_c (N % 10) (Nat.mod_lt _ (by decide))
      have hl := dec_len (k + 1) (N / 10) (by rw [Nat.pow_succ] at hN; omega)
      have hI : ¬ (N : Int) < 10 := by omega
      have h0 : ¬ (N : Int) < 0 := by omega
      rw [Lib.decDigits, dif_neg h10]
      obtain ⟨q, hqe⟩ : ∃ q, q = N / 10 := ⟨_, rfl⟩
      obtain ⟨d, hde⟩ : ∃ d, d = N % 10 := ⟨_, rfl⟩
      rw [← hqe] at hq hl ⊢
      rw [← hde] at hd ⊢
      have e1' : (N : Int) % 10 = (d : Int) := by omega
      have e2' : (N : Int) / 10 = (q : Int) := by omega
      have hNb : N < 1000000000000 := Nat.lt_of_lt_of_le hN (show 10 ^ (k + 1 + 1) ≤ 10 ^ 12 from Nat.pow_le_pow_right (by decide) (by omega))
      have e3 : wrap64 (q : Int) = (q : Int) := IntWalk.wrap64_in _ (by omega)
      have ha := fun W => run_catA ⟨(Lib.decDigits q).toArray⟩ ⟨#[UInt8.ofNat (48 + d)]⟩ ⟨(Lib.decDigits q ++ [UInt8.ofNat (48 + d)]).toArray⟩ (by rw [← bs_app]) (by rw [bsz]; have : (⟨#[UInt8.ofNat (48 + d)]⟩ : ByteArray).size = 1 := rfl; omega) W
      generalize (⟨(Lib.decDigits q ++ [UInt8.ofNat (48 + d)]).toArray⟩ : ByteArray) = R at ha ⊢
      generalize (⟨(Lib.decDigits q).toArray⟩ : ByteArray) = Q at ha hq
      generalize (⟨#[UInt8.ofNat (48 + d)]⟩ : ByteArray) = D at ha hd
      replace hd := Lib.hid hd
      replace hq := Lib.hid hq
      clear ih hqe hde hl h10 hN
      go_enter Tryz.func33, Tryz.ntmps33
      go_wp2_with (first | (go_at_call 55; with_reducible refine (hd.out _).mono ?_; rintro e w' ⟨rfl, rfl⟩) | (go_at_call 33; with_reducible refine (hq.out _).mono ?_; rintro e w' ⟨rfl, rfl⟩))
      exact bodyPost_ret (v := .string R) (by simp [results, Tryz.results33, go_sem]) rfl ⟨rfl, rfl⟩
theorem rDigits_c (n : Int) (h0 : 0 ≤ n) (h1 : n ≤ 16777216) (w : World) : Calls Tryz.prog 33 #[.int .i64 n] w fun e w' => e = .returned (.string ⟨(Lib.itoa n).toArray⟩) ∧ Below w.heap.size w w' := by
  obtain ⟨N, rfl⟩ : ∃ N : Nat, n = (N : Int) := ⟨n.toNat, by omega⟩
  have := rDigN_c 8 N (by omega) (by decide) w
  rw [Lib.itoa, if_neg (by omega), Int.toNat_natCast]
  refine this.mono ?_
  rintro e w' ⟨rfl, rfl⟩
  exact ⟨rfl, Below.refl _ _⟩
set_option maxHeartbeats 4000000 in
theorem rText_1 (m : MsgS) (hk : m.k = 1) (hz : SzT m) (w : World) (he : Env w) : Calls Tryz.prog 11 #[mv m] w fun x w' => x = .returned (.string (txS m)) ∧ Below w.heap.size w w' := by
  have ht := tx1 m hk
  obtain ⟨k, u, n, s, i, p, g, f⟩ := m
  simp only at hk ht
  subst hk
  have hE : ∀ w, Env w → Calls Tryz.prog 16 #[.string u] w fun e w' => e = .returned (.string (esM u)) ∧ Below w.heap.size w w' := (fun w he => rEsc_c u (by have := hz.u; simp only at this; omega) w)
  have z0 := esM_size u hz.u
  generalize esM u = E at hE ht z0
  generalize txS ⟨1, u, n, s, i, p, g, f⟩ = T at ht ⊢
  obtain ⟨S1, e1⟩ : ∃ S, S = cNN ++ E := ⟨_, rfl⟩
  rw [← e1] at ht
  obtain ⟨S2, e2⟩ : ∃ S, S = S1 ++ cR := ⟨_, rfl⟩
  rw [← e2] at ht
  have zn := hz.n
  have zc : cNN.size ≤ 9 ∧ cR.size ≤ 9 ∧ c_r.size ≤ 9 ∧ cS.size ≤ 9 ∧ cI.size ≤ 9 ∧ cCR.size ≤ 9 ∧ cP.size ≤ 9 := by decide
  simp only at zn
  have z1 := congrArg ByteArray.size e1
  rw [ByteArray.size_append] at z1
  have z2 := congrArg ByteArray.size e2
  rw [ByteArray.size_append] at z2
  have a1 := run_catA cNN E S1 e1 (by omega)
  have a2 := run_catA S1 cR S2 e2 (by omega)
  have a3 := run_catA S2 n T ht (by omega)
  unfold cNN at a1
  unfold cR at a2
  clear e1 z1 e2 z2 ht zc z0 zn
  replace he := Lib.hid he
  unfold mv
  go_enter Tryz.func11, Tryz.ntmps11
  go_upto_region 1 with fail
  refine gen_world fun W hW => ?_
  have hk : W.heap[w.heap.size]? = some (.cells (mA ⟨1, u, n, s, i, p, g, f⟩) 23 (0, 0)) := by subst hW; exact blk_new _ _
  have hAb : Below w.heap.size w W := by subst hW; (repeat (first | exact Below.refl _ _ | (refine bl_alloc ?_ _) | (refine bl_drewN ?_ _) | (refine bl_drew ?_) | (refine bl_call (by assumption) ?_) | (refine bl_set _ _ (by simp <;> omega) ?_) | assumption))
  clear hW
  have b0 : W.cell? ⟨w.heap.size, 0, none⟩ = some (.int .i64 1) := blk_cell hk 0
  have b1 : W.cell? ⟨w.heap.size, 1, none⟩ = some (.string u) := blk_cell hk 1
  have b2 : W.cell? ⟨w.heap.size, 2, none⟩ = some (.string n) := blk_cell hk 2
  have he2 := Lib.hid (he.out.below hAb)
  clear hk
  go_upto_region 3 with fail
  refine wp_region_grow (fun w' => Below W.heap.size W w') 8 (by kernel_rfl) (by kernel_rfl) ⟨rfl, rfl, rfl, Nat.le_refl _, fun _ _ => rfl⟩ ?_
  simp only [List.take_succ_cons, List.take_zero, List.drop_succ_cons, List.drop_zero]
  repeat (first | go_big_quiet_skip | (go_big_quiet_want; go_big_quiet_op; first | go_big_quiet_on | (apply Exists.intro; refine ⟨fun w1 hw1 => ?_, ?_⟩; (first | exact rfl | (simp only [grow_cell hw1 b1, Result.andThen_ok]; exact ⟨trivial, rfl⟩) | (simp only [grow_cell hw1 b2, Result.andThen_ok]; exact ⟨trivial, rfl⟩) | (simp only [a1, a2, a3, Result.andThen_ok]; exact ⟨trivial, rfl⟩) | (go_at_call 16; refine Calls_grow hw1 (hE w1 (he2.out.below hw1)))); go_big_quiet_on)))
  refine wpQuiet_nil ?_
  intro w1 hw1
  have hA2 := bl_call hw1 hAb
  clear hw1
  go_wp2_with fail
  exact bodyPost_ret (v := .string T) (by simp [results, Tryz.results11, go_sem]) rfl ⟨rfl, hA2⟩
set_option maxHeartbeats 4000000 in
theorem rText_2 (m : MsgS) (hk : m.k = 2) (hz : SzT m) (hi : 1 ≤ m.i ∧ m.i ≤ 16777216) (w : World) (he : Env w) : Calls Tryz.prog 11 #[mv m] w fun x w' => x = .returned (.string (txS m)) ∧ Below w.heap.size w w' := by
  have ht := tx2 m hk
  obtain ⟨k, u, n, s, i, p, g, f⟩ := m
  simp only at hk ht hi
  subst hk
  have hE : ∀ s : ByteArray, s.size ≤ 2000 → ∀ w, Calls Tryz.prog 32 #[.string s] w fun e w' => e = .returned (.string (enM s)) ∧ Below w.heap.size w w' := fun s hs w => rEncode_c s hs w
  have hE := hE s hz.s
  have z0 := enM_size s hz.s
  have z00 := itM_size i hi.1 hi.2
  have hI : ∀ w, Env w → Calls Tryz.prog 33 #[.int .i64 i] w fun e w' => e = .returned (.string (itM i)) ∧ Below w.heap.size w w' := fun w he => rDigits_c i (by omega) (by omega) w
  generalize enM s = E at hE ht z0
  generalize itM i = N at hI ht z00
  generalize txS ⟨2, u, n, s, i, p, g, f⟩ = T at ht ⊢
  obtain ⟨S1, e1⟩ : ∃ S, S = c_r ++ n := ⟨_, rfl⟩
  rw [← e1] at ht
  obtain ⟨S2, e2⟩ : ∃ S, S = S1 ++ cS := ⟨_, rfl⟩
  rw [← e2] at ht
  obtain ⟨S3, e3⟩ : ∃ S, S = S2 ++ E := ⟨_, rfl⟩
  rw [← e3] at ht
  obtain ⟨S4, e4⟩ : ∃ S, S = S3 ++ cI := ⟨_, rfl⟩
  rw [← e4] at ht
  have zn := hz.n
  have zc : cNN.size ≤ 9 ∧ cR.size ≤ 9 ∧ c_r.size ≤ 9 ∧ cS.size ≤ 9 ∧ cI.size ≤ 9 ∧ cCR.size ≤ 9 ∧ cP.size ≤ 9 := by decide
  simp only at zn
  have z1 := congrArg ByteArray.size e1
  rw [ByteArray.size_append] at z1
  have z2 := congrArg ByteArray.size e2
  rw [ByteArray.size_append] at z2
  have z3 := congrArg ByteArray.size e3
  rw [ByteArray.size_append] at z3
  have z4 := congrArg ByteArray.size e4
  rw [ByteArray.size_append] at z4
  have a1 := run_catA c_r n S1 e1 (by omega)
  have a2 := run_catA S1 cS S2 e2 (by omega)
  have a3 := run_catA S2 E S3 e3 (by omega)
  have a4 := run_catA S3 cI S4 e4 (by omega)
  have a5 := run_catA S4 N T ht (by omega)
  unfold c_r at a1
  unfold cS at a2
  unfold cI at a4
  clear e1 z1 e2 z2 e3 z3 e4 z4 ht zc z0 zn z00
  replace he := Lib.hid he
  unfold mv
  go_enter Tryz.func11, Tryz.ntmps11
  go_upto_region 1 with fail
  refine gen_world fun W hW => ?_
  have hk : W.heap[w.heap.size]? = some (.cells (mA ⟨2, u, n, s, i, p, g, f⟩) 23 (0, 0)) := by subst hW; exact blk_new _ _
  have hAb : Below w.heap.size w W := by subst hW; (repeat (first | exact Below.refl _ _ | (refine bl_alloc ?_ _) | (refine bl_drewN ?_ _) | (refine bl_drew ?_) | (refine bl_call (by assumption) ?_) | (refine bl_set _ _ (by simp <;> omega) ?_) | assumption))
  clear hW
  have b0 : W.cell? ⟨w.heap.size, 0, none⟩ = some (.int .i64 2) := blk_cell hk 0
  have b2 : W.cell? ⟨w.heap.size, 2, none⟩ = some (.string n) := blk_cell hk 2
  have b3 : W.cell? ⟨w.heap.size, 3, none⟩ = some (.string s) := blk_cell hk 3
  have b4 : W.cell? ⟨w.heap.size, 4, none⟩ = some (.int .i64 i) := blk_cell hk 4
  have he2 := Lib.hid (he.out.below hAb)
  clear hk
  go_upto_region 5 with fail
  refine wp_region_grow (fun w' => Below W.heap.size W w') 13 (by kernel_rfl) (by kernel_rfl) ⟨rfl, rfl, rfl, Nat.le_refl _, fun _ _ => rfl⟩ ?_
  simp only [List.take_succ_cons, List.take_zero, List.drop_succ_cons, List.drop_zero]
  repeat (first | go_big_quiet_skip | (go_big_quiet_want; go_big_quiet_op; first | go_big_quiet_on | (apply Exists.intro; refine ⟨fun w1 hw1 => ?_, ?_⟩; (first | exact rfl | (simp only [grow_cell hw1 b2, Result.andThen_ok]; exact ⟨trivial, rfl⟩) | (simp only [grow_cell hw1 b3, Result.andThen_ok]; exact ⟨trivial, rfl⟩) | (simp only [grow_cell hw1 b4, Result.andThen_ok]; exact ⟨trivial, rfl⟩) | (simp only [a1, a2, a3, a4, a5, Result.andThen_ok]; exact ⟨trivial, rfl⟩) | (go_at_call 32; refine Calls_grow hw1 (hE w1)) | (go_at_call 33; refine Calls_grow hw1 (hI w1 (he2.out.below hw1)))); go_big_quiet_on)))
  refine wpQuiet_nil ?_
  intro w1 hw1
  have hA2 := bl_call hw1 hAb
  clear hw1
  go_wp2_with fail
  exact bodyPost_ret (v := .string T) (by simp [results, Tryz.results11, go_sem]) rfl ⟨rfl, hA2⟩
set_option maxHeartbeats 4000000 in
theorem rText_3 (m : MsgS) (hk : m.k = 3) (hz : SzT m) (w : World) (he : Env w) : Calls Tryz.prog 11 #[mv m] w fun x w' => x = .returned (.string (txS m)) ∧ Below w.heap.size w w' := by
  have ht := tx3 m hk
  obtain ⟨k, u, n, s, i, p, g, f⟩ := m
  simp only at hk ht
  subst hk
  have hE : ∀ s : ByteArray, s.size ≤ 2000 → ∀ w, Calls Tryz.prog 32 #[.string s] w fun e w' => e = .returned (.string (enM s)) ∧ Below w.heap.size w w' := fun s hs w => rEncode_c s hs w
  have hE := hE p hz.p
  have z0 := enM_size p hz.p
  generalize enM p = E at hE ht z0
  generalize txS ⟨3, u, n, s, i, p, g, f⟩ = T at ht ⊢
  obtain ⟨S1, e1⟩ : ∃ S, S = cCR ++ n := ⟨_, rfl⟩
  rw [← e1] at ht
  obtain ⟨S2, e2⟩ : ∃ S, S = S1 ++ cP := ⟨_, rfl⟩
  rw [← e2] at ht
  have zn := hz.n
  have zc : cNN.size ≤ 9 ∧ cR.size ≤ 9 ∧ c_r.size ≤ 9 ∧ cS.size ≤ 9 ∧ cI.size ≤ 9 ∧ cCR.size ≤ 9 ∧ cP.size ≤ 9 := by decide
  simp only at zn
  have z1 := congrArg ByteArray.size e1
  rw [ByteArray.size_append] at z1
  have z2 := congrArg ByteArray.size e2
  rw [ByteArray.size_append] at z2
  have a1 := run_catA cCR n S1 e1 (by omega)
  have a2 := run_catA S1 cP S2 e2 (by omega)
  have a3 := run_catA S2 E T ht (by omega)
  unfold cCR at a1
  unfold cP at a2
  clear e1 z1 e2 z2 ht zc z0 zn
  replace he := Lib.hid he
  unfold mv
  go_enter Tryz.func11, Tryz.ntmps11
  go_upto_region 1 with fail
  refine gen_world fun W hW => ?_
  have hk : W.heap[w.heap.size]? = some (.cells (mA ⟨3, u, n, s, i, p, g, f⟩) 23 (0, 0)) := by subst hW; exact blk_new _ _
  have hAb : Below w.heap.size w W := by subst hW; (repeat (first | exact Below.refl _ _ | (refine bl_alloc ?_ _) | (refine bl_drewN ?_ _) | (refine bl_drew ?_) | (refine bl_call (by assumption) ?_) | (refine bl_set _ _ (by simp <;> omega) ?_) | assumption))
  clear hW
  have b0 : W.cell? ⟨w.heap.size, 0, none⟩ = some (.int .i64 3) := blk_cell hk 0
  have b2 : W.cell? ⟨w.heap.size, 2, none⟩ = some (.string n) := blk_cell hk 2
  have b5 : W.cell? ⟨w.heap.size, 5, none⟩ = some (.string p) := blk_cell hk 5
  have he2 := Lib.hid (he.out.below hAb)
  clear hk
  go_upto_region 7 with fail
  refine wp_region_grow (fun w' => Below W.heap.size W w') 8 (by kernel_rfl) (by kernel_rfl) ⟨rfl, rfl, rfl, Nat.le_refl _, fun _ _ => rfl⟩ ?_
  simp only [List.take_succ_cons, List.take_zero, List.drop_succ_cons, List.drop_zero]
  repeat (first | go_big_quiet_skip | (go_big_quiet_want; go_big_quiet_op; first | go_big_quiet_on | (apply Exists.intro; refine ⟨fun w1 hw1 => ?_, ?_⟩; (first | exact rfl | (simp only [grow_cell hw1 b2, Result.andThen_ok]; exact ⟨trivial, rfl⟩) | (simp only [grow_cell hw1 b5, Result.andThen_ok]; exact ⟨trivial, rfl⟩) | (simp only [a1, a2, a3, Result.andThen_ok]; exact ⟨trivial, rfl⟩) | (go_at_call 32; refine Calls_grow hw1 (hE w1))); go_big_quiet_on)))
  refine wpQuiet_nil ?_
  intro w1 hw1
  have hA2 := bl_call hw1 hAb
  clear hw1
  go_wp2_with fail
  exact bodyPost_ret (v := .string T) (by simp [results, Tryz.results11, go_sem]) rfl ⟨rfl, hA2⟩
set_option maxHeartbeats 4000000 in
theorem rText_4 (m : MsgS) (hk : m.k ≠ 1 ∧ m.k ≠ 2 ∧ m.k ≠ 3) (hz : SzT m) (w : World) (he : Env w) : Calls Tryz.prog 11 #[mv m] w fun x w' => x = .returned (.string (txS m)) ∧ Below w.heap.size w w' := by
  have ht := tx4 m hk.1 hk.2.1 hk.2.2
  obtain ⟨k, u, n, s, i, p, g, f⟩ := m
  simp only at hk ht
  obtain ⟨k1, k2, k3⟩ := hk
  have d1 : (k == 1) = false := by rw [beq_eq_false_iff_ne]; exact k1
  have d2 : (k == 2) = false := by rw [beq_eq_false_iff_ne]; exact k2
  have d3 : (k == 3) = false := by rw [beq_eq_false_iff_ne]; exact k3
  have hE : ∀ s : ByteArray, s.size ≤ 2000 → ∀ w, Calls Tryz.prog 32 #[.string s] w fun e w' => e = .returned (.string (enM s)) ∧ Below w.heap.size w w' := fun s hs w => rEncode_c s hs w
  have hE := hE g hz.g
  have z0 := enM_size g hz.g
  have zf := hz.f
  have zc : c_e.size ≤ 9 ∧ c_v.size ≤ 9 := by decide
  simp only at zf
  generalize enM g = E at hE ht z0
  generalize txS ⟨k, u, n, s, i, p, g, f⟩ = T at ht ⊢
  clear hz he
  unfold mv
  by_cases hf : f = ⟨#[]⟩
  · rw [if_pos hf] at ht
    have a1 := run_catA c_v E T ht (by omega)
    unfold c_v at a1
    obtain ⟨ef1, ef2⟩ := emp_yes hf
    clear ht z0 zf zc hf
    go_enter Tryz.func11, Tryz.ntmps11
    go_upto_region 1 with fail
    refine gen_world fun W hW => ?_
    have hk : W.heap[w.heap.size]? = some (.cells (mA ⟨k, u, n, s, i, p, g, f⟩) 23 (0, 0)) := by subst hW; exact blk_new _ _
    have hAb : Below w.heap.size w W := by subst hW; (repeat (first | exact Below.refl _ _ | (refine bl_alloc ?_ _) | (refine bl_drewN ?_ _) | (refine bl_drew ?_) | (refine bl_call (by assumption) ?_) | (refine bl_set _ _ (by simp <;> omega) ?_) | assumption))
    clear hW
    have b0 : W.cell? ⟨w.heap.size, 0, none⟩ = some (.int .i64 k) := blk_cell hk 0
    have b6 : W.cell? ⟨w.heap.size, 6, none⟩ = some (.string g) := blk_cell hk 6
    have b7 : W.cell? ⟨w.heap.size, 7, none⟩ = some (.string f) := blk_cell hk 7
    clear hk
    go_wp2_with (go_at_call 32; refine (hE _).mono ?_; rintro e w5 ⟨rfl, hb5⟩)
    exact bodyPost_ret (v := .string T) (by simp [results, Tryz.results11, go_sem]) rfl ⟨rfl, bl_call hb5 hAb⟩
  · rw [if_neg hf] at ht
    have a1 := run_catA c_e f T ht (by omega)
    unfold c_e at a1
    obtain ⟨ef1, ef2⟩ := emp_no hf
    clear ht z0 zf zc hf
    go_enter Tryz.func11, Tryz.ntmps11
    go_upto_region 1 with fail
    refine gen_world fun W hW => ?_
    have hk : W.heap[w.heap.size]? = some (.cells (mA ⟨k, u, n, s, i, p, g, f⟩) 23 (0, 0)) := by subst hW; exact blk_new _ _
    have hAb : Below w.heap.size w W := by subst hW; (repeat (first | exact Below.refl _ _ | (refine bl_alloc ?_ _) | (refine bl_drewN ?_ _) | (refine bl_drew ?_) | (refine bl_call (by assumption) ?_) | (refine bl_set _ _ (by simp <;> omega) ?_) | assumption))
    clear hW
    have b0 : W.cell? ⟨w.heap.size, 0, none⟩ = some (.int .i64 k) := blk_cell hk 0
    have b6 : W.cell? ⟨w.heap.size, 6, none⟩ = some (.string g) := blk_cell hk 6
    have b7 : W.cell? ⟨w.heap.size, 7, none⟩ = some (.string f) := blk_cell hk 7
    clear hk
    go_wp2_with fail
    exact bodyPost_ret (v := .string T) (by simp [results, Tryz.results11, go_sem]) rfl ⟨rfl, hAb⟩
theorem rText_c (m : MsgS) (hz : SzT m) (hi : m.k = 2 → 1 ≤ m.i ∧ m.i ≤ 16777216) (w : World) (he : Env w) : Calls Tryz.prog 11 #[mv m] w fun x w' => x = .returned (.string (txS m)) ∧ Below w.heap.size w w' := by
  by_cases h1 : m.k = 1
  · exact rText_1 m h1 hz w he
  by_cases h2 : m.k = 2
  · exact rText_2 m h2 hz (hi h2) w he
  by_cases h3 : m.k = 3
  · exact rText_3 m h3 hz w he
  exact rText_4 m ⟨h1, h2, h3⟩ hz w he
end Go.Proofs.YtjigckibbjfkmaaGreatDoor

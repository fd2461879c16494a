/- The contracts of sabretachelaw43.awake and VaultSeals. -/
import Derived.Test.YthnackakgglhbaaVd
namespace Go.Proofs.Ythnackakgglhbaa
open Go.RowKit Go.Lib
set_option maxRecDepth 100000
set_option linter.unusedSimpArgs false
set_option linter.unusedVariables false
theorem awake43_c (w : World) : Calls Try.prog 5 #[] w fun e w' => e = .returned (.bool true) ∧ Below w.heap.size w w' := by
  have hS := fun w => vSeal_c ⟨#[107]⟩ ⟨#[108]⟩ ⟨#[116, 101, 120, 116]⟩ (by decide) (by decide) (by decide) (by decide) w
  have hz : (sealS ⟨#[107]⟩ ⟨#[108]⟩ ⟨#[116, 101, 120, 116]⟩).size = 20 := sealS_size _ _ _
  have ho := open_seal ⟨#[107]⟩ ⟨#[108]⟩ ⟨#[116, 101, 120, 116]⟩ (by decide)
  have hO := fun w => vOpen_c ⟨#[107]⟩ ⟨#[108]⟩ (sealS ⟨#[107]⟩ ⟨#[108]⟩ ⟨#[116, 101, 120, 116]⟩) (by decide) (by decide) (by decide) (by rw [hz]; decide) w
  rw [ho] at hO
  simp only [opT, opE] at hO
  generalize sealS ⟨#[107]⟩ ⟨#[108]⟩ ⟨#[116, 101, 120, 116]⟩ = s at hS hz hO
  clear ho
  have hz2 : (s.size : Int) = 20 := by omega
  go_enter Try.func5, Try.ntmps5
  go_wp2_with (first | (go_at_call 8; refine (hS _).mono ?_; rintro e w3 ⟨rfl, hb3⟩) | (go_at_call 10; refine (hO _).mono ?_; rintro e w4 ⟨rfl, hb4⟩))
  exact bodyPost_ret (v := .bool true) (by simp [results, Try.results5, go_sem]) rfl ⟨rfl, bl_call hb4 hb3⟩
theorem seals_big (k l t : ByteArray) (n : Int) (w : World) (h : 100 < k.size ∨ (¬ 100 < k.size ∧ 100 < l.size) ∨ (¬ 100 < k.size ∧ ¬ 100 < l.size ∧ 300 < t.size) ∨ (¬ 100 < k.size ∧ ¬ 100 < l.size ∧ ¬ 300 < t.size ∧ 300 < n)) : Calls Try.prog 3 #[.agg #[.string k, .string l], .string t, .int .i64 n] w fun e w' => e = .returned (.bool true) ∧ Below w.heap.size w w' := by
  rcases h with h | ⟨h0, h⟩ | ⟨h0, h1, h⟩ | ⟨h0, h1, h2, h⟩
  · have q : 100 < (k.size : Int) := by omega
    go_enter Try.func3, Try.ntmps3
    go_wp2_with (go_at_call 5; refine (awake43_c _).mono ?_; rintro e w3 ⟨rfl, hb3⟩; have k3 := grow_blk hb3 (blk_new w _); have c0 := blk_cell k3 0; have c1 := blk_cell k3 1)
    exact bodyPost_ret (v := .bool true) (by simp [results, Try.results3, go_sem]) rfl ⟨rfl, bl_call hb3 ((Below.refl _ _).alloc (Nat.le_refl _) _)⟩
  · have q0 : ¬ 100 < (k.size : Int) := by omega
    have q : 100 < (l.size : Int) := by omega
    go_enter Try.func3, Try.ntmps3
    go_wp2_with (go_at_call 5; refine (awake43_c _).mono ?_; rintro e w3 ⟨rfl, hb3⟩; have k3 := grow_blk hb3 (blk_new w _); have c0 := blk_cell k3 0; have c1 := blk_cell k3 1)
    exact bodyPost_ret (v := .bool true) (by simp [results, Try.results3, go_sem]) rfl ⟨rfl, bl_call hb3 ((Below.refl _ _).alloc (Nat.le_refl _) _)⟩
  · have q0 : ¬ 100 < (k.size : Int) := by omega
    have q1 : ¬ 100 < (l.size : Int) := by omega
    have q : 300 < (t.size : Int) := by omega
    go_enter Try.func3, Try.ntmps3
    go_wp2_with (go_at_call 5; refine (awake43_c _).mono ?_; rintro e w3 ⟨rfl, hb3⟩; have k3 := grow_blk hb3 (blk_new w _); have c0 := blk_cell k3 0; have c1 := blk_cell k3 1)
    exact bodyPost_ret (v := .bool true) (by simp [results, Try.results3, go_sem]) rfl ⟨rfl, bl_call hb3 ((Below.refl _ _).alloc (Nat.le_refl _) _)⟩
  · have q0 : ¬ 100 < (k.size : Int) := by omega
    have q1 : ¬ 100 < (l.size : Int) := by omega
    have q2 : ¬ 300 < (t.size : Int) := by omega
    go_enter Try.func3, Try.ntmps3
    go_wp2_with (go_at_call 5; refine (awake43_c _).mono ?_; rintro e w3 ⟨rfl, hb3⟩; have k3 := grow_blk hb3 (blk_new w _); have c0 := blk_cell k3 0; have c1 := blk_cell k3 1)
    exact bodyPost_ret (v := .bool true) (by simp [results, Try.results3, go_sem]) rfl ⟨rfl, bl_call hb3 ((Below.refl _ _).alloc (Nat.le_refl _) _)⟩
set_option maxHeartbeats 4000000 in
theorem VaultSeals_c (k l t : ByteArray) (n : Int) (w : World) : Calls Try.prog 3 #[.agg #[.string k, .string l], .string t, .int .i64 n] w fun e w' => e = .returned (.bool true) ∧ Below w.heap.size w w' := by
  by_cases hbig : 100 < k.size ∨ (¬ 100 < k.size ∧ 100 < l.size) ∨ (¬ 100 < k.size ∧ ¬ 100 < l.size ∧ 300 < t.size) ∨ (¬ 100 < k.size ∧ ¬ 100 < l.size ∧ ¬ 300 < t.size ∧ 300 < n)
  · exact seals_big k l t n w hbig
  have q0 : ¬ 100 < (k.size : Int) := by omega
  have q1 : ¬ 100 < (l.size : Int) := by omega
  have q2 : ¬ 300 < (t.size : Int) := by omega
  have q3 : ¬ 300 < n := by omega
  have k0 : k.size ≤ 100 := by omega
  have l0 : l.size ≤ 100 := by omega
  have t0 : t.size ≤ 300 := by omega
  clear hbig
  obtain ⟨N, hN⟩ : ∃ N : Nat, (N : Int) = if n < 0 then 0 else n := ⟨n.toNat, by split <;> omega⟩
  have hmx : max n 0 = (N : Int) := by rw [hN]; split <;> omega
  have hN2 : N ≤ 300 := by split at hN <;> omega
  have hA := fun w => vStream_c k l (by omega) (by omega) n N (by omega) hN w
  have hB := fun w => rStream_c k l (by omega) (by omega) N (by omega) w
  generalize strT k l N = st at hA hB
  have hst := same_str st
  have hLb := fun w => rLabel_c l (by omega) w
  have sn := fun (h : labB l = false) w => vSeal_no k l t h w
  have on := fun (h : labB l = false) w => vOpen_no k l t h w
  have sy := fun (h : labB l = true) w => vSeal_c k l t h (by omega) (by omega) (by omega) w
  have ry := fun w => rSeal_c k l t (by omega) (by omega) (by omega) w
  have hz := sealS_size k l t
  have oy := fun (h : labB l = true) w => vOpen_c k l (sealS k l t) h (by omega) (by omega) (by omega) w
  rw [open_seal k l t (by omega)] at oy
  simp only [opT, opE] at oy
  generalize sealS k l t = s at sy ry hz oy
  have hss := same_str s
  have htt := same_str t
  clear hN
  go_enter Try.func3, Try.ntmps3
  go_upto_region 5 with (go_at_call 5; refine (awake43_c _).mono ?_; rintro e w3 ⟨rfl, hb3⟩; have k3 := grow_blk hb3 (blk_new w _); have c0 := blk_cell k3 0; have c1 := blk_cell k3 1)
  refine gen_world fun W hW => ?_
  subst hW
  replace hb3 := bl_call hb3 ((Below.refl _ _).alloc (Nat.le_refl _) _)
  refine wp_region_grow (fun w' => Below W.heap.size W w') 13 (by kernel_rfl) (by kernel_rfl) ⟨rfl, rfl, rfl, Nat.le_refl _, fun _ _ => rfl⟩ ?_
  simp only [List.take_succ_cons, List.take_zero, List.drop_succ_cons, List.drop_zero]
  repeat (first | go_big_quiet_skip | (go_big_quiet_want; go_big_quiet_op; first | go_big_quiet_on | (apply Exists.intro; refine ⟨fun w1 hw1 => ?_, ?_⟩; (first | exact rfl | (simp only [grow_cell hw1 c0, Result.andThen_ok]; exact ⟨trivial, rfl⟩) | (simp only [grow_cell hw1 c1, Result.andThen_ok]; exact ⟨trivial, rfl⟩) | (go_at_call 6; refine Calls_grow hw1 (hA w1)) | (go_at_call 7; refine Calls_grow hw1 (hB w1))); go_big_quiet_on)))
  refine wpQuiet_nil ?_
  intro w1 hw1
  replace hb3 := bl_call hw1 hb3
  replace k3 := grow_blk hw1 k3
  clear hw1 c0 c1
  have c0 := blk_cell k3 0
  have c1 := blk_cell k3 1
  cases hL : labB l with
  | false =>
    have sn' := sn hL
    have on' := on hL
    rw [hL] at hLb
    clear sn on sy oy
    go_wp2_with (first | (go_at_call 8; refine (sn' _).mono ?_; rintro e w4 ⟨rfl, hb4⟩; have c0 := grow_cell hb4 c0; have c1 := grow_cell hb4 c1) | (go_at_call 9; refine (hLb _).mono ?_; rintro e w5 ⟨rfl, hb5⟩; have c0 := grow_cell hb5 c0; have c1 := grow_cell hb5 c1) | (go_at_call 10; refine (on' _).mono ?_; rintro e w6 ⟨rfl, hb6⟩; have c0 := grow_cell hb6 c0; have c1 := grow_cell hb6 c1))
    exact bodyPost_ret (v := .bool true) (by simp [results, Try.results3, go_sem]) rfl ⟨rfl, bl_call hb6 (bl_call hb5 (bl_call hb4 hb3))⟩
  | true =>
    have sy' := sy hL
    have oy' := oy hL
    rw [hL] at hLb
    clear sn on sy oy
    go_wp2_with (first | (go_at_call 8; refine (sy' _).mono ?_; rintro e w4 ⟨rfl, hb4⟩; have c0 := grow_cell hb4 c0; have c1 := grow_cell hb4 c1) | (go_at_call 9; refine (hLb _).mono ?_; rintro e w5 ⟨rfl, hb5⟩; have c0 := grow_cell hb5 c0; have c1 := grow_cell hb5 c1) | (go_at_call 10; refine (oy' _).mono ?_; rintro e w6 ⟨rfl, hb6⟩; have c0 := grow_cell hb6 c0; have c1 := grow_cell hb6 c1) | (go_at_call 11; refine (ry _).mono ?_; rintro e w7 ⟨rfl, hb7⟩))
    exact bodyPost_ret (v := .bool true) (by simp [results, Try.results3, go_sem]) rfl ⟨rfl, bl_call hb7 (bl_call hb6 (bl_call hb5 (bl_call hb4 hb3)))⟩
end Go.Proofs.Ythnackakgglhbaa

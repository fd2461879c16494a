/- Contracts of gate.brought, gate.Delay, of the reference's bring and Delay. -/
import Derived.Test.YtlldnejodchkdabGb
namespace Go.Proofs.Ytlldnejodchkdab
open Go.RowKit
set_option maxRecDepth 100000
set_option linter.unusedSimpArgs false
set_option linter.unusedVariables false
def cl (n lo hi : Int) : Int := min (max n lo) hi
theorem brought_c (n lo hi : Int) (w : World) : Calls Try.prog 23 #[.int .i64 n, .int .i64 lo, .int .i64 hi] w fun e w' => e = .returned (.int .i64 (cl n lo hi)) ∧ w' = w := by
  obtain ⟨c, hc⟩ : ∃ c, c = cl n lo hi := ⟨_, rfl⟩
  rw [← hc]
  unfold cl at hc
  replace hc := Lib.hid hc
  go_enter Try.func23, Try.ntmps23
  go_wp2_with fail
  all_goals exact bodyPost_ret (v := .int .i64 c) (by have := hc.out; simp [results, Try.results23, go_sem]; omega) rfl ⟨rfl, rfl⟩
theorem bring_c (n lo hi : Int) (h : lo ≤ hi) (w : World) : Calls Try.prog 24 #[.int .i64 n, .int .i64 lo, .int .i64 hi] w fun e w' => e = .returned (.int .i64 (cl n lo hi)) ∧ w' = w := by
  by_cases h1 : n < lo
  · have e : cl n lo hi = lo := by unfold cl; omega
    rw [e]
    go_enter Try.func24, Try.ntmps24
    go_wp2_with fail
    exact bodyPost_ret (v := .int .i64 lo) (by simp [results, Try.results24, go_sem]) rfl ⟨rfl, rfl⟩
  by_cases h2 : hi < n
  · have e : cl n lo hi = hi := by unfold cl; omega
    rw [e]
    go_enter Try.func24, Try.ntmps24
    go_wp2_with fail
    exact bodyPost_ret (v := .int .i64 hi) (by simp [results, Try.results24, go_sem]) rfl ⟨rfl, rfl⟩
  · have e : cl n lo hi = n := by unfold cl; omega
    rw [e]
    go_enter Try.func24, Try.ntmps24
    go_wp2_with fail
    exact bodyPost_ret (v := .int .i64 n) (by simp [results, Try.results24, go_sem]) rfl ⟨rfl, rfl⟩
/-- A wait behind so many doublings. -/
def pw (L : Int) (t : Nat) : Int := min (2 ^ t) L
theorem pw_zero {L : Int} (h : 1 ≤ L) : pw L 0 = 1 := by simp [pw]; omega
theorem pw_succ {L : Int} (h : 1 ≤ L) (t : Nat) : pw L (t + 1) = min (2 * pw L t) L := by
  have : (2 : Int) ^ (t + 1) = 2 * 2 ^ t := by rw [Int.pow_succ, Int.mul_comm]
  unfold pw
  rw [this]
  have h2 : (0 : Int) < 2 ^ t := Int.pow_pos (by decide)
  omega
theorem cl_le (n lo hi : Int) : cl n lo hi ≤ hi := by unfold cl; omega
theorem le_cl (n lo hi : Int) (h : lo ≤ hi) : lo ≤ cl n lo hi := by unfold cl; omega
def dly (n f l : Int) : Int := if n ≤ cl f 0 1000 ∨ n < 1 then 0 else pw (cl l 1 1048576) (min (n - cl f 0 1000 - 1) 30).toNat
theorem pw_bounds {L : Int} (h : 1 ≤ L) (t : Nat) : 1 ≤ pw L t ∧ pw L t ≤ L := by
  have h2 : (0 : Int) < 2 ^ t := Int.pow_pos (by decide)
  unfold pw; omega
set_option maxHeartbeats 1000000 in
theorem Delay_c (n f l : Int) (hn : -9223372036854775808 ≤ n ∧ n ≤ 9223372036854775807) (w : World) : Calls Try.prog 7 #[.int .i64 n, .int .i64 f, .int .i64 l] w fun e w' => e = .returned (.int .i64 (dly n f l)) ∧ w' = w := by
  unfold dly
  have hF0 := le_cl f 0 1000 (by decide)
  have hF1 := cl_le f 0 1000
  have hL0 := le_cl l 1 1048576 (by decide)
  have hL1 := cl_le l 1 1048576
  have bF := fun w => brought_c f 0 1000 w
  have bL := fun w => brought_c l 1 1048576 w
  generalize cl f 0 1000 = F at hF0 hF1 bF ⊢
  generalize cl l 1 1048576 = L at hL0 hL1 bL ⊢
  replace bF := Lib.hid bF
  replace bL := Lib.hid bL
  have arms : True := trivial
  by_cases h1 : n ≤ F
  · rw [if_pos (.inl h1)]
    have tok1 : True := trivial
    go_enter Try.func7, Try.ntmps7
    go_wp2_with (first | (go_at_call 23; first | ((with_reducible refine (bF.out _).mono ?_); rintro e w3 ⟨rfl, rfl⟩) | ((with_reducible refine (bL.out _).mono ?_); rintro e w3 ⟨rfl, rfl⟩)))
    exact bodyPost_ret (v := .int .i64 0) (by simp [results, Try.results7, go_sem]) rfl ⟨rfl, rfl⟩
  by_cases h2 : n < 1
  · rw [if_pos (.inr h2)]
    go_enter Try.func7, Try.ntmps7
    go_wp2_with (first | (go_at_call 23; first | ((with_reducible refine (bF.out _).mono ?_); rintro e w3 ⟨rfl, rfl⟩) | ((with_reducible refine (bL.out _).mono ?_); rintro e w3 ⟨rfl, rfl⟩)))
    exact bodyPost_ret (v := .int .i64 0) (by simp [results, Try.results7, go_sem]) rfl ⟨rfl, rfl⟩
  rw [if_neg (by omega)]
  obtain ⟨t, ht⟩ : ∃ t : Nat, (t : Int) = min (n - F - 1) 30 := ⟨(min (n - F - 1) 30).toNat, by omega⟩
  rw [← ht, Int.toNat_natCast]
  have ht30 : t ≤ 30 := by omega
  have ht2 : (if 30 < n - F - 1 then 30 else n - F - 1) = (t : Int) := by rw [ht]; split <;> omega
  replace ht := Lib.hid ht
  have hp0 := pw_zero hL0
  have hps := fun t => pw_succ hL0 t
  have hpb := fun t => pw_bounds hL0 t
  generalize pw L = P at hp0 hps hpb ⊢
  replace hps := Lib.hid hps
  replace hpb := Lib.hid hpb
  have q1 : ¬ n ≤ F := h1
  go_enter Try.func7, Try.ntmps7
  go_wp2_with (first | (go_at_call 23; first | ((with_reducible refine (bF.out _).mono ?_); rintro e w3 ⟨rfl, rfl⟩) | ((with_reducible refine (bL.out _).mono ?_); rintro e w3 ⟨rfl, rfl⟩)))
  go_loopw [24, 7] (fun i v wr => ∃ j : Nat, j ≤ t ∧ i = .int .i64 (j : Int) ∧ v = .int .i64 (P j) ∧ wr = w3) (fun i _ _ => t - (RowKit.intOf i).toNat)
  case atStart => exact ⟨0, by omega, rfl, by rw [hp0], rfl⟩
  case round =>
    clear hp0
    obtain ⟨j, hj, rfl, rfl, rfl⟩ := hrel
    have b1 := (hpb.out j).1
    have b2 := (hpb.out j).2
    by_cases hlt : j < t
    · have hlt' : (j : Int) < (t : Int) := by omega
      have hst : (if L < 2 * P j then L else 2 * P j) = P (j + 1) := by rw [hps.out]; split <;> omega
      go_wp2_with fail
      exact ⟨⟨j + 1, by omega, congrArg (Value.int .i64) (by omega), rfl, by trivial⟩, by simp [RowKit.intOf] <;> omega⟩
    · obtain rfl : j = t := by omega
      have hlt' : ¬ (j : Int) < (j : Int) := by omega
      have q2 : ¬ L < P j := by omega
      go_wp2_with fail
      exact bodyPost_ret (v := .int .i64 (P j)) (by simp [results, Try.results7, go_sem]) rfl ⟨rfl, rfl⟩
set_option maxHeartbeats 1000000 in
theorem rDelay_c (n f l : Int) (hn : -9223372036854775808 ≤ n ∧ n ≤ 9223372036854775807) (w : World) : Calls Try.prog 8 #[.int .i64 n, .int .i64 f, .int .i64 l] w fun e w' => e = .returned (.int .i64 (dly n f l)) ∧ w' = w := by
  unfold dly
  have hF0 := le_cl f 0 1000 (by decide)
  have hF1 := cl_le f 0 1000
  have hL0 := le_cl l 1 1048576 (by decide)
  have hL1 := cl_le l 1 1048576
  have bF := fun w => bring_c f 0 1000 (by decide) w
  have bL := fun w => bring_c l 1 1048576 (by decide) w
  generalize cl f 0 1000 = F at hF0 hF1 bF ⊢
  generalize cl l 1 1048576 = L at hL0 hL1 bL ⊢
  replace bF := Lib.hid bF
  replace bL := Lib.hid bL
  by_cases h2 : n < 1
  · rw [if_pos (.inr h2)]
    go_enter Try.func8, Try.ntmps8
    go_wp2_with (first | (go_at_call 24; first | ((with_reducible refine (bF.out _).mono ?_); rintro e w3 ⟨rfl, rfl⟩) | ((with_reducible refine (bL.out _).mono ?_); rintro e w3 ⟨rfl, rfl⟩)))
    exact bodyPost_ret (v := .int .i64 0) (by simp [results, Try.results8, go_sem]) rfl ⟨rfl, rfl⟩
  by_cases h1 : n ≤ F
  · rw [if_pos (.inl h1)]
    go_enter Try.func8, Try.ntmps8
    go_wp2_with (first | (go_at_call 24; first | ((with_reducible refine (bF.out _).mono ?_); rintro e w3 ⟨rfl, rfl⟩) | ((with_reducible refine (bL.out _).mono ?_); rintro e w3 ⟨rfl, rfl⟩)))
    exact bodyPost_ret (v := .int .i64 0) (by simp [results, Try.results8, go_sem]) rfl ⟨rfl, rfl⟩
  rw [if_neg (by omega)]
  obtain ⟨t, ht⟩ : ∃ t : Nat, (t : Int) = min (n - F - 1) 30 := ⟨(min (n - F - 1) 30).toNat, by omega⟩
  rw [← ht, Int.toNat_natCast]
  have hend : ∀ j : Nat, (j : Int) ≤ n - F - 1 → ((j : Int) = n - F - 1 ∨ L ≤ 2 ^ j) → j ≤ 20 → cl (2 ^ j) 1 L = pw L t := fun j h3 h4 h5 => by
    have hp : (0 : Int) < 2 ^ j := Int.pow_pos (by decide)
    have e1 : cl (2 ^ j) 1 L = pw L j := by unfold cl pw; omega
    rw [e1]
    rcases h4 with h4 | h4
    · obtain rfl : j = t := by omega
      rfl
    · have h6 : j ≤ t := by omega
      have h7 : (2 : Int) ^ j ≤ 2 ^ t := by
        have := Nat.pow_le_pow_right (show 0 < 2 by decide) h6
        have e2 : ((2 ^ j : Nat) : Int) ≤ ((2 ^ t : Nat) : Int) := by exact_mod_cast this
        simpa using e2
      unfold pw
      omega
  have hsm : ∀ j : Nat, j < 20 → (2 : Int) ^ j ≤ 524288 := fun j h => by
    have h2 : ∀ k : Fin 20, (2 : Int) ^ k.val ≤ 524288 := by decide
    exact h2 ⟨j, h⟩
  have h20 : (1048576 : Int) ≤ 2 ^ 20 := by decide
  have hbe := fun j w => bring_c (2 ^ j) 1 L hL0 w
  replace hend := Lib.hid hend
  replace hsm := Lib.hid hsm
  replace hbe := Lib.hid hbe
  clear ht
  obtain ⟨Q, hQ⟩ : ∃ Q : Nat → Int, Q = fun j => 2 ^ j := ⟨_, rfl⟩
  have hq0 : Q 0 = 1 := by rw [hQ]; rfl
  have hqs : ∀ j, Q (j + 1) = Q j * 2 := fun j => by rw [hQ]; exact Int.pow_succ ..
  have hqp : ∀ j, 0 < Q j := fun j => by rw [hQ]; exact Int.pow_pos (by decide)
  have hsm2 : ∀ j : Nat, j < 20 → Q j ≤ 524288 := fun j h => by rw [hQ]; exact hsm.out j h
  have h202 : (1048576 : Int) ≤ Q 20 := by rw [hQ]; exact h20
  have hbe2 : ∀ (j : Nat) (w : World), Calls Try.prog 24 #[.int .i64 (Q j), .int .i64 1, .int .i64 L] w fun e w' => e = .returned (.int .i64 (cl (Q j) 1 L)) ∧ w' = w := fun j w => by rw [hQ]; exact hbe.out j w
  have hend2 : ∀ j : Nat, (j : Int) ≤ n - F - 1 → ((j : Int) = n - F - 1 ∨ L ≤ Q j) → j ≤ 20 → cl (Q j) 1 L = pw L t := fun j => by rw [hQ]; exact hend.out j
  clear hQ hend hsm hbe h20
  replace hqs := Lib.hid hqs
  replace hqp := Lib.hid hqp
  replace hsm2 := Lib.hid hsm2
  replace hbe2 := Lib.hid hbe2
  replace hend2 := Lib.hid hend2
  go_enter Try.func8, Try.ntmps8
  go_wp2_with (first | (go_at_call 24; first | ((with_reducible refine (bF.out _).mono ?_); rintro e w3 ⟨rfl, rfl⟩) | ((with_reducible refine (bL.out _).mono ?_); rintro e w3 ⟨rfl, rfl⟩)))
  go_loopw [7, 8] (fun v i wr => ∃ j : Nat, (j : Int) ≤ n - F - 1 ∧ j ≤ 20 ∧ i = .int .i64 (F + 1 + (j : Int)) ∧ v = .int .i64 (Q j) ∧ wr = w3) (fun _ i _ => 21 - (RowKit.intOf i - F - 1).toNat)
  case atStart => exact ⟨0, by omega, by omega, by simp, by rw [hq0], rfl⟩
  case round =>
    clear hq0
    obtain ⟨j, hj, hj2, rfl, rfl, rfl⟩ := hrel
    have p1 := hqp.out j
    by_cases hlt : F + 1 + (j : Int) < n
    · by_cases hlt2 : Q j < L
      · have h20 : j < 20 := by
          rcases Nat.lt_or_ge j 20 with h | h
          · exact h
          · obtain rfl : j = 20 := by omega
            omega
        have hs2 := hsm2.out j h20
        have hst : Q j * 2 = Q (j + 1) := (hqs.out j).symm
        clear h202
        go_wp2_with fail
        exact ⟨⟨j + 1, by omega, by omega, congrArg (Value.int .i64) (by omega), rfl, by trivial⟩, by simp [RowKit.intOf] <;> omega⟩
      · have he := hend2.out j hj (.inr (by omega)) hj2
        have hb := fun w => hbe2.out j w
        rw [he] at hb
        replace he := Lib.hid he
        go_wp2_with (go_at_call 24; refine (hb _).mono ?_; rintro e w3 ⟨rfl, rfl⟩)
        exact bodyPost_ret (v := .int .i64 (pw L t)) (by simp [results, Try.results8, go_sem]) rfl ⟨rfl, rfl⟩
    · have he := hend2.out j hj (.inl (by omega)) hj2
      have hb := fun w => hbe2.out j w
      rw [he] at hb
      replace he := Lib.hid he
      go_wp2_with (go_at_call 24; refine (hb _).mono ?_; rintro e w3 ⟨rfl, rfl⟩)
      exact bodyPost_ret (v := .int .i64 (pw L t)) (by simp [results, Try.results8, go_sem]) rfl ⟨rfl, rfl⟩
end Go.Proofs.Ytlldnejodchkdab

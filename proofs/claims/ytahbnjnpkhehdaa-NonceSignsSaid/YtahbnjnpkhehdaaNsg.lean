/- The law NonceSigns. -/
import Derived.Test.YtahbnjnpkhehdaaNy
namespace Go.Proofs.Ytahbnjnpkhehdaa
open Go.RowKit Go.Lib
set_option maxRecDepth 100000
set_option linter.unusedSimpArgs false
set_option linter.unusedVariables false
attribute [local go_sem] evR_tmp evR_const evR_global evR_func
theorem sign_ok (b : UInt8) : 32 < (signOf b).toNat ∧ (signOf b).toNat ≤ 126 ∧ (signOf b).toNat ≠ 44 := by
  have h : ∀ x : Fin 64, 32 < (signsB.data.toList.getD x.val 0).toNat ∧ (signsB.data.toList.getD x.val 0).toNat ≤ 126 ∧ (signsB.data.toList.getD x.val 0).toNat ≠ 44 := by decide +kernel
  exact h ⟨b.toNat % 64, Nat.mod_lt _ (by decide)⟩
theorem signs_ok (B : List UInt8) (k : Nat) (h : k < (ByteArray.mk (signsOf B).toArray).size) : 32 < ((ByteArray.mk (signsOf B).toArray)[k]'h).toNat ∧ ((ByteArray.mk (signsOf B).toArray)[k]'h).toNat ≤ 126 ∧ ((ByteArray.mk (signsOf B).toArray)[k]'h).toNat ≠ 44 := by
  have e : (ByteArray.mk (signsOf B).toArray)[k]'h = signOf (B[k]'(by simpa [ByteArray.size, signsOf] using h)) := by
    show ((signsOf B).toArray)[k]'_ = _
    simp [signsOf]
  rw [e]; exact sign_ok _
set_option maxHeartbeats 8000000 in
theorem NonceSigns_all (seed : ByteArray) (n : Int) (hlo : -9223372036854775808 ≤ n) (hhi : n ≤ 9223372036854775807) (w : World) : Calls Try.prog 4 #[.string seed, .int .i64 n] w fun e w' => e = .returned (.bool true) ∧ Below w.heap.size w w' := by
  have hA := Lib.hid (fun w => awake34_c w)
  by_cases hs : 100 < seed.size
  · have hs' : (100 : Int) < (seed.size : Int) := by omega
    go_enter Try.func4, Try.ntmps4
    go_wp2_with (go_at_call 6; refine (hA.out _).mono ?_; rintro e w1 ⟨rfl, hb1⟩)
    exact bodyPost_ret (v := .bool true) (by simp [results, Try.results4, go_sem]) rfl ⟨rfl, hb1⟩
  have hs' : ¬ (100 : Int) < (seed.size : Int) := by omega
  have hN := fun (g : Nat) (w : World) hk => nNonce_c g seed (by omega) 0 (by decide) n w hk
  have hm1 := clampN_le n
  obtain ⟨m, hm⟩ : ∃ m, m = clampN n := ⟨_, rfl⟩
  have hmi : (m : Int) = min (max n 0) 1024 := by rw [hm]; unfold clampN; omega
  have hd : drawsOf m ≤ 40 := by rw [← hm] at hm1; unfold drawsOf; omega
  have hl := drawB_length seed.data.toList 0 (clampN n)
  rw [← hm] at hN hm1 hl
  generalize drawB seed.data.toList 0 m = B at hN hl
  have hT := signs_ok B
  have hTs : (ByteArray.mk (signsOf B).toArray).size = m := by simp [ByteArray.size, signsOf, hl]
  generalize (ByteArray.mk (signsOf B).toArray) = T at hN hT hTs
  generalize drawsOf m = d at hN hd
  have hBl : ∃ r : Int, (n < 1 → r = 0) ∧ (1 ≤ n → 0 ≤ r ∧ r < n) ∧ ∀ (g : Nat) (w : World), w.heap[g]? = some (.cells (srcC seed (0 + d)) 46 (0, 0)) → Calls Try.prog 13 #[.pointer (some ⟨g, 0, none⟩), .int .i64 n] w fun e w' => e = .returned (.int .i64 r) ∧ Turned g w w' := by
    by_cases h1 : n < 1
    · exact ⟨0, fun _ => rfl, fun h => absurd h (by omega), fun g w hk => (nBelow_low g n h1 w).mono fun e w' ⟨h, hb⟩ => ⟨h, Below.apart hb⟩⟩
    · exact ⟨_, fun h => absurd h h1, fun h => ⟨Int.emod_nonneg _ (by omega), Int.emod_lt_of_pos _ (by omega)⟩, fun g w hk => (nBelow_c g seed (by omega) (0 + d) (by omega) n (by omega) hhi w hk).mono fun e w' ⟨h, _, ht⟩ => ⟨h, ht⟩⟩
  obtain ⟨r, hr0, hr1, hBl⟩ := hBl
  have hW := Lib.hid (fun w => nNew_c seed w)
  replace hN := Lib.hid hN
  replace hT := Lib.hid hT
  replace hTs := Lib.hid hTs
  replace hBl := Lib.hid hBl
  replace hr0 := Lib.hid hr0
  replace hr1 := Lib.hid hr1
  replace hmi := Lib.hid hmi
  clear hl hm hs hd
  go_enter Try.func4, Try.ntmps4
  go_upto_region 6 with (first | (go_at_call 6; refine (hA.out _).mono ?_; rintro e w1 ⟨rfl, hb1⟩) | (go_at_call 7; refine (hW.out _).mono ?_; rintro e w2 ⟨rfl, k2, hb2⟩))
  go_upto_region 8 with (go_at_call 10; refine (hN.out _ _ k2).mono ?_; rintro e w3 ⟨rfl, k3, hT3⟩)
  have hb3 : Below w.heap.size w w3 := turn_below (bl_call hb2 hb1) hT3 hb1.size (bl_call hb2 hb1).size
  have hz1 : w.heap.size ≤ w1.heap.size := hb1.size
  clear hb1 hb2 k2 hT3
  rw [hTs.out]
  go_loop [22] (fun i => ∃ k : Nat, k ≤ m ∧ i = .int .i64 (k : Int)) (fun i => m - (intOf i).toNat)
  case atStart => exact ⟨0, by omega, rfl⟩
  case round =>
    obtain ⟨k, hkm, rfl⟩ := hrel
    have pn : (0 : Int) ≤ (k : Int) := by omega
    by_cases hlt : k < m
    · have hlt' : (k : Int) < (m : Int) := by omega
      have hkT : k < T.size := by rw [hTs.out]; exact hlt
      obtain ⟨q1, q2, q3⟩ := hT.out k hkT
      have c1 : (32 : Int) < (T[k].toNat : Int) := by omega
      have c2 : (T[k].toNat : Int) ≤ 126 := by omega
      have c3 : ((T[k].toNat : Int) == 44) = false := by simp; omega
      clear q1 q2 q3
      go_wp2_with fail
      go_round
      case rel => exact ⟨k + 1, by omega, congrArg (Value.int .i64) (by omega)⟩
      case measure => simp [intOf] <;> omega
    · obtain rfl : k = m := by omega
      have hlt' : ¬ (k : Int) < (k : Int) := by omega
      have hBl2 := hBl.out _ _ k3
      clear hBl hT hN hW hA
      go_upto_region 14 with (go_at_call 13; refine hBl2.mono ?_; rintro e w4 ⟨rfl, hT4⟩)
      have hb4 := turn_below hb3 hT4 hz1 hb3.size
      clear hBl2 hT4
      have hmi2 := hmi.out
      rcases Int.lt_trichotomy n 0 with hn0 | rfl | hn0
      focus
        obtain rfl : k = 0 := by omega
        obtain rfl : r = 0 := hr0.out (by omega)
        obtain rfl : T = ByteArray.empty := ByteArray.size_eq_zero_iff.1 hTs.out
        clear hmi2
        go_wp2_with (first | (go_at_call 13; refine (nBelow_nil _ _).mono ?_; rintro e w5 ⟨rfl, hb5⟩) | (go_at_call 8; refine (nBytes_nil _ _).mono ?_; rintro e w6 ⟨rfl, hb6⟩) | (go_at_call 14; refine (nCount_nil _).mono ?_; rintro e w7 ⟨rfl, hb7⟩))
      rotate_left
      focus
        obtain rfl : k = 0 := by omega
        obtain rfl : r = 0 := hr0.out (by omega)
        obtain rfl : T = ByteArray.empty := ByteArray.size_eq_zero_iff.1 hTs.out
        clear hmi2
        go_wp2_with (first | (go_at_call 13; refine (nBelow_nil _ _).mono ?_; rintro e w5 ⟨rfl, hb5⟩) | (go_at_call 8; refine (nBytes_nil _ _).mono ?_; rintro e w6 ⟨rfl, hb6⟩) | (go_at_call 14; refine (nCount_nil _).mono ?_; rintro e w7 ⟨rfl, hb7⟩))
      rotate_left
      obtain ⟨hr2, hr3⟩ := hr1.out (by omega)
      have e0 : ¬ n < 0 := by omega
      have e3 : ¬ n < 1 := by omega
      by_cases hn2 : 1024 < n
      focus
        obtain rfl : k = 1024 := by omega
        have hts2 := hTs.out
        clear hmi2
        go_wp2_with (first | (go_at_call 13; refine (nBelow_nil _ _).mono ?_; rintro e w5 ⟨rfl, hb5⟩) | (go_at_call 8; refine (nBytes_nil _ _).mono ?_; rintro e w6 ⟨rfl, hb6⟩) | (go_at_call 14; refine (nCount_nil _).mono ?_; rintro e w7 ⟨rfl, hb7⟩))
      rotate_left
      focus
        obtain rfl : n = (k : Int) := by omega
        have hts2 := hTs.out
        clear hmi2
        go_wp2_with (first | (go_at_call 13; refine (nBelow_nil _ _).mono ?_; rintro e w5 ⟨rfl, hb5⟩) | (go_at_call 8; refine (nBytes_nil _ _).mono ?_; rintro e w6 ⟨rfl, hb6⟩) | (go_at_call 14; refine (nCount_nil _).mono ?_; rintro e w7 ⟨rfl, hb7⟩))
      all_goals exact bodyPost_ret (v := .bool true) (by simp [results, Try.results4, go_sem]) rfl ⟨rfl, bl_call hb7 (bl_call hb5 (bl_call hb6 hb4))⟩
end Go.Proofs.Ytahbnjnpkhehdaa

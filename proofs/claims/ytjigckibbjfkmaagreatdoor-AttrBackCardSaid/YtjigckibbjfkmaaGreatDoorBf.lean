/- The contract of the base64 reference's Encode. -/
import Derived.Test.YtjigckibbjfkmaaGreatDoorBe
namespace Go.Proofs.YtjigckibbjfkmaaGreatDoor
open Go.RowKit Go.Lib
set_option maxRecDepth 100000
set_option linter.unusedSimpArgs false
set_option linter.unusedVariables false
theorem bits8_lt (b : UInt8) : ∀ x ∈ bits8 b, x < 2 := by
  intro x hx
  simp only [bits8, List.mem_cons, List.not_mem_nil, or_false] at hx
  rcases hx with rfl | rfl | rfl | rfl | rfl | rfl | rfl | rfl <;> omega
theorem bitsL_lt (l : List UInt8) : ∀ x ∈ bitsL l, x < 2 := by
  intro x hx
  unfold bitsL at hx
  obtain ⟨b, _, h⟩ := List.mem_flatMap.1 hx
  exact bits8_lt b x h
theorem pad6_lt (l : List Nat) (h : ∀ x ∈ l, x < 2) : ∀ x ∈ pad6 l, x < 2 := by
  intro x hx
  unfold pad6 at hx
  rcases List.mem_append.1 hx with q | q
  · exact h x q
  · rw [(List.mem_replicate.1 q).2]; decide
theorem ch6_drop (B : List Nat) (k : Nat) (h : 6 * k + 6 ≤ B.length) : ch6 (B.drop (6 * k)) = sg (val6 (B.getD (6 * k) 0) (B.getD (6 * k + 1) 0) (B.getD (6 * k + 2) 0) (B.getD (6 * k + 3) 0) (B.getD (6 * k + 4) 0) (B.getD (6 * k + 5) 0)) :: ch6 (B.drop (6 * (k + 1))) := by
  have e : ∀ j, j < B.length → B.drop j = B.getD j 0 :: B.drop (j + 1) := fun j hj => by
    rw [List.drop_eq_getElem_cons hj, List.getD_eq_getElem?_getD, List.getElem?_eq_getElem hj]; rfl
  rw [e (6 * k) (by omega), e (6 * k + 1) (by omega), e (6 * k + 1 + 1) (by omega), e (6 * k + 1 + 1 + 1) (by omega), e (6 * k + 1 + 1 + 1 + 1) (by omega), e (6 * k + 1 + 1 + 1 + 1 + 1) (by omega)]
  rfl
theorem getD_lt (B : List Nat) (h : ∀ x ∈ B, x < 2) (j : Nat) : B.getD j 0 < 2 := by
  rw [List.getD_eq_getElem?_getD]
  cases hj : B[j]? with
  | none => decide
  | some x => exact h x (List.mem_of_getElem? hj)
theorem val6_lt (a b c d e f : Nat) (ha : a < 2) (hb : b < 2) (hc : c < 2) (hd : d < 2) (he : e < 2) (hf : f < 2) : val6 a b c d e f < 64 := by unfold val6; omega
set_option maxHeartbeats 16000000 in
theorem rEncode_c (s : ByteArray) (hs : s.size ≤ 2000) (w : World) : Calls Tryz.prog 32 #[.string s] w fun e w' => e = .returned (.string ⟨(encL s.data.toList).toArray⟩) ∧ Below w.heap.size w w' := by
  have hfin := ref_enc s.data.toList
  have hBi := fun w => bits_c s (by omega) w
  have hl : (bitsL s.data.toList).length = 8 * s.size := by rw [bitsL_length, Array.length_toList]; rfl
  have hlt2 := pad6_lt _ (bitsL_lt s.data.toList)
  rw [← hfin]
  unfold refEnc
  clear hfin
  obtain ⟨R, hR⟩ : ∃ R, R = pad4 (ch6 (pad6 (bitsL s.data.toList))) := ⟨_, rfl⟩
  rw [← hR]
  have hfinal : R = pad4 (ch6 (pad6 (bitsL s.data.toList))) := hR
  clear hR
  have hpd : pad6 (bitsL s.data.toList) = bitsL s.data.toList ++ List.replicate ((6 - 8 * s.size % 6) % 6) 0 := by unfold pad6; rw [hl]
  obtain ⟨J, hJ⟩ : ∃ J, J = (6 - 8 * s.size % 6) % 6 := ⟨_, rfl⟩
  rw [← hJ] at hpd
  obtain ⟨L, hL⟩ : ∃ L, L = 8 * s.size := ⟨_, rfl⟩
  rw [← hL] at hl hBi hJ
  have hL2 : L ≤ 16000 := by omega
  generalize bitsL s.data.toList = bl at hBi hl hlt2 hpd hfinal
  generalize hBB : pad6 bl = B at hlt2 hpd hfinal
  clear hBB
  have hBl : B.length = L + J := by rw [hpd, List.length_append, hl, List.length_replicate]
  have hJ6 : J ≤ 5 := by omega
  have hM : (L + J) % 6 = 0 := by omega
  replace hJ := Lib.hid hJ
  replace hfinal := Lib.hid hfinal
  replace hL := Lib.hid hL
  replace hl := Lib.hid hl
  replace hpd := Lib.hid hpd
  replace hBl := Lib.hid hBl
  replace hlt2 := Lib.hid hlt2
  have tok1 : True := trivial
  go_enter Tryz.func32, Tryz.ntmps32
  go_upto_region 2 with (go_at_call 53; refine (hBi _).mono ?_; rintro e w1 ⟨ao, cap, rfl, HO, HB⟩)
  have HO0 : w1.ownsRow w.heap.size 3 1 (.slice ao L cap) (L + 0) ((bl ++ List.replicate 0 0).map iv) := by simpa using HO
  have HB0 := HB
  clear HO HB hBi
  go_loopw [3] (fun sv wr => ∃ j ao cap, j ≤ J ∧ sv = .slice ao (L + j) cap ∧ Below w.heap.size w wr ∧ wr.ownsRow w.heap.size 3 1 sv (L + j) ((bl ++ List.replicate j 0).map iv)) (fun sv _ => L + J - slen sv)
  case atStart => exact ⟨0, ao, cap, by omega, rfl, HB0, HO0⟩
  case round =>
    clear HB0 HO0
    obtain ⟨j, ao2, cap2, hj, rfl, HB, HO⟩ := hrel
    by_cases hlt : j < J
    · have hq : ((((L + j : Nat) : Int) % 6) != 0) = true := by have := hJ.out; simp; omega
      have hq2 : ((L : Int) + (j : Int)) % 6 ≠ 0 := by have := hJ.out; omega
      go_wp2_with (refine wpList_app1 rfl _ _ 67 rfl w.heap.size 3 (.int .i64 0) 8 Tryz.underlying67 (by kernel_rfl) rfl (by decide) _ _ _ rfl (ownsRow_block HO fun g hg => heap_alloc_old _ _ (ownsRow_lt HO hg).2) _ 1 _ rfl (blk_cell (blk_new _ _) 0) rfl (by omega) (by have := HB.size; simp; omega) ?_; intro g4 cap4 w4 HO4 hg4 hsv4 hlt4; replace HB := grown_below (bl_alloc HB _) hg4 (by have := HB.size; simp; omega) (fun g hg => (ownsRow_lt HO hg).1); replace HO := HO4; clear hg4 HO4 hsv4 hlt4)
      refine ⟨⟨j + 1, _, _, by omega, rfl, HB, ?_⟩, by simp only [slen]; omega⟩
      have e : (bl ++ List.replicate (j + 1) 0).map iv = (bl ++ List.replicate j 0).map iv ++ [.int .i64 0] := by
        rw [List.replicate_succ', ← List.append_assoc, List.map_append]; rfl
      rw [e]
      exact HO
    · obtain rfl : j = J := by omega
      have hq : ((((L + j : Nat) : Int) % 6) != 0) = false := by simp; omega
      have hq2 : ((L : Int) + (j : Int)) % 6 = 0 := by omega
      rw [← hpd.out] at HO
      obtain ⟨M, hM6⟩ : ∃ M, L + j = 6 * M := ⟨(L + j) / 6, by omega⟩
      have hMle : M ≤ 3000 := by omega
      rw [hM6] at HO ⊢
      have hBl2 : B.length = 6 * M := by rw [hBl.out, hM6]
      replace hBl2 := Lib.hid hBl2
      clear hq hq2 hM hM6
      go_wp2_with fail
      obtain ⟨W1, hW1⟩ : ∃ W1 : World, W1 = wr := ⟨_, rfl⟩
      rw [← hW1] at HO HB ⊢
      clear hW1
      have HU0 : W1.ownsRow W1.heap.size 5 1 (.slice none 0 0) 0 (([] : List UInt8).map bv) := World.ownsRow_nil _ _ _ _
      have hch0 : ch6 B = [] ++ ch6 (B.drop (6 * 0)) := rfl
      go_loopw [5, 4] (fun i sv w2 => ∃ k acc, k ≤ M ∧ i = .int .i64 ((6 * k : Nat) : Int) ∧ acc.length = k ∧ ch6 B = acc ++ ch6 (B.drop (6 * k)) ∧ Below W1.heap.size W1 w2 ∧ w2.ownsRow W1.heap.size 5 1 sv k (acc.map bv)) (fun i _ _ => 6 * M - (RowKit.intOf i).toNat)
      case atStart => exact ⟨0, [], by omega, rfl, rfl, hch0, Below.refl _ _, HU0⟩
      case round =>
        clear HU0 hch0
        obtain ⟨k, acc, hk, rfl, hal, hch, HV, HU⟩ := hrel
        replace hch := Lib.hid hch
        replace hal := Lib.hid hal
        by_cases hlt : k < M
        · have hlt' : (6 : Int) * (k : Int) < (6 : Int) * (M : Int) := by omega
          have hlt3 : ((6 * k : Nat) : Int) < ((6 * M : Nat) : Int) := by omega
          have hst := Lib.hid (ch6_drop B k (by rw [hBl2.out]; omega))
          have hg : ∀ t, t < 6 → B.getD (6 * k + t) 0 < 2 := fun t _ => getD_lt B hlt2.out _
          have hget : ∀ t, t < 6 → (B.map iv)[6 * k + t]? = some (iv (B.getD (6 * k + t) 0)) := fun t ht => by
            have hj : 6 * k + t < B.length := by rw [hBl2.out]; omega
            rw [List.getElem?_map, List.getD_eq_getElem?_getD, List.getElem?_eq_getElem hj]; rfl
          have g0 := hg 0 (by decide)
          have g1 := hg 1 (by decide)
          have g2 := hg 2 (by decide)
          have g3 := hg 3 (by decide)
          have g4 := hg 4 (by decide)
          have g5 := hg 5 (by decide)
          obtain ⟨gb, capb, eb, cb0⟩ := own_at HO (hget 0 (by decide))
          have hcc : ∀ t, t < 6 → wr.cell? ⟨gb, 6 * k + t, none⟩ = some (iv (B.getD (6 * k + t) 0)) := fun t ht => by
            obtain ⟨g2, cap2, e2, c2⟩ := own_at HO (hget t ht)
            rw [eb] at e2
            cases e2
            exact (HV.cell (p := ⟨gb, _, none⟩) (cell_lt' c2)).trans c2
          cases eb
          have d0 := hcc 0 (by decide)
          have d1 := hcc 1 (by decide)
          have d2 := hcc 2 (by decide)
          have d3 := hcc 3 (by decide)
          have d4 := hcc 4 (by decide)
          have d5 := hcc 5 (by decide)
          have hv := val6_lt _ _ _ _ _ _ g0 g1 g2 g3 g4 g5
          clear hget hcc hg cb0
          unfold iv at d0 d1 d2 d3 d4 d5
          rw [Nat.add_zero] at d0 g0 hv
          have hS := fun w => sign_c _ hv w
          generalize B.getD (6 * k) 0 = x0 at d0 g0 hst hS hv
          generalize B.getD (6 * k + 1) 0 = x1 at d1 g1 hst hS hv
          generalize B.getD (6 * k + 2) 0 = x2 at d2 g2 hst hS hv
          generalize B.getD (6 * k + 3) 0 = x3 at d3 g3 hst hS hv
          generalize B.getD (6 * k + 4) 0 = x4 at d4 g4 hst hS hv
          generalize B.getD (6 * k + 5) 0 = x5 at d5 g5 hst hS hv
          have hvi : ((((((x0 : Int) * 2 + (x1 : Int)) * 2 + (x2 : Int)) * 2 + (x3 : Int)) * 2 + (x4 : Int)) * 2 + (x5 : Int)) = ((val6 x0 x1 x2 x3 x4 x5 : Nat) : Int) := by unfold val6; omega
          replace hvi := Lib.hid hvi
          generalize val6 x0 x1 x2 x3 x4 x5 = v at hst hS hv hvi
          go_wp2_with fail
          refine wp_loop_rounds 7 ?_
          rw [rounds_succ]
          go_wp2_with fail
          rw [rounds_succ]
          go_wp2_with fail
          rw [rounds_succ]
          go_wp2_with fail
          rw [rounds_succ]
          go_wp2_with fail
          rw [rounds_succ]
          go_wp2_with fail
          rw [rounds_succ]
          go_wp2_with fail
          rw [rounds_succ]
          go_upto_region 13 with fail
          rw [hvi.out]
          go_wp2_with (first | (go_at_call 54; refine (hS _).mono ?_; rintro e w3 ⟨rfl, rfl⟩) | (refine wpList_app1 rfl _ _ 49 rfl W1.heap.size 5 (.int .u8 0) 1 Tryz.underlying49 (by kernel_rfl) rfl (by decide) _ _ _ rfl (ownsRow_block HU fun g hg => heap_alloc_old _ _ (ownsRow_lt HU hg).2) _ 1 _ rfl (blk_cell (blk_new _ _) 0) rfl (by omega) (by have := HV.size; simp; omega) ?_; intro g4 cap4 w4 HO4 hg4 hsv4 hlt4; replace HV := grown_below (bl_alloc HV _) hg4 (by have := HV.size; simp; omega) (fun g hg => (ownsRow_lt HU hg).1); replace HU := HO4; clear hg4 HO4 hsv4 hlt4))
          go_roundw
          case measure => simp [RowKit.intOf] <;> omega
          refine ⟨k + 1, acc ++ [sg v], by omega, congrArg (Value.int .i64) (by omega), by rw [List.length_append, hal.out]; rfl, by rw [hch.out, hst.out, List.append_assoc]; rfl, HV, ?_⟩
          rw [List.map_append]
          exact HU
        · obtain rfl : k = M := by omega
          have hlt' : ¬ (6 : Int) * (k : Int) < (6 : Int) * (k : Int) := by omega
          have hlt3 : ¬ ((6 * k : Nat) : Int) < ((6 * k : Nat) : Int) := by omega
          have hA : ch6 B = acc := by
            rw [hch.out, List.drop_eq_nil_of_le (by rw [hBl2.out]; exact Nat.le_refl _)]
            simp [ch6]
          have hF2 := hfinal.out
          rw [hA] at hF2
          go_upto_region 14 with fail
          have h1 : R = acc ++ List.replicate ((4 - k % 4) % 4) 61 := by rw [hF2, pad4, hal.out]
          obtain ⟨J4, hJ4⟩ : ∃ J4, J4 = (4 - k % 4) % 4 := ⟨_, rfl⟩
          rw [← hJ4] at h1
          have hJ43 : J4 ≤ 3 := by omega
          have hM4 : (k + J4) % 4 = 0 := by omega
          replace hJ4 := Lib.hid hJ4
          replace h1 := Lib.hid h1
          clear hF2 hA hlt' hlt3
          obtain ⟨ao4, cap4, rfl⟩ := own_form HU
          have HU0 : wr.ownsRow W1.heap.size 5 1 (.slice ao4 k cap4) (k + 0) ((acc ++ List.replicate 0 61).map bv) := by simpa using HU
          have HV0 := HV
          clear HU HV
          go_loopw [4] (fun sv w2 => ∃ j ao cap, j ≤ J4 ∧ sv = .slice ao (k + j) cap ∧ Below W1.heap.size W1 w2 ∧ w2.ownsRow W1.heap.size 5 1 sv (k + j) ((acc ++ List.replicate j 61).map bv)) (fun sv _ => k + J4 - slen sv)
          case atStart => exact ⟨0, ao4, cap4, by omega, rfl, HV0, HU0⟩
          case round =>
            clear HV0 HU0
            obtain ⟨j, ao5, cap5, hj, rfl, HV, HU⟩ := hrel
            by_cases hlt : j < J4
            · have hq : ((((k + j : Nat) : Int) % 4) != 0) = true := by have := hJ4.out; simp; omega
              have hq2 : ((k : Int) + (j : Int)) % 4 ≠ 0 := by have := hJ4.out; omega
              go_wp2_with (refine wpList_app1 rfl _ _ 49 rfl W1.heap.size 5 (.int .u8 0) 1 Tryz.underlying49 (by kernel_rfl) rfl (by decide) _ _ _ rfl (ownsRow_block HU fun g hg => heap_alloc_old _ _ (ownsRow_lt HU hg).2) _ 1 _ rfl (blk_cell (blk_new _ _) 0) rfl (by omega) (by have := HV.size; simp; omega) ?_; intro g4 cap4 w4 HO4 hg4 hsv4 hlt4; replace HV := grown_below (bl_alloc HV _) hg4 (by have := HV.size; simp; omega) (fun g hg => (ownsRow_lt HU hg).1); replace HU := HO4; clear hg4 HO4 hsv4 hlt4)
              refine ⟨⟨j + 1, _, _, by omega, rfl, HV, ?_⟩, by simp only [slen]; omega⟩
              have e : (acc ++ List.replicate (j + 1) 61).map bv = (acc ++ List.replicate j 61).map bv ++ [.int .u8 61] := by
                rw [List.replicate_succ', ← List.append_assoc, List.map_append]; rfl
              rw [e]
              exact HU
            · obtain rfl : j = J4 := by omega
              have hq : ((((k + j : Nat) : Int) % 4) != 0) = false := by simp; omega
              have hq2 : ((k : Int) + (j : Int)) % 4 = 0 := by omega
              rw [← h1.out] at HU
              have rk := RowB.owns (by rw [h1.out, List.length_append, hal.out, List.length_replicate]) HU
              go_wp2_with (refine wpList_convBS rfl rfl rfl rk ?_)
              exact bodyPost_ret (v := .string ⟨R.toArray⟩) (by simp [results, Tryz.results32, go_sem]) rfl ⟨rfl, bl_call HV HB⟩
end Go.Proofs.YtjigckibbjfkmaaGreatDoor


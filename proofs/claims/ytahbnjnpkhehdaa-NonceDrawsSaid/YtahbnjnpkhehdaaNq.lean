/- Draws from a seed: the reference's next. -/
import Derived.Test.YtahbnjnpkhehdaaNp
namespace Go.Proofs.Ytahbnjnpkhehdaa
open Go.RowKit Go.Lib
set_option maxRecDepth 100000
set_option linter.unusedSimpArgs false
set_option linter.unusedVariables false
attribute [local go_sem] evR_tmp evR_const evR_global evR_func
/-- The last j of a number's bytes. -/
def backZ (c j : Nat) : List UInt8 := List.replicate (8 - j) 0 ++ (be8 c).drop (8 - j)
theorem backZ_length (c j : Nat) (h : j ≤ 8) : (backZ c j).length = 8 := by simp [backZ, be8] <;> omega
theorem backZ_set (c j : Nat) (h : j < 8) : (backZ c j).set (7 - j) (UInt8.ofNat (c / 256 ^ j)) = backZ c (j + 1) := by
  rcases j with _ | _ | _ | _ | _ | _ | _ | _ | j
  all_goals first | rfl | omega
theorem backZ_full (c : Nat) : backZ c 8 = be8 c := rfl
def srcR (seed : ByteArray) (c : Nat) : Array Value := #[.string seed, .int .i64 (c : Int)]
set_option maxHeartbeats 4000000 in
theorem rNext_c (g : Nat) (seed : ByteArray) (hs : seed.size ≤ 400000) (c : Nat) (hc : c < 1000000000) (w : World) (hk : w.heap[g]? = some (.cells (srcR seed c) 28 (0, 0))) : Calls Try.prog 19 #[.pointer (some ⟨g, 0, none⟩)] w fun e w' => ∃ g' cap, e = .returned (.slice (some ⟨g', 0, none⟩) 32 cap) ∧ RowB w' (.slice (some ⟨g', 0, none⟩) 32 cap) (digN seed.data.toList c) ∧ w'.heap[g]? = some (.cells (srcR seed (c + 1)) 28 (0, 0)) ∧ Turned g w w' := by
  have hg := blk_lt hk
  have L8 := Lib.hid (be8_length c)
  go_enter Try.func19, Try.ntmps19
  have cg0 : w.cell? ⟨g, 1, none⟩ = some (.int .i64 (c : Int)) := blk_cell hk 1
  go_upto_region 3 with (refine wpList_makeN rfl _ _ 32 rfl 5 (.int .u8 0) (.int .u8 0) 1 Try.underlying32 (by kernel_rfl) rfl (by omega) _ 8 rfl rfl rfl (by omega) ?_)
  refine gen_world fun W hW => ?_
  have k7 : W.heap[w.heap.size]? = some (.cells (bc (backZ c 0)) 5 (0, 0)) := by subst hW; exact blk_new _ _
  have HB : Below w.heap.size w W := by subst hW; (repeat (first | exact Below.refl _ _ | (refine bl_alloc ?_ _) | (refine bl_drewN ?_ _) | (refine bl_drew ?_) | (refine bl_call (by assumption) ?_) | (refine bl_set _ _ (by simp <;> omega) ?_) | assumption))
  clear hW
  go_wp2_with fail
  have HB0 := HB
  have k70 := k7
  clear HB k7
  go_loopw [3, 5] (fun nv iv wr => ∃ j : Nat, j ≤ 8 ∧ nv = .int .i64 ((c / 256 ^ j : Nat) : Int) ∧ iv = .int .i64 (7 - (j : Int)) ∧ Below w.heap.size w wr ∧ wr.heap[w.heap.size]? = some (.cells (bc (backZ c j)) 5 (0, 0))) (fun _ iv _ => (intOf iv + 1).toNat)
  case atStart => exact ⟨0, by omega, by simp, rfl, HB0, k70⟩
  case round =>
    clear HB0 k70
    obtain ⟨j, hj, rfl, rfl, HB, k7⟩ := hrel
    have pn : (0 : Int) ≤ (j : Int) := by omega
    by_cases hlt : j < 8
    · have hlt' : (0 : Int) ≤ 7 - (j : Int) := by omega
      have hs := backZ_set c j hlt
      have hd : c / 256 ^ (j + 1) = c / 256 ^ j / 256 := by rw [Nat.pow_succ, Nat.div_div_eq_div_mul]
      have hle : c / 256 ^ j ≤ c := Nat.div_le_self _ _
      obtain ⟨n, hn⟩ : ∃ n, n = c / 256 ^ j := ⟨_, rfl⟩
      rw [← hn] at hs hd hle ⊢
      replace hd := Lib.hid hd
      replace hn := Lib.hid hn
      obtain ⟨i, hi⟩ : ∃ i : Nat, i = 7 - j := ⟨_, rfl⟩
      rw [show (7 : Int) - (j : Int) = (i : Int) by omega] at hlt' ⊢
      have hi8 : (i : Int) < 8 := by omega
      have hi8' : i < 8 := by omega
      rw [← hi] at hs
      replace hi := Lib.hid hi
      have hv : (n : Int) % 256 = ((UInt8.ofNat n).toNat : Int) := by rw [UInt8.toNat_ofNat']; norm_cast
      generalize UInt8.ofNat n = y at hv hs
      replace hs := Lib.hid hs
      have L7 := Lib.hid (backZ_length c j hj)
      have c7 := blk_cell k7 i
      rw [bc_at _ _ (by rw [L7.out]; exact hi8')] at c7
      generalize (backZ c j)[i]'(by rw [L7.out]; exact hi8') = old at c7
      have f7 := blk_frozen k7 i
      go_upto_region 5 with (fail)
      try rw [hv]
      refine gen_world fun W2 hW => ?_
      replace HB : Below w.heap.size w W2 := by subst hW; exact bl_set _ _ (by simp) HB
      replace k7 : W2.heap[w.heap.size]? = some (.cells (bc (backZ c (j + 1))) 5 (0, 0)) := by
        subst hW
        rw [← hs.out, ← bc_set]
        exact blk_set k7 i _
      clear hW c7 f7 hv
      go_wp2_with fail
      go_roundw
      case measure => simp [intOf] <;> omega
      have hi2 := hi.out
      have hd2 := hd.out
      refine ⟨j + 1, by omega, congrArg (Value.int .i64) (by rw [hd2]; omega), congrArg (Value.int .i64) (by omega), HB, k7⟩
    · obtain rfl : j = 8 := by omega
      have hlt' : ¬ (0 : Int) ≤ 7 - ((8 : Nat) : Int) := by omega
      rw [backZ_full] at k7
      have kg := grow_blk HB hk
      have cg : wr.cell? ⟨g, 1, none⟩ = some (.int .i64 (c : Int)) := blk_cell kg 1
      have fg := blk_frozen kg 1
      have hR : RowB wr (.slice (some ⟨w.heap.size, 0, none⟩) 8 8) (be8 c) := by
        have := RowB.of (w := wr) (g := w.heap.size) (off := 0) (cap := 8) (bs := be8 c) (fun k h => by rw [Nat.zero_add, blk_cell k7 k, bc_at _ _ h])
        rwa [L8.out] at this
      go_upto_region 9 with (fail)
      refine gen_world fun W hW => ?_
      have kW : W.heap[g]? = some (.cells (srcR seed (c + 1)) 28 (0, 0)) := by
        subst hW
        have := blk_set kg 1 (.int .i64 ((c : Int) + 1))
        simpa [srcR] using this
      have hT : Turned g wr W := by subst hW; exact turned_set wr ⟨g, 1, none⟩ _
      replace hR := hR.turned hT (by omega)
      have cs : W.cell? ⟨g, 0, none⟩ = some (.string seed) := blk_cell kW 0
      have hT0 : Turned g w W := hT.after HB
      clear hW cg fg kg k7
      have hM := fun (w1 : World) (sv tv : Value) (hr : RowB w1 sv seed.data.toList) (ht : RowB w1 tv (be8 c)) => rMac_c seed.data.toList (be8 c) sv tv w1 (by rw [Array.length_toList]; exact hs) (by rw [L8.out]; omega) hr ht
      have hB := fun w => rBytes_c (macw seed.data.toList (be8 c)) (macK_length _ _) w
      have hd : digN seed.data.toList c = refBytes (macw seed.data.toList (be8 c)) := rfl
      have hdl : (digN seed.data.toList c).length = 32 := digN_length _ _
      rw [← hd] at hB
      generalize macw seed.data.toList (be8 c) = m at hM hB hd
      replace hd := Lib.hid hd
      go_wp2_with (first | (refine wpList_convSB rfl rfl rfl Try.underlying9 Try.underlying32 Try.underlying5 ?_; intro cap w2 hR2 hb2 hlt2) | (go_at_call 16; refine (hM _ _ _ hR2 (hR.grow hb2)).mono ?_; rintro e w3 ⟨rfl, hb3⟩) | (go_at_call 15; refine (hB _).mono ?_; rintro e w4 ⟨g4, cap4, cur, rfl, h1, h2, h3, h4, hb4⟩))
      have hbb : Below W.heap.size W w4 := bl_call hb4 (bl_call hb3 hb2)
      have hr4 : RowB w4 (.slice (some ⟨g4, 0, none⟩) 32 cap4) (digN seed.data.toList c) := by
        have := RowB.block (cap := cap4) (bs := digN seed.data.toList c) h3 (by rw [hdl]; exact h4)
        rwa [hdl] at this
      exact bodyPost_ret (v := .slice (some ⟨g4, 0, none⟩) 32 cap4) (by simp [results, Try.results19, go_sem]) rfl ⟨g4, cap4, rfl, hr4, grow_blk hbb kW, hT0.then hbb⟩
end Go.Proofs.Ytahbnjnpkhehdaa

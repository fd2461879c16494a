/- The law ScramProofs. -/
import Derived.Test.YtpcpdgkkjkkklaaSv
import Derived.RegionTactic
namespace Go.Proofs.Ytpcpdgkkjkkklaa
open Go.RowKit Go.Lib
set_option maxRecDepth 100000
set_option linter.unusedSimpArgs false
set_option linter.unusedVariables false
attribute [local go_sem] evR_tmp evR_const evR_global evR_func
set_option maxHeartbeats 8000000 in
theorem ScramProofs_all (p s t : ByteArray) (n : Int) (zp : p.size ≤ 140737488355328) (zs : s.size ≤ 140737488355328) (zt : t.size ≤ 140737488355328) (w : World) : Calls Try.prog 6 #[.agg #[.string p, .string s], .int .i64 n, .string t] w fun e w' => e = .returned (.bool true) ∧ Below w.heap.size w w' := by
  have hA := Lib.hid (fun w => awake27_c w)
  have hS := fun (b : Bool) (hb : decide (sumT [p, s, t] [p, s, t].length ≤ 200) = b) (w1 : World) => short_new 200 (by decide) [p, s, t] (by simp) (by intro x hx; simp at hx; rcases hx with rfl | rfl | rfl <;> assumption) b hb #[.string p, .string s, .string t] rfl 3 rfl 9 w1
  have hsum : sumT [p, s, t] [p, s, t].length = p.size + (s.size + t.size) := by simp [sumT]
  rw [hsum] at hS
  obtain ⟨b, hb⟩ : ∃ b, decide (p.size + (s.size + t.size) ≤ 200) = b := ⟨_, rfl⟩
  have hS0 := Lib.hid (hS b hb)
  replace hb := Lib.hid hb
  clear hS hsum
  go_enter Try.func6, Try.ntmps6
  go_upto_region 3 with (go_at_call 7; refine (hA.out _).mono ?_; rintro e w1 ⟨rfl, hb1⟩)
  have k3 : w1.heap[w.heap.size]? = some (.cells #[.string p, .string s] 46 (0, 0)) := grow_blk hb1 (blk_new w _)
  have c0 : w1.cell? ⟨w.heap.size, 0, none⟩ = some (.string p) := blk_cell k3 0
  have c1 : w1.cell? ⟨w.heap.size, 1, none⟩ = some (.string s) := blk_cell k3 1
  have HB : Below w.heap.size w w1.drew := bl_drew (bl_call hb1 (bl_alloc (Below.refl _ _) _))
  clear hb1 k3 hA
  go_region
  go_upto_region 4 with fail
  refine gen_world fun W hW => ?_
  rw [← hW] at HB
  clear hW c0 c1
  cases b with
  | false =>
    go_wp2_with (first | (go_at_call 8; refine (hS0.out _).mono ?_; rintro e w2 ⟨rfl, hb2⟩))
    exact bodyPost_ret (v := .bool true) (by simp [results, Try.results6, go_sem]) rfl ⟨rfl, bl_call hb2 HB⟩
  | true =>
  have hsz : p.size + (s.size + t.size) ≤ 200 := of_decide_eq_true hb.out
  by_cases h2 : 6 < n ∧ n ≤ 16777216
  · obtain ⟨q1, q2⟩ := h2
    go_wp2_with (first | (go_at_call 8; refine (hS0.out _).mono ?_; rintro e w2 ⟨rfl, hb2⟩))
    exact bodyPost_ret (v := .bool true) (by simp [results, Try.results6, go_sem]) rfl ⟨rfl, bl_call hb2 HB⟩
  by_cases h3 : n < 1
  · have hP := Lib.hid (fun w => sProof_no p s t n (.inl h3) w)
    have q1 : ¬ 6 < n := by omega
    clear h2
    go_wp2_with (first | (go_at_call 8; refine (hS0.out _).mono ?_; rintro e w2 ⟨rfl, hb2⟩) | (go_at_call 20; refine (hP.out _).mono ?_; rintro e w3 ⟨rfl, hb3⟩))
    exact bodyPost_ret (v := .bool true) (by simp [results, Try.results6, go_sem]) rfl ⟨rfl, bl_call hb3 (bl_call hb2 HB)⟩
  by_cases h4 : 16777216 < n
  · have hP := Lib.hid (fun w => sProof_no p s t n (.inr h4) w)
    have q1 : 6 < n := by omega
    have q2 : ¬ n ≤ 16777216 := by omega
    clear h2
    go_wp2_with (first | (go_at_call 8; refine (hS0.out _).mono ?_; rintro e w2 ⟨rfl, hb2⟩) | (go_at_call 20; refine (hP.out _).mono ?_; rintro e w3 ⟨rfl, hb3⟩))
    exact bodyPost_ret (v := .bool true) (by simp [results, Try.results6, go_sem]) rfl ⟨rfl, bl_call hb3 (bl_call hb2 HB)⟩
  obtain ⟨m, hm⟩ : ∃ m : Nat, n = (m : Int) + 1 := ⟨(n - 1).toNat, by omega⟩
  have hP := fun w => sProof_c p s t (by omega) (by omega) (by omega) m (by omega) w
  have hR := fun w => rProof_c p s t (by omega) (by omega) (by omega) m (by omega) w
  have hQ := fun w => rPlain_c p s (by omega) (by omega) m (by omega) w
  have hC := fun w => sCheck_c (stoB (saltB p s m)) ⟨(xorB (cliB (saltB p s m)).data.toList (macText (stoB (saltB p s m)) t).data.toList).toArray⟩ t (by rw [stoB_size]; decide) (by show (xorB _ _).toArray.size ≤ _; rw [List.size_toArray, xorB_length, Array.length_toList]; exact Nat.le_trans (Nat.min_le_left _ _) (by show (cliB _).size ≤ _; rw [cliB_size]; decide)) (by omega) w
  rw [check_own] at hC
  have hG := fun w => sSig_c (serB (saltB p s m)) t (by rw [serB_size]; decide) (by omega) w
  have hH := fun w => srSig_c (serB (saltB p s m)) t (by rw [serB_size]; decide) (by omega) w
  rw [← hm] at hP hR hQ
  generalize (⟨(xorB (cliB (saltB p s m)).data.toList (macText (stoB (saltB p s m)) t).data.toList).toArray⟩ : ByteArray) = pr at hP hR hC
  generalize macText (serB (saltB p s m)) t = sg at hG hH
  generalize stoB (saltB p s m) = x1 at hQ hC
  generalize serB (saltB p s m) = x2 at hQ hG hH
  replace hP := Lib.hid hP
  replace hR := Lib.hid hR
  replace hQ := Lib.hid hQ
  replace hC := Lib.hid hC
  replace hG := Lib.hid hG
  replace hH := Lib.hid hH
  have q1 : ¬ 6 < n := by omega
  clear h2 hm hsz zp zs zt
  go_wp2_with (first | (go_at_call 8; refine (hS0.out _).mono ?_; rintro e w2 ⟨rfl, hb2⟩) | (go_at_call 20; refine (hP.out _).mono ?_; rintro e w3 ⟨rfl, hb3⟩) | (go_at_call 10; refine (hQ.out _).mono ?_; rintro e w4 ⟨rfl, hb4⟩) | (go_at_call 21; refine (hR.out _).mono ?_; rintro e w5 ⟨rfl, hb5⟩) | (go_at_call 11; refine (hC.out _).mono ?_; rintro e w6 ⟨rfl, hb6⟩) | (go_at_call 22; refine (hG.out _).mono ?_; rintro e w7 ⟨rfl, hb7⟩) | (go_at_call 23; refine (hH.out _).mono ?_; rintro e w8 ⟨rfl, hb8⟩))
  exact bodyPost_ret (v := .bool true) (by simp [results, Try.results6, go_sem]) rfl ⟨rfl, bl_call hb8 (bl_call hb7 (bl_call hb6 (bl_call hb5 (bl_call hb4 (bl_call hb3 (bl_call hb2 HB))))))⟩
end Go.Proofs.Ytpcpdgkkjkkklaa

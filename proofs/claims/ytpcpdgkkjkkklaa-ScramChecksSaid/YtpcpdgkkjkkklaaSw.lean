/- The law ScramKeys. -/
import Derived.Test.YtpcpdgkkjkkklaaSv
namespace Go.Proofs.Ytpcpdgkkjkkklaa
open Go.RowKit Go.Lib
set_option maxRecDepth 100000
set_option linter.unusedSimpArgs false
set_option linter.unusedVariables false
attribute [local go_sem] evR_tmp evR_const evR_global evR_func
set_option maxHeartbeats 4000000 in
theorem ScramKeys_all (p s : ByteArray) (n : Int) (zp : p.size ≤ 140737488355328) (zs : s.size ≤ 140737488355328) (w : World) : Calls Try.prog 3 #[.string p, .string s, .int .i64 n] w fun e w' => e = .returned (.bool true) ∧ Below w.heap.size w w' := by
  have hA := Lib.hid (fun w => awake27_c w)
  have hS := fun (b : Bool) (hb : decide (sumT [p, s] [p, s].length ≤ 150) = b) (w1 : World) => short_new 150 (by decide) [p, s] (by simp) (by intro x hx; simp at hx; rcases hx with rfl | rfl <;> assumption) b hb #[.string p, .string s] rfl 2 rfl 9 w1
  have hsum : sumT [p, s] [p, s].length = p.size + s.size := by simp [sumT]
  rw [hsum] at hS
  by_cases h1 : p.size + s.size ≤ 150
  rotate_left
  · have hS0 := hS false (by simp; omega)
    clear hS
    replace hS0 := Lib.hid hS0
    go_enter Try.func3, Try.ntmps3
    go_wp2_with (first | (go_at_call 7; refine (hA.out _).mono ?_; rintro e w1 ⟨rfl, hb1⟩) | (go_at_call 8; refine (hS0.out _).mono ?_; rintro e w2 ⟨rfl, hb2⟩))
    exact bodyPost_ret (v := .bool true) (by simp [results, Try.results3, go_sem]) rfl ⟨rfl, bl_call hb2 hb1⟩
  have hS0 := hS true (by simp; omega)
  clear hS
  replace hS0 := Lib.hid hS0
  by_cases h2 : 6 < n ∧ n ≤ 16777216
  · obtain ⟨q1, q2⟩ := h2
    go_enter Try.func3, Try.ntmps3
    go_wp2_with (first | (go_at_call 7; refine (hA.out _).mono ?_; rintro e w1 ⟨rfl, hb1⟩) | (go_at_call 8; refine (hS0.out _).mono ?_; rintro e w2 ⟨rfl, hb2⟩))
    exact bodyPost_ret (v := .bool true) (by simp [results, Try.results3, go_sem]) rfl ⟨rfl, bl_call hb2 hb1⟩
  by_cases h3 : n < 1
  · have hP := Lib.hid (fun w => sPlain_no p s n (.inl h3) w)
    have q1 : ¬ 6 < n := by omega
    clear h2
    go_enter Try.func3, Try.ntmps3
    go_wp2_with (first | (go_at_call 7; refine (hA.out _).mono ?_; rintro e w1 ⟨rfl, hb1⟩) | (go_at_call 8; refine (hS0.out _).mono ?_; rintro e w2 ⟨rfl, hb2⟩) | (go_at_call 9; refine (hP.out _).mono ?_; rintro e w3 ⟨rfl, hb3⟩))
    exact bodyPost_ret (v := .bool true) (by simp [results, Try.results3, go_sem]) rfl ⟨rfl, bl_call hb3 (bl_call hb2 hb1)⟩
  by_cases h4 : 16777216 < n
  · have hP := Lib.hid (fun w => sPlain_no p s n (.inr h4) w)
    have q1 : 6 < n := by omega
    have q2 : ¬ n ≤ 16777216 := by omega
    clear h2
    go_enter Try.func3, Try.ntmps3
    go_wp2_with (first | (go_at_call 7; refine (hA.out _).mono ?_; rintro e w1 ⟨rfl, hb1⟩) | (go_at_call 8; refine (hS0.out _).mono ?_; rintro e w2 ⟨rfl, hb2⟩) | (go_at_call 9; refine (hP.out _).mono ?_; rintro e w3 ⟨rfl, hb3⟩))
    exact bodyPost_ret (v := .bool true) (by simp [results, Try.results3, go_sem]) rfl ⟨rfl, bl_call hb3 (bl_call hb2 hb1)⟩
  obtain ⟨m, hm⟩ : ∃ m : Nat, n = (m : Int) + 1 := ⟨(n - 1).toNat, by omega⟩
  have hP := fun w => sPlain_c p s (by omega) (by omega) m (by omega) w
  have hR := fun w => rPlain_c p s (by omega) (by omega) m (by omega) w
  rw [← hm] at hP hR
  generalize stoB (saltB p s m) = x1 at hP hR
  generalize serB (saltB p s m) = x2 at hP hR
  replace hP := Lib.hid hP
  replace hR := Lib.hid hR
  have q1 : ¬ 6 < n := by omega
  clear h2 hm
  go_enter Try.func3, Try.ntmps3
  go_wp2_with (first | (go_at_call 7; refine (hA.out _).mono ?_; rintro e w1 ⟨rfl, hb1⟩) | (go_at_call 8; refine (hS0.out _).mono ?_; rintro e w2 ⟨rfl, hb2⟩) | (go_at_call 9; refine (hP.out _).mono ?_; rintro e w3 ⟨rfl, hb3⟩) | (go_at_call 10; refine (hR.out _).mono ?_; rintro e w4 ⟨rfl, hb4⟩))
  exact bodyPost_ret (v := .bool true) (by simp [results, Try.results3, go_sem]) rfl ⟨rfl, bl_call hb4 (bl_call hb3 (bl_call hb2 hb1))⟩
set_option maxHeartbeats 4000000 in
theorem ScramChecks_all (st pr t : ByteArray) (zp : st.size ≤ 140737488355328) (zs : pr.size ≤ 140737488355328) (zt : t.size ≤ 140737488355328) (w : World) : Calls Try.prog 4 #[.string st, .string pr, .string t] w fun e w' => e = .returned (.bool true) ∧ Below w.heap.size w w' := by
  have hA := Lib.hid (fun w => awake27_c w)
  have hS := fun (b : Bool) (hb : decide (sumT [st, pr, t] [st, pr, t].length ≤ 300) = b) (w1 : World) => short_new 300 (by decide) [st, pr, t] (by simp) (by intro x hx; simp at hx; rcases hx with rfl | rfl | rfl <;> assumption) b hb #[.string st, .string pr, .string t] rfl 3 rfl 9 w1
  have hsum : sumT [st, pr, t] [st, pr, t].length = st.size + (pr.size + t.size) := by simp [sumT]
  rw [hsum] at hS
  by_cases h1 : st.size + (pr.size + t.size) ≤ 300
  rotate_left
  · have hS0 := hS false (by simp; omega)
    clear hS
    replace hS0 := Lib.hid hS0
    go_enter Try.func4, Try.ntmps4
    go_wp2_with (first | (go_at_call 7; refine (hA.out _).mono ?_; rintro e w1 ⟨rfl, hb1⟩) | (go_at_call 8; refine (hS0.out _).mono ?_; rintro e w2 ⟨rfl, hb2⟩))
    exact bodyPost_ret (v := .bool true) (by simp [results, Try.results4, go_sem]) rfl ⟨rfl, bl_call hb2 hb1⟩
  have hS0 := hS true (by simp; omega)
  clear hS
  have hC := fun w => sCheck_c st pr t (by omega) (by omega) (by omega) w
  have hD := fun w => rCheck_c st pr t (by omega) (by omega) (by omega) w
  have hX := fun w => sXor_c st pr (by omega) (by omega) w
  have hY := fun w => rXor_c st pr (by omega) (by omega) w
  generalize checkB st pr t = b at hC hD
  generalize (⟨(xorB st.data.toList pr.data.toList).toArray⟩ : ByteArray) = x at hX hY
  replace hS0 := Lib.hid hS0
  replace hC := Lib.hid hC
  replace hD := Lib.hid hD
  replace hX := Lib.hid hX
  replace hY := Lib.hid hY
  clear h1 zp zs zt
  go_enter Try.func4, Try.ntmps4
  go_wp2_with (first | (go_at_call 7; refine (hA.out _).mono ?_; rintro e w1 ⟨rfl, hb1⟩) | (go_at_call 8; refine (hS0.out _).mono ?_; rintro e w2 ⟨rfl, hb2⟩) | (go_at_call 11; refine (hC.out _).mono ?_; rintro e w3 ⟨rfl, hb3⟩) | (go_at_call 12; refine (hD.out _).mono ?_; rintro e w4 ⟨rfl, hb4⟩) | (go_at_call 13; refine (hX.out _).mono ?_; rintro e w5 ⟨rfl, hb5⟩) | (go_at_call 14; refine (hY.out _).mono ?_; rintro e w6 ⟨rfl, hb6⟩))
  exact bodyPost_ret (v := .bool true) (by simp [results, Try.results4, go_sem]) rfl ⟨rfl, bl_call hb6 (bl_call hb5 (bl_call hb4 (bl_call hb3 (bl_call hb2 hb1))))⟩
end Go.Proofs.Ytpcpdgkkjkkklaa

/- The gate with one name; sabretachelaw38.awake; GateDelays. -/
import Derived.Test.YtlldnejodchkdabQd
namespace Go.Proofs.Ytlldnejodchkdab
open Go.RowKit
set_option maxRecDepth 100000
set_option linter.unusedSimpArgs false
set_option linter.unusedVariables false
theorem FailA (B : Nat) (w : World) (g M : Nat) (fr lo nm nw : Int) (s : ByteArray) (hB : B ≤ g ∧ B ≤ M ∧ B ≤ w.heap.size) (h : GS w g M fr lo nm nw #[] 0) (hn : 1 ≤ nm) (h0 : 0 ≤ nw ∧ nw ≤ 1099511627776) :
    Calls Try.prog 11 #[.pointer (some ⟨g, 0, none⟩), .string s] w fun e w' => e = .returned (.int .i64 (dly 1 fr lo)) ∧ GS w' g M fr lo nm nw #[mk1 s 1 (nw + dly 1 fr lo) 0] 1 ∧ Below B w w' :=
  Fail_c B w g M fr lo nm nw #[] #[mk1 s 1 (nw + dly 1 fr lo) 0] 0 1 s 0 0 false hB h
    (fun W hW => by have := lk_none (s := s) Try.underlying47 Try.underlying9 (Try.zeroValue51 _) hW (find0 s) true; simpa using this)
    (fun W hW => says0 hW)
    (fun W hW => up_new Try.underlying47 Try.underlying9 hW (find0 s))
    (fun W hW => says1 hW) (.inr (by simp; omega)) (by omega) h0.1 h0 (by omega)
theorem FailB (B : Nat) (w : World) (g M : Nat) (fr lo nm nw : Int) (s : ByteArray) (k f : Int) (hB : B ≤ g ∧ B ≤ M ∧ B ≤ w.heap.size) (h : GS w g M fr lo nm nw #[mk1 s k f 0] 1) (hk : 0 ≤ k ∧ k ≤ 1000) (hm : f ≤ nw) (h0 : 0 ≤ nw ∧ nw ≤ 1099511627776) (hf : 0 ≤ f ∧ f ≤ 2199023255552) :
    Calls Try.prog 11 #[.pointer (some ⟨g, 0, none⟩), .string s] w fun e w' => e = .returned (.int .i64 (dly (k + 1) fr lo)) ∧ GS w' g M fr lo nm nw #[mk1 s (k + 1) (nw + dly (k + 1) fr lo) 0] 1 ∧ Below B w w' :=
  Fail_c B w g M fr lo nm nw #[mk1 s k f 0] #[mk1 s (k + 1) (nw + dly (k + 1) fr lo) 0] 1 1 s k f true hB h
    (fun W hW => by have := lk_some (s := s) Try.underlying47 Try.underlying9 hW (find1 s k f 0) true; simpa using this)
    (fun W hW => says1 hW)
    (fun W hW => up_old Try.underlying47 Try.underlying9 hW (find1 s k f 0) rfl rfl)
    (fun W hW => says1 hW) (.inl rfl) hk hm h0 hf
theorem WaitA (w : World) (g M : Nat) (fr lo nm nw : Int) (s : ByteArray) (k f : Int) (h : GS w g M fr lo nm nw #[mk1 s k f 0] 1) (h0 : 0 ≤ nw ∧ nw ≤ 1099511627776) (hf : 0 ≤ f ∧ f ≤ 2199023255552) : Calls Try.prog 12 #[.pointer (some ⟨g, 0, none⟩), .string s] w fun e w' => e = .returned (.int .i64 (if f < nw then 0 else f - nw)) ∧ Below w.heap.size w w' :=
  Wait_c w g M fr lo nm nw _ 1 s k f h (says1 (h.grow (bl_drew (Below.refl _ _))).marks) h0 hf
theorem MayA (w : World) (g M : Nat) (fr lo nm nw : Int) (s : ByteArray) (k f : Int) (h : GS w g M fr lo nm nw #[mk1 s k f 0] 1) (h0 : 0 ≤ nw ∧ nw ≤ 1099511627776) (hf : 0 ≤ f ∧ f ≤ 2199023255552) : Calls Try.prog 10 #[.pointer (some ⟨g, 0, none⟩), .string s] w fun e w' => e = .returned (.bool (decide (f ≤ nw))) ∧ Below w.heap.size w w' :=
  May_c w g M fr lo nm nw _ 1 s k f h (says1 (h.grow (bl_drew (Below.refl _ _))).marks) h0 hf
theorem MayNo (w : World) (g M : Nat) (fr lo nm nw : Int) (s s' : ByteArray) (k f : Int) (hne : s ≠ s') (h : GS w g M fr lo nm nw #[mk1 s' k f 0] 1) (h0 : 0 ≤ nw ∧ nw ≤ 1099511627776) : Calls Try.prog 10 #[.pointer (some ⟨g, 0, none⟩), .string s] w fun e w' => e = .returned (.bool true) ∧ Below w.heap.size w w' := by
  have := May_c w g M fr lo nm nw _ 1 s 0 0 h (says1_no (h.grow (bl_drew (Below.refl _ _))).marks hne) h0 (by decide)
  rwa [decide_eq_true h0.1] at this
theorem May0 (w : World) (g M : Nat) (fr lo nm nw : Int) (s : ByteArray) (ck : Nat) (h : GS w g M fr lo nm nw #[] ck) (h0 : 0 ≤ nw ∧ nw ≤ 1099511627776) : Calls Try.prog 10 #[.pointer (some ⟨g, 0, none⟩), .string s] w fun e w' => e = .returned (.bool true) ∧ Below w.heap.size w w' := by
  have := May_c w g M fr lo nm nw _ ck s 0 0 h (says0 (h.grow (bl_drew (Below.refl _ _))).marks) h0 (by decide)
  rwa [decide_eq_true h0.1] at this
set_option maxHeartbeats 4000000 in
theorem awake38_c (w : World) : Calls Try.prog 6 #[] w fun e w' => e = .returned (.bool true) ∧ Below w.heap.size w w' := by
  have hN := New_c 2 100 5 w
  have d1 : dly 1 2 100 = 0 := by decide +kernel
  have d2 : dly 2 2 100 = 0 := by decide +kernel
  have d3 : dly 3 2 100 = 1 := by decide +kernel
  rw [show cl 2 0 1000 = 2 by decide, show cl 100 1 1048576 = 100 by decide, show cl 5 1 1000 = 5 by decide] at hN
  have hF1 := fun (W : World) g M hB h => FailA w.heap.size W g M 2 100 5 0 ⟨#[120]⟩ hB h (by decide) (by decide)
  have hF2 := fun (W : World) g M hB h => FailB w.heap.size W g M 2 100 5 0 ⟨#[120]⟩ 1 0 hB h (by decide) (by decide) (by decide) (by decide)
  have hF3 := fun (W : World) g M hB h => FailB w.heap.size W g M 2 100 5 0 ⟨#[120]⟩ 2 0 hB h (by decide) (by decide) (by decide) (by decide)
  have hM1 := fun (W : World) g M h => MayA W g M 2 100 5 0 ⟨#[120]⟩ 3 1 h (by decide) (by decide)
  have hM2 := fun (W : World) g M h => MayNo W g M 2 100 5 0 ⟨#[121]⟩ ⟨#[120]⟩ 3 1 (by decide) h (by decide)
  have hT := fun (W : World) g M hB h => Tick_c w.heap.size W g M 2 100 5 0 ⟨#[120]⟩ 3 1 hB h (by decide) (by decide) (by decide) (by decide)
  have hM3 := fun (W : World) g M h => MayA W g M 2 100 5 1 ⟨#[120]⟩ 3 1 h (by decide) (by decide)
  simp only [d1, d2, d3, Int.reduceAdd, Int.reduceLE, decide_true, decide_false] at hF1 hF2 hF3 hM1 hT hM3
  replace hN := Lib.hid hN
  replace hF1 := Lib.hid hF1
  replace hF2 := Lib.hid hF2
  replace hF3 := Lib.hid hF3
  replace hM1 := Lib.hid hM1
  replace hM2 := Lib.hid hM2
  replace hM3 := Lib.hid hM3
  replace hT := Lib.hid hT
  clear d1 d2 d3
  go_enter Try.func6, Try.ntmps6
  go_upto_region 2 with (go_at_call 9; refine hN.out.mono ?_; rintro e w1 ⟨⟨g, M, rfl, hg, hM, h1⟩, hb1⟩)
  go_upto_region 3 with (go_at_call 11; first | ((with_reducible refine (hF1.out _ _ _ ⟨hg, hM, hb1.size⟩ h1).mono ?_); rintro e w2 ⟨rfl, h2, hb2⟩; replace hb2 := hb1.trans hb2) | ((with_reducible refine (hF2.out _ _ _ ⟨hg, hM, hb2.size⟩ h2).mono ?_); rintro e w3 ⟨rfl, h3, hb3⟩; replace hb3 := hb2.trans hb3) | ((with_reducible refine (hF3.out _ _ _ ⟨hg, hM, hb3.size⟩ h3).mono ?_); rintro e w4 ⟨rfl, h4, hb4⟩; replace hb4 := hb3.trans hb4))
  clear h1 h2 h3 hb1 hb2 hb3 hF1 hF2 hF3 hN
  go_wp2_with (first | (go_at_call 10; first | ((with_reducible refine (hM1.out _ _ _ h4).mono ?_); rintro e w5 ⟨rfl, hb5⟩; have h5 := h4.grow hb5; replace hb5 := bl_call hb5 hb4) | ((with_reducible refine (hM2.out _ _ _ h5).mono ?_); rintro e w6 ⟨rfl, hb6⟩; have h6 := h5.grow hb6; replace hb6 := bl_call hb6 hb5) | ((with_reducible refine (hM3.out _ _ _ h7).mono ?_); rintro e w8 ⟨rfl, hb8⟩; replace hb8 := bl_call hb8 hb7)) | (go_at_call 13; (with_reducible refine (hT.out _ _ _ ⟨hg, hM, hb6.size⟩ h6).mono ?_); rintro e w7 ⟨rfl, h7, hb7⟩; replace hb7 := hb6.trans hb7))
  exact bodyPost_ret (v := .bool true) (by simp [results, Try.results6, go_sem]) rfl ⟨rfl, hb8⟩
theorem pw_mono (L : Int) {t t' : Nat} (h : t ≤ t') : pw L t ≤ pw L t' := by
  have h7 : (2 : Int) ^ t ≤ 2 ^ t' := by
    have := Nat.pow_le_pow_right (show 0 < 2 by decide) h
    have e2 : ((2 ^ t : Nat) : Int) ≤ ((2 ^ t' : Nat) : Int) := by exact_mod_cast this
    simpa using e2
  unfold pw
  omega
theorem dly_mono (n f l : Int) : dly n f l ≤ dly (n + 1) f l := by
  have hb := dly_bounds (n + 1) f l
  by_cases h : n ≤ cl f 0 1000 ∨ n < 1
  · have : dly n f l = 0 := by unfold dly; rw [if_pos h]
    omega
  · unfold dly
    rw [if_neg h, if_neg (by omega)]
    exact pw_mono _ (by omega)
set_option maxHeartbeats 1000000 in
theorem GateDelays_c (n f l : Int) (hn : -9223372036854775808 ≤ n ∧ n ≤ 9223372036854775807) (w : World) : Calls Try.prog 3 #[.int .i64 n, .int .i64 f, .int .i64 l] w fun e w' => e = .returned (.bool true) ∧ Below w.heap.size w w' := by
  have hA := fun w => Delay_c n f l hn w
  have hB := fun w => rDelay_c n f l hn w
  have hb := dly_bounds n f l
  have hm := dly_mono n f l
  have hC := fun (h : n + 1 ≤ 9223372036854775807) w => Delay_c (n + 1) f l ⟨by omega, h⟩ w
  generalize dly (n + 1) f l = d' at hm hC
  generalize dly n f l = d at hA hB hb hm
  have q0 : ¬ d < 0 := by omega
  have q1 : ¬ 1048576 < d := by omega
  have hW := fun w => awake38_c w
  replace hA := Lib.hid hA
  replace hB := Lib.hid hB
  replace hC := Lib.hid hC
  replace hW := Lib.hid hW
  by_cases he : n = 9223372036854775807
  · have q2 : (n == 9223372036854775807) = true := by rw [he]; rfl
    replace he := Lib.hid he
    go_enter Try.func3, Try.ntmps3
    go_wp2_with (first | (go_at_call 6; refine (hW.out _).mono ?_; rintro e w3 ⟨rfl, hb3⟩) | (go_at_call 7; (with_reducible refine (hA.out _).mono ?_); rintro e w4 ⟨rfl, rfl⟩) | (go_at_call 8; refine (hB.out _).mono ?_; rintro e w5 ⟨rfl, rfl⟩))
    exact bodyPost_ret (v := .bool true) (by simp [results, Try.results3, go_sem]) rfl ⟨rfl, hb3⟩
  · have q2 : (n == 9223372036854775807) = false := by simpa using he
    have q3 : n + 1 ≤ 9223372036854775807 := by omega
    replace he := Lib.hid he
    go_enter Try.func3, Try.ntmps3
    go_wp2_with (first | (go_at_call 6; refine (hW.out _).mono ?_; rintro e w3 ⟨rfl, hb3⟩) | (go_at_call 7; first | ((with_reducible refine (hA.out _).mono ?_); rintro e w4 ⟨rfl, rfl⟩) | ((with_reducible refine (hC.out q3 _).mono ?_); rintro e w6 ⟨rfl, rfl⟩)) | (go_at_call 8; refine (hB.out _).mono ?_; rintro e w5 ⟨rfl, rfl⟩))
    exact bodyPost_ret (v := .bool true) (by simp [results, Try.results3, go_sem]) rfl ⟨rfl, hb3⟩
end Go.Proofs.Ytlldnejodchkdab

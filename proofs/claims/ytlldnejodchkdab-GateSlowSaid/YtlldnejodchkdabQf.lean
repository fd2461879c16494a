/- The contract of sabretachelaw38.GateSlow. -/
import Derived.Test.YtlldnejodchkdabQe
namespace Go.Proofs.Ytlldnejodchkdab
open Go.RowKit
set_option maxRecDepth 100000
set_option linter.unusedSimpArgs false
set_option linter.unusedVariables false
/-- The wait behind the (f + j + 1)-th failure: 0 up to f, then by doubling. -/
theorem dly_free (k f l : Int) (hf : 0 ≤ f ∧ f ≤ 1000) (h : k ≤ f) : dly k f l = 0 := by
  have : cl f 0 1000 = f := by unfold cl; omega
  unfold dly
  rw [this, if_pos (.inl h)]
theorem dly_more (f l : Int) (j : Nat) (hf : 0 ≤ f ∧ f ≤ 1000) (hl : 1 ≤ l ∧ l ≤ 64) : dly (f + 1 + (j : Int)) f l = if j < 6 then min (2 ^ j) l else l := by
  have e1 : cl f 0 1000 = f := by unfold cl; omega
  have e2 : cl l 1 1048576 = l := by unfold cl; omega
  unfold dly
  rw [e1, e2, if_neg (by omega)]
  have e3 : (f + 1 + (j : Int) - f - 1) = (j : Int) := by omega
  rw [e3]
  by_cases h : j < 6
  · rw [if_pos h, show (min (j : Int) 30).toNat = j by omega]; rfl
  · rw [if_neg h]
    have h6 : (64 : Int) ≤ 2 ^ (min (j : Int) 30).toNat := by
      have := Nat.pow_le_pow_right (show 0 < 2 by decide) (show 6 ≤ (min (j : Int) 30).toNat by omega)
      have e4 : ((2 ^ 6 : Nat) : Int) ≤ ((2 ^ (min (j : Int) 30).toNat : Nat) : Int) := by exact_mod_cast this
      simpa using e4
    unfold pw
    omega
/-- What holds between two ticks: so many failures, and from when on it may try. -/
structure Sl (f most nw k F : Int) : Prop where
  kf : f + 1 ≤ k
  ahead : nw ≤ F
  near : F ≤ nw + most
  few : k ≤ f + F
  slow : (k - f - 1 - 6) * most ≤ F
/-- One failure more at 'now'. -/
theorem Sl.more {f most nw k : Int} (h : Sl f most nw k nw) (hf : 0 ≤ f ∧ f ≤ 1000) (hm : 1 ≤ most ∧ most ≤ 64) : 1 ≤ dly (k + 1) f most ∧ Sl f most nw (k + 1) (nw + dly (k + 1) f most) := by
  obtain ⟨j, hj⟩ : ∃ j : Nat, k + 1 = f + 1 + (j : Int) := ⟨(k - f).toNat, by have := h.kf; omega⟩
  have e := dly_more f most j hf hm
  rw [← hj] at e
  have hb := dly_bounds (k + 1) f most
  have hd : 1 ≤ dly (k + 1) f most ∧ dly (k + 1) f most ≤ most := by
    rw [e]
    split
    · have : (0 : Int) < 2 ^ j := Int.pow_pos (by decide)
      omega
    · omega
  refine ⟨hd.1, ⟨by have := h.kf; omega, by omega, by omega, by have := h.few; omega, ?_⟩⟩
  have h1 := h.slow
  by_cases h6 : j < 6
  · have h2 : (k + 1 - f - 1 - 6) * most ≤ 0 := Int.mul_nonpos_of_nonpos_of_nonneg (by omega) (by omega)
    have h3 := h.few
    have h4 := h.kf
    omega
  · rw [if_neg h6] at e
    rw [e]
    have : (k + 1 - f - 1 - 6) * most = (k - f - 1 - 6) * most + most := by
      rw [show k + 1 - f - 1 - 6 = (k - f - 1 - 6) + 1 by omega, Int.add_mul, Int.one_mul]
    omega
/-- The first failure that has a wait. -/
theorem Sl.first {f most : Int} (hf : 0 ≤ f ∧ f ≤ 1000) (hm : 1 ≤ most ∧ most ≤ 64) : dly (f + 1) f most = 1 ∧ Sl f most 0 (f + 1) 1 := by
  have e := dly_more f most 0 hf hm
  simp at e
  have e2 : dly (f + 1) f most = 1 := by rw [e]; omega
  refine ⟨e2, ⟨by omega, by omega, by omega, by omega, ?_⟩⟩
  rw [show f + 1 - f - 1 - 6 = -6 by omega]
  omega
theorem Sl.tick {f most nw k F : Int} (h : Sl f most nw k F) (hlt : nw < F) : Sl f most (nw + 1) k F := ⟨h.kf, by omega, by have := h.near; omega, h.few, h.slow⟩
theorem Sl.end {f most n k F : Int} (h : Sl f most n k F) (hm : 1 ≤ most) (hF : F ≤ n + most) (hn : 0 ≤ n) : k ≤ f + 8 + n / most + 1 := by
  have h1 := h.slow
  have h2 : (k - f - 1 - 6) * most ≤ (n / most + 1) * most + most := by
    have h3 : n < (n / most + 1) * most := by
      have := Int.lt_ediv_add_one_mul_self n (show 0 < most by omega)
      omega
    omega
  have h4 : (k - f - 1 - 6) ≤ n / most + 2 := by
    have h5 : (k - f - 1 - 6) * most ≤ (n / most + 2) * most := by
      rw [show n / most + 2 = (n / most + 1) + 1 by omega, Int.add_mul (n / most + 1) 1, Int.one_mul]
      exact h2
    exact Int.le_of_mul_le_mul_right h5 (by omega)
  omega
abbrev xS : ByteArray := ⟨#[120]⟩
/-- What holds of the gate behind k tries. -/
def In (w : World) (g M : Nat) (f most now k : Int) : Prop :=
  (k = 0 ∧ now = 0 ∧ GS w g M f most 3 0 #[] 0) ∨ (1 ≤ k ∧ k ≤ f ∧ now = 0 ∧ GS w g M f most 3 0 #[mk1 xS k 0 0] 1) ∨ (∃ F, Sl f most now k F ∧ GS w g M f most 3 now #[mk1 xS k F 0] 1)
set_option maxHeartbeats 4000000 in
theorem GateSlow_c (x y z : Nat) (hx : x ≤ 255) (hy : y ≤ 255) (hz : z ≤ 65535) (w : World) : Calls Try.prog 4 #[.int .u8 (x : Int), .int .u8 (y : Int), .int .u16 (z : Int)] w fun e w' => e = .returned (.bool true) ∧ Below w.heap.size w w' := by
  have hW := fun w => awake38_c w
  replace hW := Lib.hid hW
  go_enter Try.func4, Try.ntmps4
  go_upto_region 4 with (go_at_call 6; refine (hW.out _).mono ?_; rintro e w1 ⟨rfl, hb1⟩)
  obtain ⟨f, hf⟩ : ∃ f : Int, f = (x : Int) % 21 := ⟨_, rfl⟩
  obtain ⟨m, hm⟩ : ∃ m : Int, m = 1 + (y : Int) % 64 := ⟨_, rfl⟩
  obtain ⟨n, hn⟩ : ∃ n : Nat, (n : Int) = (z : Int) % 501 := ⟨z % 501, by omega⟩
  rw [← hf, ← hm, ← hn]
  have f0 : 0 ≤ f ∧ f ≤ 20 := by omega
  have m0 : 1 ≤ m ∧ m ≤ 64 := by omega
  have n0 : n ≤ 500 := by omega
  clear hf hm hn
  have hN := fun w => New_c f m 3 w
  rw [show cl f 0 1000 = f by unfold cl; omega, show cl m 1 1048576 = m by unfold cl; omega, show cl 3 1 1000 = 3 by decide] at hN
  go_upto_region 5 with (go_at_call 9; refine (hN _).mono ?_; rintro e w2 ⟨⟨g, M, rfl, hg, hM, h1⟩, hb2⟩)
  have hI0 : In w2 g M f m 0 0 := .inl ⟨rfl, rfl, h1⟩
  have HB0 := bl_call hb2 hb1
  have hg' := Nat.le_trans hb1.size hg
  have hM' := Nat.le_trans hb1.size hM
  clear h1 hb1 hb2 hN hg hM
  go_wp2_with fail
  go_loopw [28, 11] (fun i t wr => ∃ (j : Nat) (k : Int), j ≤ n ∧ i = .int .i64 (j : Int) ∧ t = .int .i64 k ∧ In wr g M f m (j : Int) k ∧ Below w.heap.size w wr) (fun i _ _ => n - (RowKit.intOf i).toNat)
  case atStart => exact ⟨0, 0, by omega, rfl, rfl, hI0, HB0⟩
  case round =>
    clear hI0 HB0
    obtain ⟨j, k0, hj, rfl, rfl, hI, HB⟩ := hrel
    by_cases hlt : j < n
    · have hlt' : (j : Int) < (n : Int) := by omega
      have j0 : (0 : Int) ≤ (j : Int) ∧ (j : Int) ≤ 1099511627776 := by omega
      have hI0 := hI
      have HB0 := HB
      clear hI HB
      go_wp2_with fail
      go_loopw [11] (fun t wt => ∃ k : Int, t = .int .i64 k ∧ In wt g M f m (j : Int) k ∧ Below w.heap.size w wt) (fun t _ => (f + (n : Int) + 2 - RowKit.intOf t).toNat)
      case atStart => exact ⟨k0, rfl, hI0, HB0⟩
      case round =>
        clear hI0 HB0
        obtain ⟨k, rfl, hI, HB⟩ := hrel
        have key : (∃ F, (j : Int) < F ∧ Sl f m (j : Int) k F ∧ GS wr g M f m 3 (j : Int) #[mk1 xS k F 0] 1) ∨ (∃ d, (Calls Try.prog 10 #[.pointer (some ⟨g, 0, none⟩), .string xS] wr fun e w' => e = .returned (.bool true) ∧ Below wr.heap.size wr w') ∧ (∀ W, Below wr.heap.size wr W → Calls Try.prog 11 #[.pointer (some ⟨g, 0, none⟩), .string xS] W fun e w' => e = .returned (.int .i64 d) ∧ GS w' g M f m 3 (j : Int) #[mk1 xS (k + 1) ((j : Int) + d) 0] 1 ∧ Below w.heap.size W w') ∧ (0 ≤ d ∧ d ≤ 1048576) ∧ (1 ≤ d ∨ k + 1 ≤ f + 1) ∧ (∀ W, GS W g M f m 3 (j : Int) #[mk1 xS (k + 1) ((j : Int) + d) 0] 1 → In W g M f m (j : Int) (k + 1)) ∧ 0 ≤ k ∧ k ≤ f + (n : Int)) := by
          rcases hI with ⟨rfl, jz, h1⟩ | ⟨hk1, hkf, jz, h1⟩ | ⟨F, hS, h1⟩
          · refine .inr ⟨dly 1 f m, May0 wr g M f m 3 0 xS 0 h1 (by decide), fun W hW => ?_, dly_bounds _ _ _, ?_, fun W hG => ?_, by omega, by omega⟩
            · rw [jz]
              exact FailA w.heap.size W g M f m 3 0 xS ⟨hg', hM', Nat.le_trans HB.size hW.size⟩ (h1.grow hW) (by decide) (by decide)
            · by_cases hf1 : 1 ≤ f
              · exact .inr (by omega)
              · have := (Sl.first (f := f) (most := m) (by omega) m0).1
                rw [show f + 1 = 1 by omega] at this
                exact .inl (by omega)
            · rw [jz] at hG ⊢
              by_cases hf1 : 1 ≤ f
              · have e := dly_free 1 f m (by omega) hf1
                rw [e] at hG
                exact .inr (.inl ⟨by decide, by omega, rfl, hG⟩)
              · have e := Sl.first (f := f) (most := m) (by omega) m0
                rw [show f + 1 = 1 by omega] at e
                rw [e.1] at hG
                exact .inr (.inr ⟨1, e.2, hG⟩)
          · refine .inr ⟨dly (k + 1) f m, ?_, fun W hW => ?_, dly_bounds _ _ _, .inr (by omega), fun W hG => ?_, by omega, by omega⟩
            · have := MayA wr g M f m 3 0 xS k 0 h1 (by decide) (by decide)
              simpa using this
            · rw [jz]
              exact FailB w.heap.size W g M f m 3 0 xS k 0 ⟨hg', hM', Nat.le_trans HB.size hW.size⟩ (h1.grow hW) (by omega) (by decide) (by decide) (by decide)
            · rw [jz] at hG ⊢
              by_cases hf1 : k + 1 ≤ f
              · have e := dly_free (k + 1) f m (by omega) hf1
                rw [e] at hG
                exact .inr (.inl ⟨by omega, hf1, rfl, hG⟩)
              · have e := Sl.first (f := f) (most := m) (by omega) m0
                rw [show k + 1 = f + 1 by omega] at hG ⊢
                rw [e.1] at hG
                exact .inr (.inr ⟨1, e.2, hG⟩)
          · by_cases hF : F = (j : Int)
            · subst hF
              have hfw := hS.few
              have hkf := hS.kf
              have hmo := hS.more (by omega) m0
              refine .inr ⟨dly (k + 1) f m, ?_, fun W hW => ?_, dly_bounds _ _ _, .inl hmo.1, fun W hG => .inr (.inr ⟨_, hmo.2, hG⟩), by omega, by omega⟩
              · have := MayA wr g M f m 3 (j : Int) xS k (j : Int) h1 j0 (by omega)
                simpa using this
              · exact FailB w.heap.size W g M f m 3 (j : Int) xS k (j : Int) ⟨hg', hM', Nat.le_trans HB.size hW.size⟩ (h1.grow hW) (by omega) (Int.le_refl _) j0 (by omega)
            · exact .inl ⟨F, by have := hS.ahead; omega, hS, h1⟩
        clear hI
        rcases key with ⟨F, hF, hS, h1⟩ | ⟨d, hMay, hFail, hd, hc, hI', hk0, hle⟩
        · have hne := hS.near
          have hMy := MayA wr g M f m 3 (j : Int) xS k F h1 j0 (by omega)
          rw [decide_eq_false (by omega)] at hMy
          have hTk := fun W hW => Tick_c w.heap.size W g M f m 3 (j : Int) xS k F ⟨hg', hM', Nat.le_trans HB.size (Below.size hW)⟩ (h1.grow hW) (by omega) (by omega) (by omega) (by omega)
          have hIn : ∀ W, GS W g M f m 3 ((j : Int) + 1) #[mk1 xS k F 0] 1 → In W g M f m ((j : Int) + 1) k := fun W hG => .inr (.inr ⟨F, hS.tick hF, hG⟩)
          replace hTk := Lib.hid hTk
          replace hIn := Lib.hid hIn
          clear hS
          go_wp2_with (first | (go_at_call 10; refine hMy.mono ?_; rintro e w2 ⟨rfl, hb2⟩) | (go_at_call 13; refine (hTk.out _ hb2).mono ?_; rintro e w3 ⟨rfl, h3, hb3⟩))
          exact ⟨⟨j + 1, k, by omega, congrArg (Value.int .i64) (by omega), rfl, hIn.out _ h3, (bl_call hb2 HB).trans hb3⟩, by simp [RowKit.intOf] <;> omega⟩
        · have hWt : ∀ W, GS W g M f m 3 (j : Int) #[mk1 xS (k + 1) ((j : Int) + d) 0] 1 → Calls Try.prog 12 #[.pointer (some ⟨g, 0, none⟩), .string xS] W fun e w' => e = .returned (.int .i64 d) ∧ Below W.heap.size W w' := fun W hG => by
            have := WaitA W g M f m 3 (j : Int) xS (k + 1) ((j : Int) + d) hG j0 (by omega)
            rwa [if_neg (by omega), show (j : Int) + d - (j : Int) = d by omega] at this
          replace hFail := Lib.hid hFail
          replace hI' := Lib.hid hI'
          replace hWt := Lib.hid hWt
          by_cases hd0 : d = 0
          · subst hd0
            have q5 : ¬ f + 1 < k + 1 := by omega
            go_wp2_with (first | (go_at_call 10; refine hMay.mono ?_; rintro e w2 ⟨rfl, hb2⟩) | (go_at_call 11; refine (hFail.out _ hb2).mono ?_; rintro e w3 ⟨rfl, h3, hb3⟩) | (go_at_call 12; refine (hWt.out _ h3).mono ?_; rintro e w4 ⟨rfl, hb4⟩))
            exact ⟨⟨k + 1, rfl, hI'.out _ (h3.grow hb4), (bl_call hb2 HB).trans (hb3.trans (hb4.mono (Nat.le_trans (Nat.le_trans HB.size hb2.size) hb3.size)))⟩, by simp [RowKit.intOf]; omega⟩
          · have q5 : (d == 0) = false := by simpa using hd0
            go_wp2_with (first | (go_at_call 10; refine hMay.mono ?_; rintro e w2 ⟨rfl, hb2⟩) | (go_at_call 11; refine (hFail.out _ hb2).mono ?_; rintro e w3 ⟨rfl, h3, hb3⟩) | (go_at_call 12; refine (hWt.out _ h3).mono ?_; rintro e w4 ⟨rfl, hb4⟩))
            exact ⟨⟨k + 1, rfl, hI'.out _ (h3.grow hb4), (bl_call hb2 HB).trans (hb3.trans (hb4.mono (Nat.le_trans (Nat.le_trans HB.size hb2.size) hb3.size)))⟩, by simp [RowKit.intOf]; omega⟩
    · obtain rfl : j = n := by omega
      have hlt' : ¬ (j : Int) < (j : Int) := by omega
      have hfin : k0 ≤ f + 8 + (j : Int) / m + 1 := by
        rcases hI with ⟨rfl, _, _⟩ | ⟨_, h2, _, _⟩ | ⟨F, hS, _⟩
        · have := Int.ediv_nonneg (show (0 : Int) ≤ (j : Int) by omega) (show 0 ≤ m by omega); omega
        · have := Int.ediv_nonneg (show (0 : Int) ≤ (j : Int) by omega) (show 0 ≤ m by omega); omega
        · exact hS.end m0.1 hS.near (by omega)
      obtain ⟨Q, hQ⟩ : ∃ Q : Int, (j : Int) / m = Q := ⟨_, rfl⟩
      have hQ0 : 0 ≤ Q := by rw [← hQ]; exact Int.ediv_nonneg (by omega) (by omega)
      have hQ1 : Q ≤ 500 := by
        rw [← hQ]
        have h1 := Int.ediv_le_self m (show (0 : Int) ≤ (j : Int) by omega)
        omega
      have hQ2 : Int.tdiv (j : Int) m = Q := by rw [← hQ, Int.tdiv_eq_ediv_of_nonneg (by omega)]
      rw [hQ] at hfin
      have hm1 : ¬ m = 0 := by omega
      clear hI
      go_wp2_with fail
      exact bodyPost_ret (v := .bool true) (by simp [results, Try.results4, go_sem]) rfl ⟨rfl, HB⟩
end Go.Proofs.Ytlldnejodchkdab

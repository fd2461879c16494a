/- Contracts of vault's Stream, turned, sum, label; of the reference's mac, Stream, Label. -/
import Derived.Test.YthnackakgglhbaaGreatVp
import Derived.Test.YthnackakgglhbaaGreatShelf
import Derived.Lib.IndexAny
namespace Go.Proofs.YthnackakgglhbaaGreat
open Go.RowKit Go.Lib
set_option maxRecDepth 100000
set_option linter.unusedSimpArgs false
set_option linter.unusedVariables false
attribute [local go_sem] evR_tmp evR_const evR_global evR_func
set_option maxHeartbeats 2000000 in
theorem mac43_c (k t : ByteArray) (hk : k.size ≤ 400000) (ht : t.size ≤ 400000) (w : World) : Calls Tryz.prog 18 #[.string k, .string t] w fun e w' => e = .returned (.string (macText k t)) ∧ Below w.heap.size w w' := by
  have hM := fun (w1 : World) (kv tv : Value) (hkr : RowB w1 kv k.data.toList) (htr : RowB w1 tv t.data.toList) => rMac_c k.data.toList t.data.toList kv tv w1 (by rw [Array.length_toList]; exact hk) (by rw [Array.length_toList]; exact ht) hkr htr
  have hB := fun w => rBytes_c (macw k.data.toList t.data.toList) (macK_length _ _) w
  have hl : (refBytes (macw k.data.toList t.data.toList)).length = 32 := refBytes_length _ (macK_length _ _)
  have hm : macText k t = ⟨(refBytes (macw k.data.toList t.data.toList)).toArray⟩ := rfl
  rw [hm]
  generalize macw k.data.toList t.data.toList = m at hM hB hl ⊢
  generalize refBytes m = r at hB hl ⊢
  replace hl := Lib.hid hl
  clear hm
  have tok1 : True := trivial
  go_enter Tryz.func18, Tryz.ntmps18
  go_wp2_with (first | (have _t := tok1; refine wpList_convSB rfl rfl rfl Tryz.underlying9 Tryz.underlying36 Tryz.underlying5 ?_; intro cap1 w1 hR1 hb1 hlt1; clear tok1) | (refine wpList_convSB rfl rfl rfl Tryz.underlying9 Tryz.underlying36 Tryz.underlying5 ?_; intro cap2 w2 hR2 hb2 hlt2) | (go_at_call 27; refine (hM _ _ _ (hR1.grow hb2) hR2).mono ?_; rintro e w3 ⟨rfl, hb3⟩) | (go_at_call 26; refine (hB _).mono ?_; rintro e w4 ⟨g, cap4, cur4, rfl, h41, h42, k4, t4, hb4⟩; have hR4 := rowOf cap4 k4 t4 hl.out) | (refine wpList_convBS rfl rfl rfl hR4 ?_))
  exact bodyPost_ret (v := .string ⟨r.toArray⟩) (by simp [results, Tryz.results18, go_sem]) rfl ⟨rfl, bl_call hb4 (bl_call hb3 (bl_call hb2 hb1))⟩
theorem vsum_c (k l t : ByteArray) (hk : k.size ≤ 100000) (hl : l.size ≤ 100000) (ht : t.size ≤ 100000) (w : World) : Calls Tryz.prog 25 #[.string k, .string l, .string t] w fun e w' => e = .returned (.string (sumS k l t)) ∧ Below w.heap.size w w' := by
  have hsz : (selK ++ l ++ zro ++ t).size ≤ 400000 := by
    simp only [ByteArray.size_append]
    have h1 : selK.size = 5 := rfl
    have h2 : zro.size = 1 := rfl
    omega
  have hP := fun w => hPlain_c k (selK ++ l ++ zro ++ t) (by omega) (by omega) w
  have hm : (macText k (selK ++ l ++ zro ++ t)).size = 32 := macText_size _ _
  unfold sumS
  generalize macText k (selK ++ l ++ zro ++ t) = m at hP hm ⊢
  have h16 : (16 : Int) ≤ (m.size : Int) := by omega
  replace hm := Lib.hid hm
  unfold selK zro at hP
  go_enter Tryz.func25, Tryz.ntmps25
  go_wp2_with (go_at_call 34; refine (hP _).mono ?_; rintro e w3 ⟨rfl, hb3⟩)
  exact bodyPost_ret (v := .string (m.extract 0 16)) (by simp [results, Tryz.results25, go_sem]) rfl ⟨rfl, hb3⟩
theorem label_c (s : ByteArray) (w : World) : Calls Tryz.prog 23 #[.string s] w fun e w' => e = .returned (.int .i64 (if labB s then 0 else 9)) ∧ Below w.heap.size w w' := by
  have hC := Tryz.strings_Contains_one s 0
  rw [← contains_iff_indexByte] at hC
  by_cases h1 : s.size < 1
  · have q1 : (s.size : Int) < 1 := by omega
    have hn : labB s = false := by simp only [labB, Bool.and_eq_false_iff, decide_eq_false_iff_not]; left; left; omega
    rw [hn]
    go_enter Tryz.func23, Tryz.ntmps23
    go_wp2_with fail
    exact bodyPost_ret (v := .int .i64 9) (by simp [results, Tryz.results23, go_sem]) rfl ⟨rfl, Below.refl _ _⟩
  by_cases h2 : 64 < s.size
  · have q1 : ¬ (s.size : Int) < 1 := by omega
    have q2 : 64 < (s.size : Int) := by omega
    have hn : labB s = false := by simp only [labB, Bool.and_eq_false_iff, decide_eq_false_iff_not]; left; right; omega
    rw [hn]
    go_enter Tryz.func23, Tryz.ntmps23
    go_wp2_with fail
    exact bodyPost_ret (v := .int .i64 9) (by simp [results, Tryz.results23, go_sem]) rfl ⟨rfl, Below.refl _ _⟩
  have q1 : ¬ (s.size : Int) < 1 := by omega
  have q2 : ¬ 64 < (s.size : Int) := by omega
  have hn : labB s = !s.data.toList.contains 0 := by simp only [labB]; rw [decide_eq_true (by omega), decide_eq_true (by omega)]; rfl
  rw [hn]
  cases hc : s.data.toList.contains 0 with
  | true =>
    rw [hc] at hC
    clear hn
    go_enter Tryz.func23, Tryz.ntmps23
    go_wp2_with (go_at_call 31; refine (hC _).mono ?_; rintro e w3 ⟨rfl, rfl⟩)
    exact bodyPost_ret (v := .int .i64 9) (by simp [results, Tryz.results23, go_sem]) rfl ⟨rfl, Below.refl _ _⟩
  | false =>
    rw [hc] at hC
    clear hn
    go_enter Tryz.func23, Tryz.ntmps23
    go_wp2_with (go_at_call 31; refine (hC _).mono ?_; rintro e w3 ⟨rfl, rfl⟩)
    exact bodyPost_ret (v := .int .i64 0) (by simp [results, Tryz.results23, go_sem]) rfl ⟨rfl, Below.refl _ _⟩
theorem rLabel_c (s : ByteArray) (hs : s.size ≤ 1000000) (w : World) : Calls Tryz.prog 6 #[.string s] w fun e w' => e = .returned (.bool (labB s)) ∧ Below w.heap.size w w' := by
  have hC : s.data.toList.contains 0 = true ↔ ∃ j, ∃ h : j < s.size, s[j] = 0 := by
    rw [List.contains_iff_mem, List.mem_iff_getElem]
    constructor
    · rintro ⟨j, h, e⟩; exact ⟨j, by rw [Array.length_toList] at h; exact h, by rw [Array.getElem_toList] at e; exact e⟩
    · rintro ⟨j, h, e⟩; exact ⟨j, by rw [Array.length_toList]; exact h, by rw [Array.getElem_toList]; exact e⟩
  replace hC := Lib.hid hC
  go_enter Tryz.func6, Tryz.ntmps6
  go_wp2_with fail
  go_loopw [3] (fun i wr => ∃ j : Nat, j ≤ s.size ∧ i = .int .i64 (j : Int) ∧ (∀ q, ∀ h : q < s.size, q < j → s[q] ≠ 0) ∧ wr = w) (fun i _ => s.size - (RowKit.intOf i).toNat)
  case atStart => exact ⟨0, by omega, rfl, fun q h h2 => by omega, rfl⟩
  case round =>
    obtain ⟨j, hj, rfl, hz, rfl⟩ := hrel
    replace hz := Lib.hid hz
    by_cases hlt : j < s.size
    · have hlt' : (j : Int) < (s.size : Int) := by omega
      by_cases h0 : s[j] = 0
      · have hn : labB s = false := by simp only [labB, hC.out.2 ⟨j, hlt, h0⟩, Bool.not_true, Bool.and_false]
        have q0 : ((s[j].toNat : Nat) : Int) = 0 := by rw [h0]; rfl
        replace hn := Lib.hid hn
        replace h0 := Lib.hid h0
        go_wp2_with fail
        exact bodyPost_ret (v := .bool false) (by simp [results, Tryz.results6, go_sem]) rfl ⟨by rw [hn.out], Below.refl _ _⟩
      · have hq : ∀ q, ∀ h : q < s.size, q < j + 1 → s[q] ≠ 0 := fun q h h2 => by
          rcases Nat.lt_or_ge q j with h3 | h3
          · exact hz.out q h h3
          · obtain rfl : q = j := by omega
            exact h0
        have h8 : s[j].toNat ≠ 0 := fun e => h0 (by rw [← UInt8.toNat_inj]; exact e)
        have q0 : ((((s[j].toNat : Nat) : Int)) == 0) = false := by simp; omega
        have q1 : ¬ ((s[j].toNat : Nat) : Int) = 0 := by omega
        replace hq := Lib.hid hq
        clear h0 h8
        go_wp2_with fail
        exact ⟨⟨j + 1, by omega, congrArg (Value.int .i64) (by omega), hq.out, by trivial⟩, by simp [RowKit.intOf] <;> omega⟩
    · obtain rfl : j = s.size := by omega
      have hlt' : ¬ (s.size : Int) < (s.size : Int) := by omega
      have hno : s.data.toList.contains 0 = false := by
        cases h : s.data.toList.contains 0 with
        | false => rfl
        | true => obtain ⟨q, h2, h3⟩ := hC.out.1 h; exact absurd h3 (hz.out q h2 h2)
      have hn : labB s = (decide (1 ≤ (s.size : Int)) && decide ((s.size : Int) ≤ 64)) := by
        simp only [labB, hno, Bool.not_false, Bool.and_true]
        congr 1 <;> (apply decide_eq_decide.2; omega)
      replace hn := Lib.hid hn
      clear hno hz
      by_cases h1 : 1 ≤ (s.size : Int)
      · by_cases h2 : (s.size : Int) ≤ 64
        · go_wp2_with fail
          exact bodyPost_ret (v := .bool true) (by simp [results, Tryz.results6, go_sem]) rfl ⟨by rw [hn.out, decide_eq_true (by omega), decide_eq_true (by omega)]; rfl, Below.refl _ _⟩
        · go_wp2_with fail
          exact bodyPost_ret (v := .bool false) (by simp [results, Tryz.results6, go_sem]) rfl ⟨by rw [hn.out, decide_eq_true (show 1 ≤ (s.size : Int) by omega), decide_eq_false (by omega)]; rfl, Below.refl _ _⟩
      · go_wp2_with fail
        exact bodyPost_ret (v := .bool false) (by simp [results, Tryz.results6, go_sem]) rfl ⟨by rw [hn.out, decide_eq_false (show ¬ 1 ≤ (s.size : Int) by omega)]; rfl, Below.refl _ _⟩
end Go.Proofs.YthnackakgglhbaaGreat

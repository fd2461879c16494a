/- The three laws of layer 25, as contracts. -/
import Derived.Test.YtjoilddfmalnjaaDoorBh
namespace Go.Proofs.YtjoilddfmalnjaaDoor
open Go.RowKit Go.Lib
set_option maxRecDepth 100000
set_option linter.unusedSimpArgs false
set_option linter.unusedVariables false
theorem same_str {a b : ByteArray} (h : a = b) : (a.toList == b.toList) = true := by rw [h]; simp
theorem differ_str {a b : ByteArray} (h : ¬ a = b) : (a.toList == b.toList) = false := by
  rw [ByteArray.toList_eq, ByteArray.toList_eq, beq_eq_false_iff_ne]
  exact fun q => h (ByteArray.ext (Array.ext' q))
theorem one_enc (w : World) : Calls Tryd.prog 7 #[.string ⟨#[97]⟩] w fun e w' => e = .returned (.string ⟨#[89, 81, 61, 61]⟩) ∧ Below w.heap.size w w' := by
  have h := Encode_c ⟨#[97]⟩ (by decide) w
  have e : (encL (ByteArray.mk #[97]).data.toList).toArray = #[89, 81, 61, 61] := by decide +kernel
  rw [e] at h
  exact h
theorem one_dec (w : World) : Calls Tryd.prog 8 #[.string ⟨#[89, 81, 61, 61]⟩] w fun e w' => e = .returned (.tuple #[.string ⟨#[97]⟩, .int .i64 0]) ∧ Below w.heap.size w w' := by
  have h := Decode_c ⟨#[89, 81, 61, 61]⟩ (by decide) w
  have e : decL (ByteArray.mk #[89, 81, 61, 61]).data.toList = some [97] := by decide +kernel
  rw [e] at h
  exact h
theorem one_size (w : World) : Calls Tryd.prog 10 #[.int .i64 1] w fun e w' => e = .returned (.int .i64 4) ∧ w' = w := Size_c 1 w
theorem awake_c (w : World) : Calls Tryd.prog 6 #[] w fun e w' => e = .returned (.bool true) ∧ Below w.heap.size w w' := by
  go_enter Tryd.func6, Tryd.ntmps6
  go_wp2_with (first | (go_at_call 8; refine (one_dec _).mono ?_; rintro e w1 ⟨rfl, hb1⟩) | (go_at_call 7; refine (one_enc _).mono ?_; rintro e w2 ⟨rfl, hb2⟩) | (go_at_call 10; refine (one_size _).mono ?_; rintro e w3 ⟨rfl, rfl⟩))
  exact bodyPost_ret (v := .bool true) (by simp [results, Tryd.results6, go_sem]) rfl ⟨rfl, bl_call hb2 hb1⟩
set_option maxHeartbeats 4000000 in
theorem Base64Sizes_c (n : Int) (w : World) : Calls Tryd.prog 5 #[.int .i64 n] w fun e w' => e = .returned (.bool true) ∧ Below w.heap.size w w' := by
  have hS := fun w => Size_c n w
  by_cases h0 : n < 0
  · have e : sizeB n = 0 := by simp [sizeB, h0]
    rw [e] at hS
    go_enter Tryd.func5, Tryd.ntmps5
    go_wp2_with (first | (go_at_call 6; refine (awake_c _).mono ?_; rintro e w1 ⟨rfl, hb1⟩) | (go_at_call 10; refine (hS _).mono ?_; rintro e w3 ⟨rfl, rfl⟩))
    exact bodyPost_ret (v := .bool true) (by simp [results, Tryd.results5, go_sem]) rfl ⟨rfl, hb1⟩
  by_cases h1 : 1073741824 < n
  · have e : sizeB n = 0 := by simp [sizeB, h1]
    rw [e] at hS
    go_enter Tryd.func5, Tryd.ntmps5
    go_wp2_with (first | (go_at_call 6; refine (awake_c _).mono ?_; rintro e w1 ⟨rfl, hb1⟩) | (go_at_call 10; refine (hS _).mono ?_; rintro e w3 ⟨rfl, rfl⟩))
    exact bodyPost_ret (v := .bool true) (by simp [results, Tryd.results5, go_sem]) rfl ⟨rfl, hb1⟩
  · have e : sizeB n = (n + 2) / 3 * 4 := by simp only [sizeB]; rw [if_neg (by omega)]
    rw [e] at hS
    obtain ⟨m, hm⟩ : ∃ m, m = (n + 2) / 3 := ⟨_, rfl⟩
    rw [← hm] at hS
    have m0 : 0 ≤ m := by omega
    have m1 : m ≤ 357913942 := by omega
    have q1 : m * 4 % 4 = 0 := by omega
    have q2 : m * 4 / 4 = m := by omega
    have q3 : n ≤ m * 3 := by omega
    have q4 : m * 3 < n + 3 := by omega
    clear hm e
    go_enter Tryd.func5, Tryd.ntmps5
    go_wp2_with (first | (go_at_call 6; refine (awake_c _).mono ?_; rintro e w1 ⟨rfl, hb1⟩) | (go_at_call 10; refine (hS _).mono ?_; rintro e w3 ⟨rfl, rfl⟩))
    exact bodyPost_ret (v := .bool true) (by simp [results, Tryd.results5, go_sem]) rfl ⟨rfl, hb1⟩
set_option maxHeartbeats 4000000 in
theorem Base64Back_c (s : ByteArray) (w : World) : Calls Tryd.prog 3 #[.string s] w fun e w' => e = .returned (.bool true) ∧ Below w.heap.size w w' := by
  by_cases hlong : 1000 < s.size
  · have q : (1000 : Int) < (s.size : Int) := by omega
    go_enter Tryd.func3, Tryd.ntmps3
    go_wp2_with (first | (go_at_call 6; refine (awake_c _).mono ?_; rintro e w1 ⟨rfl, hb1⟩))
    exact bodyPost_ret (v := .bool true) (by simp [results, Tryd.results3, go_sem]) rfl ⟨rfl, hb1⟩
  · have q : ¬ (1000 : Int) < (s.size : Int) := by omega
    have hl : (encL s.data.toList).length = (s.size + 2) / 3 * 4 := by
      rw [encL_length, Array.length_toList]; rfl
    have hE := fun w => Encode_c s (by omega) w
    have hR := fun w => rEncode_c s (by omega) w
    have hsz : (ByteArray.mk (encL s.data.toList).toArray).size = (s.size + 2) / 3 * 4 := by simp only [ByteArray.size, List.size_toArray]; exact hl
    have hD := fun w => Decode_c ⟨(encL s.data.toList).toArray⟩ (by rw [hsz]; omega) w
    have hde : decL (ByteArray.mk (encL s.data.toList).toArray).data.toList = some s.data.toList := dec_enc s.data.toList
    have hbk : (ByteArray.mk s.data.toList.toArray) = s := by simp
    rw [hde] at hD
    simp only [dres] at hD
    rw [hbk] at hD
    have hZ := fun w => Size_c (s.size : Int) w
    have hszB : sizeB (s.size : Int) = (((s.size + 2) / 3 * 4 : Nat) : Int) := by simp only [sizeB]; rw [if_neg (by omega)]; omega
    rw [hszB, ← hsz] at hZ
    clear hde hbk hl hszB
    obtain ⟨T, hT⟩ : ∃ T, T = ByteArray.mk (encL s.data.toList).toArray := ⟨_, rfl⟩
    rw [← hT] at hZ hD hsz
    simp only [← hT] at hE hR
    clear hT hsz
    go_enter Tryd.func3, Tryd.ntmps3
    go_wp2_with (first | (go_at_call 6; refine (awake_c _).mono ?_; rintro e w1 ⟨rfl, hb1⟩) | (go_at_call 7; refine (hE _).mono ?_; rintro e w2 ⟨rfl, hb2⟩) | (go_at_call 8; refine (hD _).mono ?_; rintro e w3 ⟨rfl, hb3⟩) | (go_at_call 9; refine (hR _).mono ?_; rintro e w4 ⟨rfl, hb4⟩) | (go_at_call 10; refine (hZ _).mono ?_; rintro e w5 ⟨rfl, rfl⟩))
    exact bodyPost_ret (v := .bool true) (by simp [results, Tryd.results3, go_sem]) rfl ⟨rfl, bl_call hb4 (bl_call hb3 (bl_call hb2 hb1))⟩
set_option maxHeartbeats 4000000 in
theorem Base64Any_c (s : ByteArray) (w : World) : Calls Tryd.prog 4 #[.string s] w fun e w' => e = .returned (.bool true) ∧ Below w.heap.size w w' := by
  by_cases hlong : 400 < s.size
  · have q : (400 : Int) < (s.size : Int) := by omega
    go_enter Tryd.func4, Tryd.ntmps4
    go_wp2_with (first | (go_at_call 6; refine (awake_c _).mono ?_; rintro e w1 ⟨rfl, hb1⟩))
    exact bodyPost_ret (v := .bool true) (by simp [results, Tryd.results4, go_sem]) rfl ⟨rfl, hb1⟩
  · have q : ¬ (400 : Int) < (s.size : Int) := by omega
    have hD := fun w => Decode_c s (by omega) w
    have hR := fun w => rDecode_c s (by omega) w
    have hdr := dec_ref s.data.toList
    cases hd : decL s.data.toList with
    | none =>
      rw [hd] at hD hdr
      simp only [dres] at hD
      simp only [rres, ← hdr] at hR
      clear hdr hd
      go_enter Tryd.func4, Tryd.ntmps4
      go_wp2_with (first | (go_at_call 6; refine (awake_c _).mono ?_; rintro e w1 ⟨rfl, hb1⟩) | (go_at_call 8; refine (hD _).mono ?_; rintro e w3 ⟨rfl, hb3⟩) | (go_at_call 11; refine (hR _).mono ?_; rintro e w4 ⟨rfl, hb4⟩))
      exact bodyPost_ret (v := .bool true) (by simp [results, Tryd.results4, go_sem]) rfl ⟨rfl, bl_call hb4 (bl_call hb3 hb1)⟩
    | some t =>
      have hen := enc_dec s.data.toList t hd
      have hel := encL_length t
      have hsl : s.data.toList.length = s.size := Array.length_toList
      rw [hen, hsl] at hel
      rw [hd] at hD hdr
      simp only [dres] at hD
      simp only [rres, ← hdr] at hR
      have hE := fun w => Encode_c ⟨t.toArray⟩ (by simp only [ByteArray.size, List.size_toArray]; omega) w
      have hte : (ByteArray.mk t.toArray).data.toList = t := rfl
      have hbk : (ByteArray.mk s.data.toList.toArray) = s := by simp
      rw [hte, hen, hbk] at hE
      clear hdr hd hen hel hsl hte hbk
      generalize (ByteArray.mk t.toArray) = T at hE hD hR
      go_enter Tryd.func4, Tryd.ntmps4
      go_wp2_with (first | (go_at_call 6; refine (awake_c _).mono ?_; rintro e w1 ⟨rfl, hb1⟩) | (go_at_call 8; refine (hD _).mono ?_; rintro e w3 ⟨rfl, hb3⟩) | (go_at_call 11; refine (hR _).mono ?_; rintro e w4 ⟨rfl, hb4⟩) | (go_at_call 7; refine (hE _).mono ?_; rintro e w5 ⟨rfl, hb5⟩))
      exact bodyPost_ret (v := .bool true) (by simp [results, Tryd.results4, go_sem]) rfl ⟨rfl, bl_call hb5 (bl_call hb4 (bl_call hb3 hb1))⟩
end Go.Proofs.YtjoilddfmalnjaaDoor

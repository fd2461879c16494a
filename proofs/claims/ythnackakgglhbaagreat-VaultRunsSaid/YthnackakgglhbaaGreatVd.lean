/- Contracts of both Opens. -/
import Derived.Test.YthnackakgglhbaaGreatVc
namespace Go.Proofs.YthnackakgglhbaaGreat
open Go.RowKit Go.Lib
set_option maxRecDepth 100000
set_option linter.unusedSimpArgs false
set_option linter.unusedVariables false
theorem differ_str {a b : ByteArray} (h : ¬ a = b) : (a.toList == b.toList) = false := by
  rw [ByteArray.toList_eq, ByteArray.toList_eq, beq_eq_false_iff_ne]
  exact fun q => h (ByteArray.ext (Array.ext' q))
theorem same_str (a : ByteArray) : (a.toList == a.toList) = true := by simp
def opT : Option ByteArray → ByteArray
  | some t => t
  | none => ⟨#[]⟩
def opE : Option ByteArray → Int
  | some _ => 0
  | none => 4
/-- The three ways of an opening. -/
theorem open_ways (k l s : ByteArray) (hs : s.size ≤ 2000) : (s.size < 16 ∧ openS k l s = none) ∨ (16 ≤ s.size ∧ sumS k l (s.extract 0 (s.size - 16)) ≠ s.extract (s.size - 16) s.size ∧ openS k l s = none) ∨ (16 ≤ s.size ∧ sumS k l (s.extract 0 (s.size - 16)) = s.extract (s.size - 16) s.size ∧ openS k l s = some (outS k l (s.extract 0 (s.size - 16)))) := by
  unfold openS
  by_cases h : s.size < 16
  · exact .inl ⟨h, if_pos (.inl h)⟩
  · by_cases h2 : sumS k l (s.extract 0 (s.size - 16)) = s.extract (s.size - 16) s.size
    · exact .inr (.inr ⟨by omega, h2, if_neg (by rintro (q | q | q); · omega
                                                 · omega
                                                 · exact q h2)⟩)
    · exact .inr (.inl ⟨by omega, h2, if_pos (.inr (.inr h2))⟩)
theorem vOpen_no (k l s : ByteArray) (hL : labB l = false) (w : World) : Calls Tryz.prog 16 #[.string k, .string l, .string s] w fun e w' => e = .returned (.tuple #[.string ⟨#[]⟩, .int .i64 9]) ∧ Below w.heap.size w w' := by
  have hC := fun w => label_c l w
  rw [hL] at hC
  go_enter Tryz.func16, Tryz.ntmps16
  go_wp2_with (go_at_call 23; refine (hC _).mono ?_; rintro e w3 ⟨rfl, hb3⟩)
  exact bodyPost_ret (v := .tuple #[.string ⟨#[]⟩, .int .i64 9]) (by simp [results, Tryz.results16, go_sem]) rfl ⟨rfl, hb3⟩
set_option maxHeartbeats 2000000 in
theorem vOpen_c (k l s : ByteArray) (hL : labB l = true) (hk : k.size ≤ 10000) (hl : l.size ≤ 10000) (hs : s.size ≤ 2000) (w : World) : Calls Tryz.prog 16 #[.string k, .string l, .string s] w fun e w' => e = .returned (.tuple #[.string (opT (openS k l s)), .int .i64 (opE (openS k l s))]) ∧ Below w.heap.size w w' := by
  have hC := fun w => label_c l w
  rw [hL] at hC
  clear hL
  rcases open_ways k l s hs with ⟨h, e⟩ | ⟨h, hne, e⟩ | ⟨h, heq, e⟩
  · rw [e]
    have q0 : (s.size : Int) - 16 < 0 := by omega
    go_enter Tryz.func16, Tryz.ntmps16
    go_upto_region 5 with (go_at_call 23; refine (hC _).mono ?_; rintro e w3 ⟨rfl, hb3⟩)
    go_region
    go_wp2_with fail
    exact bodyPost_ret (v := .tuple #[.string ⟨#[]⟩, .int .i64 4]) (by simp [results, Tryz.results16, go_sem]) rfl ⟨rfl, bl_drew hb3⟩
  · rw [e]
    obtain ⟨n, hn⟩ : ∃ n, s.size = n + 16 := ⟨s.size - 16, by omega⟩
    have q0 : ¬ (n : Int) < 0 := by omega
    have q1 : ¬ 2000 < (n : Int) := by omega
    have d0 : decide ((n : Int) < 0) = false := by simp
    have d1 : decide (2000 < (n : Int)) = false := by simp; omega
    have q2 : (s.size : Int) - 16 = (n : Int) := by omega
    have q3 : (n : Int) ≤ (s.size : Int) := by omega
    have q4 : 0 ≤ (n : Int) := by omega
    have q5 : n ≤ s.size := by omega
    have hn2 : s.size - 16 = n := by omega
    rw [hn2] at hne
    have hS := fun w => vsum_c k l (s.extract 0 n) (by omega) (by omega) (by rw [ByteArray.size_extract]; omega) w
    have hT := fun w => turned_c k l (s.extract 0 n) (by omega) (by omega) (by rw [ByteArray.size_extract]; omega) w
    skip
    generalize outS k l (s.extract 0 n) = o at hT ⊢
    generalize sumS k l (s.extract 0 n) = a at hS hne
    have hq : (a.toList == (s.extract n s.size).toList) = false := differ_str hne
    clear hn hn2 e hne
    go_enter Tryz.func16, Tryz.ntmps16
    go_upto_region 5 with (go_at_call 23; refine (hC _).mono ?_; rintro e w3 ⟨rfl, hb3⟩)
    refine gen_world fun W hW => ?_
    subst hW
    refine wp_region_grow (fun w' => Below W.heap.size W w') 17 (by kernel_rfl) (by kernel_rfl) ⟨rfl, rfl, rfl, Nat.le_refl _, fun _ _ => rfl⟩ ?_
    simp only [List.take_succ_cons, List.take_zero, List.drop_succ_cons, List.drop_zero]
    repeat (first | go_big_quiet_skip | (go_big_quiet_want; go_big_quiet_op; first | go_big_quiet_on | (apply Exists.intro; refine ⟨fun w1 hw1 => ?_, ?_⟩; (first | exact rfl  | (go_at_call 25; refine Calls_grow hw1 (hS w1))); go_big_quiet_on)))
    refine wpQuiet_nil ?_
    intro w1 hw1
    replace hb3 := bl_call hw1 hb3
    go_wp2_with fail
    exact bodyPost_ret (v := .tuple #[.string ⟨#[]⟩, .int .i64 4]) (by simp [results, Tryz.results16, go_sem]) rfl ⟨rfl, hb3⟩
  · rw [e]
    obtain ⟨n, hn⟩ : ∃ n, s.size = n + 16 := ⟨s.size - 16, by omega⟩
    have q0 : ¬ (n : Int) < 0 := by omega
    have q1 : ¬ 2000 < (n : Int) := by omega
    have d0 : decide ((n : Int) < 0) = false := by simp
    have d1 : decide (2000 < (n : Int)) = false := by simp; omega
    have q2 : (s.size : Int) - 16 = (n : Int) := by omega
    have q3 : (n : Int) ≤ (s.size : Int) := by omega
    have q4 : 0 ≤ (n : Int) := by omega
    have q5 : n ≤ s.size := by omega
    have hn2 : s.size - 16 = n := by omega
    rw [hn2] at heq
    have hS := fun w => vsum_c k l (s.extract 0 n) (by omega) (by omega) (by rw [ByteArray.size_extract]; omega) w
    have hT := fun w => turned_c k l (s.extract 0 n) (by omega) (by omega) (by rw [ByteArray.size_extract]; omega) w
    rw [hn2]
    generalize outS k l (s.extract 0 n) = o at hT ⊢
    generalize sumS k l (s.extract 0 n) = a at hS heq
    have hq : (a.toList == (s.extract n s.size).toList) = true := by rw [heq]; exact same_str _
    clear hn hn2 e heq
    go_enter Tryz.func16, Tryz.ntmps16
    go_upto_region 5 with (go_at_call 23; refine (hC _).mono ?_; rintro e w3 ⟨rfl, hb3⟩)
    refine gen_world fun W hW => ?_
    subst hW
    refine wp_region_grow (fun w' => Below W.heap.size W w') 17 (by kernel_rfl) (by kernel_rfl) ⟨rfl, rfl, rfl, Nat.le_refl _, fun _ _ => rfl⟩ ?_
    simp only [List.take_succ_cons, List.take_zero, List.drop_succ_cons, List.drop_zero]
    repeat (first | go_big_quiet_skip | (go_big_quiet_want; go_big_quiet_op; first | go_big_quiet_on | (apply Exists.intro; refine ⟨fun w1 hw1 => ?_, ?_⟩; (first | exact rfl  | (go_at_call 25; refine Calls_grow hw1 (hS w1))); go_big_quiet_on)))
    refine wpQuiet_nil ?_
    intro w1 hw1
    replace hb3 := bl_call hw1 hb3
    go_wp2_with (go_at_call 24; refine (hT _).mono ?_; rintro e w4 ⟨rfl, hb4⟩)
    exact bodyPost_ret (v := .tuple #[.string o, .int .i64 0]) (by simp [results, Tryz.results16, go_sem]) rfl ⟨rfl, bl_call hb4 hb3⟩
def opB : Option ByteArray → Bool
  | some _ => true
  | none => false
set_option maxHeartbeats 2000000 in
theorem rOpen_c (k l s : ByteArray) (hk : k.size ≤ 10000) (hl : l.size ≤ 10000) (hs : s.size ≤ 2000) (w : World) : Calls Tryz.prog 10 #[.string k, .string l, .string s] w fun e w' => e = .returned (.tuple #[.string (opT (openS k l s)), .bool (opB (openS k l s))]) ∧ Below w.heap.size w w' := by
  rcases open_ways k l s hs with ⟨h, e⟩ | ⟨h, hne, e⟩ | ⟨h, heq, e⟩
  · rw [e]
    have q0 : (s.size : Int) - 16 < 0 := by omega
    go_enter Tryz.func10, Tryz.ntmps10
    go_upto_region 2 with fail
    go_region
    go_wp2_with fail
    exact bodyPost_ret (v := .tuple #[.string ⟨#[]⟩, .bool false]) (by simp [results, Tryz.results10, go_sem]) rfl ⟨rfl, bl_drew (Below.refl _ _)⟩
  · rw [e]
    obtain ⟨n, hn⟩ : ∃ n, s.size = n + 16 := ⟨s.size - 16, by omega⟩
    have q0 : ¬ (n : Int) < 0 := by omega
    have q1 : ¬ 2000 < (n : Int) := by omega
    have d0 : decide ((n : Int) < 0) = false := by simp
    have d1 : decide (2000 < (n : Int)) = false := by simp; omega
    have q2 : (s.size : Int) - 16 = (n : Int) := by omega
    have q3 : (n : Int) ≤ (s.size : Int) := by omega
    have q4 : 0 ≤ (n : Int) := by omega
    have q5 : n ≤ s.size := by omega
    have hn2 : s.size - 16 = n := by omega
    rw [hn2] at hne
    have hx : (s.extract 0 n).size = n := by rw [ByteArray.size_extract]; omega
    have hM := fun w => mac43_c k (selK ++ l ++ zro ++ s.extract 0 n) (by omega) (by
      simp only [ByteArray.size_append]
      have h1 : selK.size = 5 := rfl
      have h2 : zro.size = 1 := rfl
      omega) w
    have hm := macText_size k (selK ++ l ++ zro ++ s.extract 0 n)
    have hS := fun w => rStream_c k l (by omega) (by omega) n (by omega) w
    have hz := strT_size k l n
    have hX := fun w => rXor_c (s.extract 0 n) (strT k l n) (by omega) (by omega) w
    have he : (⟨(xorB (s.extract 0 n).data.toList (strT k l n).data.toList).toArray⟩ : ByteArray) = outS k l (s.extract 0 n) := by rw [outS, hx]; rfl
    rw [he] at hX
    skip
    generalize outS k l (s.extract 0 n) = o at hX ⊢
    unfold sumS at hne
    generalize macText k (selK ++ l ++ zro ++ s.extract 0 n) = a at hM hm hne
    generalize strT k l n = st at hS hX
    have hq : ((a.extract 0 16).toList == (s.extract n s.size).toList) = false := differ_str hne
    have ha : (16 : Int) ≤ (a.size : Int) := by omega
    unfold selK zro at hM
    clear hn hn2 e hne he hz
    go_enter Tryz.func10, Tryz.ntmps10
    go_upto_region 2 with fail
    refine gen_world fun W hW => ?_
    subst hW
    refine wp_region_grow (fun w' => Below W.heap.size W w') 21 (by kernel_rfl) (by kernel_rfl) ⟨rfl, rfl, rfl, Nat.le_refl _, fun _ _ => rfl⟩ ?_
    simp only [List.take_succ_cons, List.take_zero, List.drop_succ_cons, List.drop_zero]
    repeat (first | go_big_quiet_skip | (go_big_quiet_want; go_big_quiet_op; first | go_big_quiet_on | (apply Exists.intro; refine ⟨fun w1 hw1 => ?_, ?_⟩; (first | exact rfl  | (go_at_call 18; refine Calls_grow hw1 (hM w1))); go_big_quiet_on)))
    refine wpQuiet_nil ?_
    intro w1 hw1
    have hb3 := hw1
    clear hw1
    go_wp2_with fail
    exact bodyPost_ret (v := .tuple #[.string ⟨#[]⟩, .bool false]) (by simp [results, Tryz.results10, go_sem]) rfl ⟨rfl, hb3⟩
  · rw [e]
    obtain ⟨n, hn⟩ : ∃ n, s.size = n + 16 := ⟨s.size - 16, by omega⟩
    have q0 : ¬ (n : Int) < 0 := by omega
    have q1 : ¬ 2000 < (n : Int) := by omega
    have d0 : decide ((n : Int) < 0) = false := by simp
    have d1 : decide (2000 < (n : Int)) = false := by simp; omega
    have q2 : (s.size : Int) - 16 = (n : Int) := by omega
    have q3 : (n : Int) ≤ (s.size : Int) := by omega
    have q4 : 0 ≤ (n : Int) := by omega
    have q5 : n ≤ s.size := by omega
    have hn2 : s.size - 16 = n := by omega
    rw [hn2] at heq
    have hx : (s.extract 0 n).size = n := by rw [ByteArray.size_extract]; omega
    have hM := fun w => mac43_c k (selK ++ l ++ zro ++ s.extract 0 n) (by omega) (by
      simp only [ByteArray.size_append]
      have h1 : selK.size = 5 := rfl
      have h2 : zro.size = 1 := rfl
      omega) w
    have hm := macText_size k (selK ++ l ++ zro ++ s.extract 0 n)
    have hS := fun w => rStream_c k l (by omega) (by omega) n (by omega) w
    have hz := strT_size k l n
    have hX := fun w => rXor_c (s.extract 0 n) (strT k l n) (by omega) (by omega) w
    have he : (⟨(xorB (s.extract 0 n).data.toList (strT k l n).data.toList).toArray⟩ : ByteArray) = outS k l (s.extract 0 n) := by rw [outS, hx]; rfl
    rw [he] at hX
    rw [hn2]
    generalize outS k l (s.extract 0 n) = o at hX ⊢
    unfold sumS at heq
    generalize macText k (selK ++ l ++ zro ++ s.extract 0 n) = a at hM hm heq
    generalize strT k l n = st at hS hX
    have hq : ((a.extract 0 16).toList == (s.extract n s.size).toList) = true := by rw [heq]; exact same_str _
    have ha : (16 : Int) ≤ (a.size : Int) := by omega
    unfold selK zro at hM
    clear hn hn2 e heq he hz
    go_enter Tryz.func10, Tryz.ntmps10
    go_upto_region 2 with fail
    refine gen_world fun W hW => ?_
    subst hW
    refine wp_region_grow (fun w' => Below W.heap.size W w') 21 (by kernel_rfl) (by kernel_rfl) ⟨rfl, rfl, rfl, Nat.le_refl _, fun _ _ => rfl⟩ ?_
    simp only [List.take_succ_cons, List.take_zero, List.drop_succ_cons, List.drop_zero]
    repeat (first | go_big_quiet_skip | (go_big_quiet_want; go_big_quiet_op; first | go_big_quiet_on | (apply Exists.intro; refine ⟨fun w1 hw1 => ?_, ?_⟩; (first | exact rfl  | (go_at_call 18; refine Calls_grow hw1 (hM w1))); go_big_quiet_on)))
    refine wpQuiet_nil ?_
    intro w1 hw1
    have hb3 := hw1
    clear hw1
    go_upto_region 4 with fail
    refine gen_world fun W hW => ?_
    subst hW
    refine wp_region_grow (fun w' => Below W.heap.size W w') 8 (by kernel_rfl) (by kernel_rfl) ⟨rfl, rfl, rfl, Nat.le_refl _, fun _ _ => rfl⟩ ?_
    simp only [List.take_succ_cons, List.take_zero, List.drop_succ_cons, List.drop_zero]
    repeat (first | go_big_quiet_skip | (go_big_quiet_want; go_big_quiet_op; first | go_big_quiet_on | (apply Exists.intro; refine ⟨fun w1 hw1 => ?_, ?_⟩; (first | exact rfl  | (go_at_call 20; refine Calls_grow hw1 (hS w1)) | (go_at_call 19; refine Calls_grow hw1 (hX w1))); go_big_quiet_on)))
    refine wpQuiet_nil ?_
    intro w1 hw1
    go_wp2_with fail
    exact bodyPost_ret (v := .tuple #[.string o, .bool true]) (by simp [results, Tryz.results10, go_sem]) rfl ⟨rfl, bl_call hw1 hb3⟩
end Go.Proofs.YthnackakgglhbaaGreat

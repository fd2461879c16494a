/- Contracts of the scram reference: Plain, Proof, Check. -/
import Derived.Test.YtpcpdgkkjkkklaaSr
namespace Go.Proofs.Ytpcpdgkkjkkklaa
open Go.RowKit Go.Lib
set_option maxRecDepth 100000
set_option linter.unusedSimpArgs false
set_option linter.unusedVariables false
attribute [local go_sem] evR_tmp evR_const evR_global evR_func
theorem saltB_length (p s : ByteArray) (m : Nat) : (saltB p s m).length = 32 := refBytes_length _ (saltW_length p s m)
set_option maxHeartbeats 4000000 in
theorem rPlain_c (p s : ByteArray) (hp : p.size ≤ 100000) (hs : s.size ≤ 100000) (m : Nat) (hm : m + 1 ≤ 16777216) (w : World) : Calls Try.prog 10 #[.string p, .string s, .int .i64 ((m : Int) + 1)] w fun e w' => e = .returned (.tuple #[.string (stoB (saltB p s m)), .string (serB (saltB p s m))]) ∧ Below w.heap.size w w' := by
  have hP := fun (w1 : World) (kv tv : Value) (h1 : RowB w1 kv p.data.toList) (h2 : RowB w1 tv s.data.toList) => rPb_c p.data.toList s.data.toList kv tv m hm w1 (by rw [Array.length_toList]; exact hp) (by rw [Array.length_toList]; exact hs) h1 h2
  rw [show outAt (keyB p.data.toList) s.data.toList m = saltW p s m from rfl] at hP
  have hB := fun w => rBytes_c (saltW p s m) (saltW_length p s m) w
  rw [show refBytes (saltW p s m) = saltB p s m from rfl] at hB
  have LB := saltB_length p s m
  have hK := fun (w1 : World) (kv : Value) (h : RowB w1 kv (saltB p s m)) => rKeys_c (saltB p s m) kv w1 (by omega) h
  generalize stoB (saltB p s m) = x1 at hK ⊢
  generalize serB (saltB p s m) = x2 at hK ⊢
  generalize saltB p s m = bs at hB LB hK
  generalize saltW p s m = mid at hP hB
  obtain ⟨n, hn⟩ : ∃ n, n = (m : Int) + 1 := ⟨_, rfl⟩
  rw [← hn] at hP ⊢
  clear hn hm
  replace LB := Lib.hid LB
  have tok1 : True := trivial
  go_enter Try.func10, Try.ntmps10
  go_wp2_with (first | (have _t := tok1; refine wpList_convSB rfl rfl rfl Try.underlying9 Try.underlying42 Try.underlying5 ?_; intro cap2 w2 hR2 hb2 hlt2; clear tok1) | (refine wpList_convSB rfl rfl rfl Try.underlying9 Try.underlying42 Try.underlying5 ?_; intro cap3 w3 hR3 hb3 hlt3) | (go_at_call 26; refine (hP _ _ _ (hR2.grow hb3) hR3).mono ?_; rintro e w4 ⟨rfl, hb4⟩) | (go_at_call 18; refine (hB _).mono ?_; rintro e w5 ⟨g5, cap5, cur5, rfl, h1, h2, k5, t5, hb5⟩; have hR5 := rowOf cap5 k5 t5 LB.out) | (go_at_call 17; refine (hK _ _ hR5).mono ?_; rintro e w6 ⟨rfl, hb6⟩))
  exact bodyPost_ret (v := .tuple #[.string x1, .string x2]) (by simp [results, Try.results10, go_sem]) rfl ⟨rfl, bl_call hb6 (bl_call hb5 (bl_call hb4 (bl_call hb3 hb2)))⟩
set_option maxHeartbeats 4000000 in
theorem rProof_c (p s t : ByteArray) (hp : p.size ≤ 100000) (hs : s.size ≤ 100000) (ht : t.size ≤ 100000) (m : Nat) (hm : m + 1 ≤ 16777216) (w : World) : Calls Try.prog 21 #[.string p, .string s, .int .i64 ((m : Int) + 1), .string t] w fun e w' => e = .returned (.string ⟨(xorB (cliB (saltB p s m)).data.toList (macText (stoB (saltB p s m)) t).data.toList).toArray⟩) ∧ Below w.heap.size w w' := by
  have hP := fun (w1 : World) (kv tv : Value) (h1 : RowB w1 kv p.data.toList) (h2 : RowB w1 tv s.data.toList) => rPb_c p.data.toList s.data.toList kv tv m hm w1 (by rw [Array.length_toList]; exact hp) (by rw [Array.length_toList]; exact hs) h1 h2
  rw [show outAt (keyB p.data.toList) s.data.toList m = saltW p s m from rfl] at hP
  have hB := fun w => rBytes_c (saltW p s m) (saltW_length p s m) w
  rw [show refBytes (saltW p s m) = saltB p s m from rfl] at hB
  have LB := saltB_length p s m
  have hM1 := fun (w1 : World) (kv : Value) (h : RowB w1 kv (saltB p s m)) => smac_c (saltB p s m) kv ckS w1 (by omega) (by decide) h
  have L1 : (refBytes (cliW (saltB p s m))).length = 32 := refBytes_length _ (cliW_length _)
  have L2 : (refBytes (stoW (saltB p s m))).length = 32 := refBytes_length _ (stoW_length _)
  have hSm := fun (w1 : World) (kv : Value) (h : RowB w1 kv (refBytes (cliW (saltB p s m)))) => ssum_c (refBytes (cliW (saltB p s m))) kv w1 (by omega) h
  rw [show refSum (refBytes (cliW (saltB p s m))) = stoW (saltB p s m) from rfl] at hSm
  have hM2 := fun (w1 : World) (kv : Value) (h : RowB w1 kv (refBytes (stoW (saltB p s m)))) => smac_c (refBytes (stoW (saltB p s m))) kv t w1 (by omega) (by omega) h
  have L3 : (refBytes (macw (refBytes (stoW (saltB p s m))) t.data.toList)).length = 32 := refBytes_length _ (macK_length _ _)
  have hmt : macText (stoB (saltB p s m)) t = ⟨(refBytes (macw (refBytes (stoW (saltB p s m))) t.data.toList)).toArray⟩ := rfl
  have hX := fun w => rXor_c (cliB (saltB p s m)) (macText (stoB (saltB p s m)) t) (by rw [cliB_size]; decide) (by simp [macText, ByteArray.size, refBytes_length _ (macK_length _ _), macw]) w
  generalize (⟨(xorB (cliB (saltB p s m)).data.toList (macText (stoB (saltB p s m)) t).data.toList).toArray⟩ : ByteArray) = res at hX ⊢
  rw [hmt, show cliB (saltB p s m) = ⟨(refBytes (cliW (saltB p s m))).toArray⟩ from rfl] at hX
  rw [show macw (saltB p s m) ckS.data.toList = cliW (saltB p s m) from rfl] at hM1
  clear hmt
  generalize refBytes (macw (refBytes (stoW (saltB p s m))) t.data.toList) = b3 at hM2 L3 hX
  generalize refBytes (stoW (saltB p s m)) = b2 at hSm L2 hM2
  generalize refBytes (cliW (saltB p s m)) = b1 at hM1 L1 hSm hX
  generalize saltB p s m = bs at hB LB hM1
  generalize saltW p s m = mid at hP hB
  unfold ckS at hM1
  obtain ⟨n, hn⟩ : ∃ n, n = (m : Int) + 1 := ⟨_, rfl⟩
  rw [← hn] at hP ⊢
  clear hn hm
  replace LB := Lib.hid LB
  replace L1 := Lib.hid L1
  replace L2 := Lib.hid L2
  replace L3 := Lib.hid L3
  have tok1 : True := trivial
  go_enter Try.func21, Try.ntmps21
  go_upto_region 3 with (first | (have _t := tok1; refine wpList_convSB rfl rfl rfl Try.underlying9 Try.underlying42 Try.underlying5 ?_; intro cap2 w2 hR2 hb2 hlt2; clear tok1) | (refine wpList_convSB rfl rfl rfl Try.underlying9 Try.underlying42 Try.underlying5 ?_; intro cap3 w3 hR3 hb3 hlt3) | (go_at_call 26; refine (hP _ _ _ (hR2.grow hb3) hR3).mono ?_; rintro e w4 ⟨rfl, hb4⟩) | (go_at_call 18; refine (hB _).mono ?_; rintro e w5 ⟨g5, cap5, cur5, rfl, h1, h2, k5, t5, hb5⟩; have hR5 := rowOf cap5 k5 t5 LB.out) | (go_at_call 29; refine (hM1 _ _ hR5).mono ?_; rintro e w6 ⟨g6, cap6, cur6, rfl, h61, h62, k6, t6, hb6⟩; have hR6 := rowOf cap6 k6 t6 L1.out))
  have HB : Below w.heap.size w w6 := bl_call hb6 (bl_call hb5 (bl_call hb4 (bl_call hb3 hb2)))
  clear hb2 hb3 hb4 hb5 hb6 hR2 hR3 hR5 k5 t5 k6 t6 hM1 hB hP h1 h2 h61 h62 hlt2 hlt3
  have HB2 : Below w.heap.size w w6.drew := bl_drew HB
  have hR7 : RowB w6.drew (.slice (some ⟨g6, 0, none⟩) 32 cap6) b1 := hR6.grow (bl_drew (Below.refl _ _))
  have hcv7 := run_convBS hR7
  clear HB hR6
  go_region_with (first
    | (go_at_call 30; refine (hSm _ _ hR7).mono ?_; rintro e w7 ⟨g7, cap7, cur7, rfl, _, _, k7, t7, hb7⟩; have hR8 := rowOf cap7 k7 t7 L2.out; have hcv8 := run_convBS (hR7.grow hb7))
    | (go_at_call 29; refine (hM2 _ _ hR8).mono ?_; rintro e w8 ⟨g8, cap8, cur8, rfl, _, _, k8, t8, hb8⟩; have hR9 := rowOf cap8 k8 t8 L3.out; have hcv9 := run_convBS hR9; have hcv10 := run_convBS ((hR7.grow hb7).grow hb8))
    | (go_at_call 14; refine (hX _).mono ?_; rintro e w9 ⟨rfl, hb9⟩))
  all_goals
    go_wp2
    exact bodyPost_ret (v := .string res) (by simp [results, Try.results21, go_sem]) rfl ⟨rfl, bl_call hb9 (bl_call hb8 (bl_call hb7 HB2))⟩
set_option maxHeartbeats 4000000 in
theorem rCheck_c (st pr t : ByteArray) (hs : st.size ≤ 100000) (hp : pr.size ≤ 100000) (ht : t.size ≤ 100000) (w : World) : Calls Try.prog 12 #[.string st, .string pr, .string t] w fun e w' => e = .returned (.bool (checkB st pr t)) ∧ Below w.heap.size w w' := by
  by_cases h32 : pr.size = 32
  · have hM2 := fun (w1 : World) (kv : Value) (h : RowB w1 kv st.data.toList) => smac_c st.data.toList kv t w1 (by rw [Array.length_toList]; exact (show st.size ≤ 400000 by omega)) (by omega) h
    have L3 : (refBytes (macw st.data.toList t.data.toList)).length = 32 := refBytes_length _ (macK_length _ _)
    have hmt : macText st t = ⟨(refBytes (macw st.data.toList t.data.toList)).toArray⟩ := rfl
    have hX := fun w => rXor_c pr (macText st t) (by omega) (by simp [macText, ByteArray.size, refBytes_length _ (macK_length _ _), macw]) w
    have hc : checkB st pr t = ((⟨(refBytes (refSum (xorB pr.data.toList (macText st t).data.toList))).toArray⟩ : ByteArray).toList == st.toList) := by simp [checkB, h32]
    rw [hc]
    rw [hmt] at hX ⊢
    generalize refBytes (macw st.data.toList t.data.toList) = b3 at hM2 L3 hX ⊢
    have hxl : (xorB pr.data.toList (ByteArray.mk b3.toArray).data.toList).length ≤ 32 := by rw [xorB_length]; exact Nat.le_trans (Nat.min_le_left _ _) (by rw [Array.length_toList]; exact Nat.le_of_eq h32)
    generalize xorB pr.data.toList (ByteArray.mk b3.toArray).data.toList = xb at hX hxl ⊢
    have hSm := fun (w1 : World) (kv : Value) (h : RowB w1 kv xb) => ssum_c xb kv w1 (by omega) h
    have L4 : (refBytes (refSum xb)).length = 32 := refBytes_length _ (refSum_length _)
    generalize refBytes (refSum xb) = b4 at hSm L4 ⊢
    have h1 : ((pr.size : Int) == 32) = true := by simp; omega
    have h2 : ((pr.size : Int) != 32) = false := by simp; omega
    clear hc hmt
    replace L3 := Lib.hid L3
    replace L4 := Lib.hid L4
    have tok1 : True := trivial
    have tok2 : True := trivial
    go_enter Try.func12, Try.ntmps12
    go_wp2_with (first | (have _t := tok1; refine wpList_convSB rfl rfl rfl Try.underlying9 Try.underlying42 Try.underlying5 ?_; intro cap2 w2 hR2 hb2 hlt2; clear tok1) | (refine wpList_convSB rfl rfl rfl Try.underlying9 Try.underlying42 Try.underlying5 ?_; intro cap3 w3 hR3 hb3 hlt3) | (go_at_call 29; refine (hM2 _ _ hR2).mono ?_; rintro e w4 ⟨g4, cap4, cur4, rfl, h41, h42, k4, t4, hb4⟩; have hR4 := rowOf cap4 k4 t4 L3.out) | (have _t := tok2; refine wpList_convBS rfl rfl rfl hR4 ?_; clear tok2) | (go_at_call 14; refine (hX _).mono ?_; rintro e w5 ⟨rfl, hb5⟩) | (go_at_call 30; refine (hSm _ _ hR3).mono ?_; rintro e w6 ⟨g6, cap6, cur6, rfl, h61, h62, k6, t6, hb6⟩; have hR6 := rowOf cap6 k6 t6 L4.out) | (refine wpList_convBS rfl rfl rfl hR6 ?_))
    exact bodyPost_ret (v := .bool ((ByteArray.mk b4.toArray).toList == st.toList)) (by simp [results, Try.results12, go_sem]) rfl ⟨rfl, bl_call hb6 (bl_call hb3 (bl_call hb5 (bl_call hb4 hb2)))⟩
  · have hc : checkB st pr t = false := by simp [checkB, h32]
    rw [hc]
    have h1 : ((pr.size : Int) == 32) = false := by simp; omega
    have h2 : ((pr.size : Int) != 32) = true := by simp; omega
    clear hc
    go_enter Try.func12, Try.ntmps12
    go_wp2_with fail
    exact bodyPost_ret (v := .bool false) (by simp [results, Try.results12, go_sem]) rfl ⟨rfl, Below.refl _ _⟩
end Go.Proofs.Ytpcpdgkkjkkklaa

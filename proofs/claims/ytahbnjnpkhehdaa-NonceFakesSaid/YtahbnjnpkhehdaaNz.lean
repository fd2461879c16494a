/- The law NonceFakes. -/
import Derived.Test.YtahbnjnpkhehdaaNy
namespace Go.Proofs.Ytahbnjnpkhehdaa
open Go.RowKit Go.Lib
set_option maxRecDepth 100000
set_option linter.unusedSimpArgs false
set_option linter.unusedVariables false
attribute [local go_sem] evR_tmp evR_const evR_global evR_func
set_option maxHeartbeats 4000000 in
theorem NonceFakes_all (seed user : ByteArray) (n : Int) (w : World) : Calls Try.prog 5 #[.string seed, .string user, .int .i64 n] w fun e w' => e = .returned (.bool true) ∧ Below w.heap.size w w' := by
  have hA := Lib.hid (fun w => awake34_c w)
  by_cases hs : 100 < seed.size
  · have hs' : (100 : Int) < (seed.size : Int) := by omega
    go_enter Try.func5, Try.ntmps5
    go_wp2_with (go_at_call 6; refine (hA.out _).mono ?_; rintro e w1 ⟨rfl, hb1⟩)
    exact bodyPost_ret (v := .bool true) (by simp [results, Try.results5, go_sem]) rfl ⟨rfl, hb1⟩
  by_cases hu : 100 < user.size
  · have hs' : ¬ (100 : Int) < (seed.size : Int) := by omega
    have hu' : (100 : Int) < (user.size : Int) := by omega
    go_enter Try.func5, Try.ntmps5
    go_wp2_with (go_at_call 6; refine (hA.out _).mono ?_; rintro e w1 ⟨rfl, hb1⟩)
    exact bodyPost_ret (v := .bool true) (by simp [results, Try.results5, go_sem]) rfl ⟨rfl, hb1⟩
  have hF := fun w => nFake_c seed user (by omega) (by omega) n w
  have hs' : ¬ (100 : Int) < (seed.size : Int) := by omega
  have hu' : ¬ (100 : Int) < (user.size : Int) := by omega
  have hM := fun (w1 : World) (sv tv : Value) (hr : RowB w1 sv seed.data.toList) (ht : RowB w1 tv user.data.toList) => rMac_c seed.data.toList user.data.toList sv tv w1 (by rw [Array.length_toList]; exact (show seed.size ≤ 400000 by omega)) (by rw [Array.length_toList]; exact (show user.size ≤ 400000 by omega)) hr ht
  have hB := fun w => rBytes_c (macw seed.data.toList user.data.toList) (macK_length _ _) w
  have hl : (refBytes (macw seed.data.toList user.data.toList)).length = 32 := refBytes_length _ (macK_length _ _)
  have hmt : macText seed user = ⟨(refBytes (macw seed.data.toList user.data.toList)).toArray⟩ := rfl
  generalize macw seed.data.toList user.data.toList = m at hM hB hl hmt
  generalize refBytes m = bs at hB hl hmt
  rw [hmt] at hF
  have ht : (ByteArray.mk bs.toArray).size = 32 := by simp [ByteArray.size, hl]
  clear hmt hs hu
  replace hF := Lib.hid hF
  replace hl := Lib.hid hl
  replace ht := Lib.hid ht
  go_enter Try.func5, Try.ntmps5
  have tok1 : True := trivial
  go_upto_region 6 with (first | (go_at_call 6; refine (hA.out _).mono ?_; rintro e w1 ⟨rfl, hb1⟩) | (have _t := tok1; refine wpList_convSB rfl rfl rfl Try.underlying9 Try.underlying32 Try.underlying5 ?_; intro cap2 w2 hR2 hb2 hlt2; clear tok1) | (refine wpList_convSB rfl rfl rfl Try.underlying9 Try.underlying32 Try.underlying5 ?_; intro cap3 w3 hR3 hb3 hlt3) | (go_at_call 16; refine (hM _ _ _ (hR2.grow hb3) hR3).mono ?_; rintro e w4 ⟨rfl, hb4⟩) | (go_at_call 15; refine (hB _).mono ?_; rintro e w5 ⟨g5, cap5, cur, rfl, h1, h2, h3, h4, hb5⟩; have hR5 : RowB w5 (.slice (some ⟨g5, 0, none⟩) 32 cap5) bs := by (have := RowB.block (cap := cap5) (bs := bs) h3 (by rw [hl.out]; exact h4)); rwa [hl.out] at this) | (refine wpList_convBS rfl rfl rfl hR5 ?_))
  have hb : Below w.heap.size w w5 := bl_call hb5 (bl_call hb4 (bl_call hb3 (bl_call hb2 hb1)))
  obtain ⟨t, htt⟩ : ∃ t : ByteArray, t = ⟨bs.toArray⟩ := ⟨_, rfl⟩
  rw [← htt] at hF ht ⊢
  clear htt hb1 hb2 hb3 hb4 hb5 hR2 hR3 hR5 hB hM hA h1 h2 h3 h4 hs' hu'
  have hF2 := hF.out
  have ht2 := ht.out
  clear hF ht
  obtain ⟨q, hq⟩ : ∃ q, q = (min (max n 0) 32).toNat := ⟨_, rfl⟩
  rw [← hq] at hF2
  by_cases hn0 : n < 0
  focus
    have e1 : (0 : Int) ≤ 32 := by decide
    have e2 : ¬ (32 : Int) < 0 := by decide
    obtain rfl : q = 0 := by omega
    have ht3 : (0 : Int) ≤ (t.size : Int) := by omega
    clear hq
    replace ht2 := Lib.hid ht2
    refine wp_region_R 11 [0, 1, 2, 7] (by kernel_rfl) (by kernel_rfl) (by kernel_rfl) (by kernel_rfl) ?_
    intro K_ ops_ hops_ hK
    replace hops_ := Lib.hid hops_
    apply Exists.intro
    intro R_ hb_
    simp only [↓baseR, ↓nthR_succ, ↓nthR_zero] at hb_
    simp only [List.take_succ_cons, List.take_zero, List.drop_succ_cons, List.drop_zero]
    repeat (first
      | (apply LexR_det (by rfl) (by rfl) (by rfl) (fun w1 hw1 hd1 => ?_) (fun _ hr_ => ?_); rotate_right 2; (go_simp; first | done | rfl))
      
      | (apply LexR_callF (f := 17) (by rfl) (by rfl) (by rfl) Try.func17 (by kernel_rfl) (by kernel_rfl) (fun _ => ?_) (fun w1 hw1 hd1 => ?_) (fun _ hr_ => ?_); rotate_right 3; (go_simp; first | done | rfl); (with_reducible exact (hF2 w1)))
      | (apply LexR_det (by rfl) (by rfl) (by rfl) (fun w1 hw1 hd1 => ?_) (fun _ hr_ => ?_); rotate_right 2; (go_simp; first | done | rfl ))
      | (apply LexR_box (by rfl) (by rfl) (by rfl) (fun w1 hw1 hd1 => ?_) (fun _ hr_ => ?_); rotate_right 2; (go_simp; first | done | rfl))
      | (apply LexR_bs (t := 59) (e := 63) (z := .agg #[.int .u32 0]) (ho := rfl) (by rfl) (by rfl) Try.underlying59 (by kernel_rfl) (by decide) (by decide) (fun _ => ?_) (fun _ => ?_) (fun _ => ?_) (fun _ hr_ => ?_); rotate_right 4; (go_simp; rfl); (exact ⟨rfl, rfl, rfl⟩); (simp only [List.map_cons, List.map_nil, List.flatMap_cons, List.flatMap_nil, Value.cells, List.cons_append, List.nil_append, List.append_nil]; rfl)))
    apply LexR_end
    refine hK _ _ ?_
    clear hK K_
    repeat clear hr_
    clear hb_ R_ hops_ ops_
    intro w1 hw1 hf1
    apply tailR (fun _ => ?_) (fun _ => ?_) ?_
    rotate_right 2
    · simp only [putAll, Act.put, List.setIfInBounds_toArray, List.set_cons_succ, List.set_cons_zero]; first | done | rfl
    · simp only [List.drop_succ_cons, List.drop_zero]; first | done | rfl
    simp [allFacts, contOf, Exp.putAt, Exp.fact, Exp.fresh, Exp.blk] at hf1
  rotate_left
  by_cases hn2 : 32 < n
  focus
    have e1 : ¬ n < 0 := hn0
    have e2 : (32 : Int) < n := hn2
    obtain rfl : q = 32 := by omega
    have ht3 : (32 : Int) ≤ (t.size : Int) := by omega
    clear hq
    replace ht2 := Lib.hid ht2
    refine wp_region_R 11 [0, 1, 2, 7] (by kernel_rfl) (by kernel_rfl) (by kernel_rfl) (by kernel_rfl) ?_
    intro K_ ops_ hops_ hK
    replace hops_ := Lib.hid hops_
    apply Exists.intro
    intro R_ hb_
    simp only [↓baseR, ↓nthR_succ, ↓nthR_zero] at hb_
    simp only [List.take_succ_cons, List.take_zero, List.drop_succ_cons, List.drop_zero]
    repeat (first
      | (apply LexR_det (by rfl) (by rfl) (by rfl) (fun w1 hw1 hd1 => ?_) (fun _ hr_ => ?_); rotate_right 2; (go_simp; first | done | rfl))
      
      | (apply LexR_callF (f := 17) (by rfl) (by rfl) (by rfl) Try.func17 (by kernel_rfl) (by kernel_rfl) (fun _ => ?_) (fun w1 hw1 hd1 => ?_) (fun _ hr_ => ?_); rotate_right 3; (go_simp; first | done | rfl); (with_reducible exact (hF2 w1)))
      | (apply LexR_det (by rfl) (by rfl) (by rfl) (fun w1 hw1 hd1 => ?_) (fun _ hr_ => ?_); rotate_right 2; (go_simp; first | done | rfl ))
      | (apply LexR_box (by rfl) (by rfl) (by rfl) (fun w1 hw1 hd1 => ?_) (fun _ hr_ => ?_); rotate_right 2; (go_simp; first | done | rfl))
      | (apply LexR_bs (t := 59) (e := 63) (z := .agg #[.int .u32 0]) (ho := rfl) (by rfl) (by rfl) Try.underlying59 (by kernel_rfl) (by decide) (by decide) (fun _ => ?_) (fun _ => ?_) (fun _ => ?_) (fun _ hr_ => ?_); rotate_right 4; (go_simp; rfl); (exact ⟨rfl, rfl, rfl⟩); (simp only [List.map_cons, List.map_nil, List.flatMap_cons, List.flatMap_nil, Value.cells, List.cons_append, List.nil_append, List.append_nil]; rfl)))
    apply LexR_end
    refine hK _ _ ?_
    clear hK K_
    repeat clear hr_
    clear hb_ R_ hops_ ops_
    intro w1 hw1 hf1
    apply tailR (fun _ => ?_) (fun _ => ?_) ?_
    rotate_right 2
    · simp only [putAll, Act.put, List.setIfInBounds_toArray, List.set_cons_succ, List.set_cons_zero]; first | done | rfl
    · simp only [List.drop_succ_cons, List.drop_zero]; first | done | rfl
    simp [allFacts, contOf, Exp.putAt, Exp.fact, Exp.fresh, Exp.blk] at hf1
  rotate_left
  focus
    have e1 : ¬ n < 0 := hn0
    have e2 : ¬ (32 : Int) < n := hn2
    obtain rfl : n = (q : Int) := by omega
    have ht3 : (q : Int) ≤ (t.size : Int) := by omega
    clear hq
    replace ht2 := Lib.hid ht2
    refine wp_region_R 11 [0, 1, 2, 7] (by kernel_rfl) (by kernel_rfl) (by kernel_rfl) (by kernel_rfl) ?_
    intro K_ ops_ hops_ hK
    replace hops_ := Lib.hid hops_
    apply Exists.intro
    intro R_ hb_
    simp only [↓baseR, ↓nthR_succ, ↓nthR_zero] at hb_
    simp only [List.take_succ_cons, List.take_zero, List.drop_succ_cons, List.drop_zero]
    repeat (first
      | (apply LexR_det (by rfl) (by rfl) (by rfl) (fun w1 hw1 hd1 => ?_) (fun _ hr_ => ?_); rotate_right 2; (go_simp; first | done | rfl))
      
      | (apply LexR_callF (f := 17) (by rfl) (by rfl) (by rfl) Try.func17 (by kernel_rfl) (by kernel_rfl) (fun _ => ?_) (fun w1 hw1 hd1 => ?_) (fun _ hr_ => ?_); rotate_right 3; (go_simp; first | done | rfl); (with_reducible exact (hF2 w1)))
      | (apply LexR_det (by rfl) (by rfl) (by rfl) (fun w1 hw1 hd1 => ?_) (fun _ hr_ => ?_); rotate_right 2; (go_simp; first | done | rfl ))
      | (apply LexR_box (by rfl) (by rfl) (by rfl) (fun w1 hw1 hd1 => ?_) (fun _ hr_ => ?_); rotate_right 2; (go_simp; first | done | rfl))
      | (apply LexR_bs (t := 59) (e := 63) (z := .agg #[.int .u32 0]) (ho := rfl) (by rfl) (by rfl) Try.underlying59 (by kernel_rfl) (by decide) (by decide) (fun _ => ?_) (fun _ => ?_) (fun _ => ?_) (fun _ hr_ => ?_); rotate_right 4; (go_simp; rfl); (exact ⟨rfl, rfl, rfl⟩); (simp only [List.map_cons, List.map_nil, List.flatMap_cons, List.flatMap_nil, Value.cells, List.cons_append, List.nil_append, List.append_nil]; rfl)))
    apply LexR_end
    refine hK _ _ ?_
    clear hK K_
    repeat clear hr_
    clear hb_ R_ hops_ ops_
    intro w1 hw1 hf1
    apply tailR (fun _ => ?_) (fun _ => ?_) ?_
    rotate_right 2
    · simp only [putAll, Act.put, List.setIfInBounds_toArray, List.set_cons_succ, List.set_cons_zero]; first | done | rfl
    · simp only [List.drop_succ_cons, List.drop_zero]; first | done | rfl
    simp [allFacts, contOf, Exp.putAt, Exp.fact, Exp.fresh, Exp.blk] at hf1
  all_goals
    go_wp2
    exact bodyPost_ret (v := .bool true) (by simp [results, Try.results5, go_sem]) rfl ⟨rfl, bl_call hw1 hb⟩
end Go.Proofs.Ytahbnjnpkhehdaa

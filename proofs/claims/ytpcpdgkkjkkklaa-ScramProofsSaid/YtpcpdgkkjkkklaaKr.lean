/- Contract of the reference sabretacheref18.Key. -/
import Derived.Test.YtpcpdgkkjkkklaaKl
namespace Go.Proofs.Ytpcpdgkkjkkklaa
open Go.RowKit Go.Lib
set_option maxRecDepth 100000
set_option linter.unusedSimpArgs false
set_option linter.unusedVariables false
attribute [local go_sem] evR_tmp evR_const evR_global evR_func xor_iw
def tAt (kb st : List UInt8) : Nat → List UInt8
  | 0 => st ++ [0, 0, 0, 1]
  | k + 1 => refBytes (uAt kb st k)
def rOut (kb st : List UInt8) : Nat → List W32
  | 0 => zero8
  | k + 1 => xorAt (rOut kb st k) (uAt kb st k) 8
theorem tAt_u (kb st : List UInt8) (k : Nat) : macK kb (tAt kb st k) = uAt kb st k := by cases k <;> rfl
theorem rOut_length (kb st : List UInt8) (k : Nat) : (rOut kb st k).length = 8 := by
  cases k with
  | zero => rfl
  | succ k => exact xorAt_length _ _ _
theorem rOut_is (kb st : List UInt8) : ∀ k, rOut kb st (k + 1) = outAt kb st k
  | 0 => by
    show xorAt zero8 (uAt kb st 0) 8 = uAt kb st 0
    refine ext8 _ _ (xorAt_length _ _ _) (uAt_length _ _ _) fun k hk => ?_
    rw [xorAt_at _ _ _ _ hk, if_pos hk, show at32 zero8 k = 0#32 by unfold at32 zero8; rw [List.getD_eq_getElem?_getD, List.getElem?_replicate, if_pos hk]; rfl, BitVec.zero_xor]
  | k + 1 => by
    show xorAt (rOut kb st (k + 1)) (uAt kb st (k + 1)) 8 = xorAt (outAt kb st k) (uAt kb st (k + 1)) 8
    rw [rOut_is kb st k]
theorem tAt_length (kb st : List UInt8) (k : Nat) : (tAt kb st k).length ≤ st.length + 32 := by
  cases k with
  | zero => simp [tAt]
  | succ k => show (refBytes (uAt kb st k)).length ≤ _; rw [refBytes_length _ (uAt_length _ _ _)]; omega
theorem RowB.owns {w : World} {base n : Nat} {sv : Value} {bs : List UInt8} (hn : n = bs.length) (h : w.ownsRow base 5 1 sv n (bs.map bv)) : RowB w sv bs := by
  subst hn
  rcases h.2 with ⟨rfl, q⟩ | ⟨g, cap, cur, rfl, _, hk, _, _, _, ht⟩
  · obtain rfl := List.eq_nil_of_length_eq_zero q
    exact RowB.nil w
  · rw [Nat.mul_one] at ht
    exact RowB.block hk ht
set_option maxHeartbeats 8000000 in
theorem rPb_c (pw st : List UInt8) (kv tv : Value) (m : Nat) (hm : m + 1 ≤ 16777216) (w : World) (hk : pw.length ≤ 100000) (hn : st.length ≤ 100000) (hkv : RowB w kv pw) (htv : RowB w tv st) : Calls Try.prog 26 #[kv, tv, .int .i64 ((m : Int) + 1)] w fun e w' => e = .returned (.agg (cw (outAt (keyB pw) st m))) ∧ Below w.heap.size w w' := by
  have hMac : ∀ (k : Nat) (sv : Value) (w1 : World), Below w.heap.size w w1 → RowB w1 sv (tAt (keyB pw) st k) → Calls Try.prog 40 #[kv, sv] w1 fun e w' => e = .returned (.agg (cw (uAt (keyB pw) st k))) ∧ Below w1.heap.size w1 w' := fun k sv w1 hw1 hr => by
    rw [← tAt_u]
    exact rMac_c pw _ kv sv w1 (by omega) (by have := tAt_length (keyB pw) st k; omega) (hkv.grow hw1) hr
  have LU := Lib.hid (fun k => uAt_length (keyB pw) st k)
  have LO := Lib.hid (fun k => rOut_length (keyB pw) st k)
  have ht0 : tAt (keyB pw) st 0 = st ++ [0, 0, 0, 1] := rfl
  have htn : ∀ k, tAt (keyB pw) st (k + 1) = refBytes (uAt (keyB pw) st k) := fun k => rfl
  have ho0 : rOut (keyB pw) st 0 = zero8 := rfl
  have hon : ∀ k, rOut (keyB pw) st (k + 1) = xorAt (rOut (keyB pw) st k) (uAt (keyB pw) st k) 8 := fun k => rfl
  have hfin := rOut_is (keyB pw) st m
  rw [← hfin]
  clear hfin
  generalize rOut (keyB pw) st = ou at LO ho0 hon ⊢
  generalize tAt (keyB pw) st = ta at hMac ht0 htn
  generalize uAt (keyB pw) st = ua at hMac LU htn hon
  replace ht0 := Lib.hid ht0
  replace htn := Lib.hid htn
  replace ho0 := Lib.hid ho0
  replace hon := Lib.hid hon
  obtain ⟨n, hn1⟩ : ∃ n, n = (m : Int) + 1 := ⟨_, rfl⟩
  rw [← hn1]
  have hn2 := hn1
  replace hn1 := Lib.hid hn1
  have hnb : n ≤ 16777216 := by omega
  clear hn2
  replace hm := Lib.hid hm
  obtain ⟨a0, c0, htv1, _, _⟩ := id htv
  subst htv1
  go_enter Try.func26, Try.ntmps26
  go_upto_region 2 with (fail)
  refine gen_world fun W hW => ?_
  have k6 : W.heap[w.heap.size]? = some (.cells (Array.replicate 8 (.int .u32 0)) 33 (0, 0)) := by subst hW; exact blk_alloc (blk_new' (by simp) _) _
  have k7 : W.heap[w.heap.size + 1]? = some (.cells (cw (ou 0)) 33 (0, 0)) := by subst hW; rw [ho0.out]; exact blk_new' (by simp) _
  have HB : Below w.heap.size w W := by subst hW; (repeat (first | exact Below.refl _ _ | (refine bl_alloc ?_ _) | (refine bl_drewN ?_ _) | (refine bl_drew ?_) | (refine bl_call (by assumption) ?_) | (refine bl_set _ _ (by simp <;> omega) ?_) | assumption))
  clear hW
  go_upto_region 2 with (fail)
  have HA : ∀ o, Below W.heap.size W (W.alloc o) := fun o => bl_alloc (Below.refl _ _) _
  go_upto_region 3 with (first | (refine wpList_app_rowB rfl _ _ rfl W.heap.size (.slice (some ⟨W.heap.size, 0, none⟩) 0 0) (.slice a0 st.length c0) 0 [] st rfl (empty_owns W _ _ (Nat.le_refl _)) rfl (htv.grow (bl_alloc HB _)) (by omega) (HA _).size ?_; intro sv3 w3 hO3 hg3 _; have HB3 : Below W.heap.size W w3 := (HA _).grown hg3 (HA _).size (fun g hg => (by cases hg; exact Nat.le_refl _))) | (refine wpList_app_rowB rfl _ _ rfl W.heap.size sv3 (.slice (some ⟨w3.heap.size, 0, none⟩) 4 4) (0 + st.length) ([] ++ st.map bv) [0, 0, 0, 1] rfl (ownsRow_block hO3 fun g hg => heap_alloc_old w3 _ (ownsRow_lt hO3 hg).2) rfl (RowB.block (bs := [0, 0, 0, 1]) (blk_new w3 _) rfl) (by simp; omega) (bl_alloc HB3 _).size ?_; intro sv4 w4 hO4 hg4 _))
  have HB4 : Below W.heap.size W w4 := grown_below (bl_alloc HB3 _) hg4 (bl_alloc HB3 _).size fun g hg' => (ownsRow_lt hO3 hg').1
  have hr : RowB w4 sv4 (ta 0) := by
    rw [ht0.out]
    exact RowB.owns (n := 0 + st.length + 4) (by simp) (by simpa using hO4)
  replace k6 := grow_blk HB4 k6
  replace k7 := grow_blk HB4 k7
  replace HB := bl_call HB4 HB
  clear hO3 hO4 hg3 hg4 HB3 HB4 HA
  go_upto_region 4 with (fail)
  go_wp2_with fail
  have q6 := blk_lt k6
  have HB0 := HB
  have k60 := k6
  have k70 := k7
  have hr0 := hr
  clear HB k6 k7 hr q6
  go_loopw [9, 8] (fun i sv wr => ∃ k : Nat, k ≤ m + 1 ∧ i = .int .i64 (k : Int) ∧ Below w.heap.size w wr ∧ wr.heap[w.heap.size]? = some (.cells (Array.replicate 8 (.int .u32 0)) 33 (0, 0)) ∧ wr.heap[w.heap.size + 1]? = some (.cells (cw (ou k)) 33 (0, 0)) ∧ RowB wr sv (ta k)) (fun i _ _ => m + 1 - (intOf i).toNat)
  case atStart => exact ⟨0, by omega, rfl, HB0, k60, k70, hr0⟩
  case round =>
    clear HB0 k60 k70 hr0
    obtain ⟨k, hk1, rfl, HB, k6, k7, hr⟩ := hrel
    have pk : (0 : Int) ≤ (k : Int) := by omega
    by_cases hlt : k < m + 1
    · have hlt' : (k : Int) < n := by have := hn1.out; omega
      have bk : (k : Int) ≤ 100000000 := by omega
      have LUk := Lib.hid (LU.out k)
      have LOk := Lib.hid (LO.out k)
      have hon1 := Lib.hid (hon.out k)
      have htn1 := htn.out k
      have hMk := hMac k _ _ HB hr
      have hB := fun w => rBytes_c (ua k) LUk.out w
      have LB := Lib.hid (refBytes_length (ua k) LUk.out)
      generalize hou : ou (k + 1) = on at hon1
      replace hou := Lib.hid hou
      generalize ua k = uk at LUk hon1 htn1 hMk hB LB
      replace htn1 := Lib.hid htn1
      generalize hok : ou k = ok at k7 LOk hon1
      clear hok
      replace hlt := Lib.hid hlt
      go_upto_region 7 with (first | (go_at_call 40; refine hMk.mono ?_; rintro e w5 ⟨rfl, hw5⟩) | (refine wpList_store_row rfl _ _ _ rfl w5.heap.size (cw uk) rfl rfl 33 _ (blk_new w5 _) (by rw [cw_size, LUk.out]; kernel_rfl) (by rw [cw_size, LUk.out]; rfl) (cw_one _) ?_))
      refine gen_world fun W5 hW => ?_
      have k10 : W5.heap[w5.heap.size]? = some (.cells (cw uk) 33 (0, 0)) := by subst hW; exact setRow_blk (blk_new w5 _) _
      have hb2 : Below w5.heap.size w5 W5 := by subst hW; exact bl_row _ _ (Nat.le_refl _) (bl_alloc (Below.refl _ _) _)
      have q7 := blk_lt k7
      have hs5 := hw5.size
      have hb3 := bl_call hb2 hw5
      replace k6 := grow_blk hb3 k6
      replace k7 := grow_blk hb3 k7
      replace HB := bl_call hb3 HB
      obtain ⟨g10, hg10⟩ : ∃ g, g = w5.heap.size := ⟨_, rfl⟩
      rw [← hg10] at k10 ⊢
      have m10 : w.heap.size + 1 < g10 := by omega
      clear hW hb2 hb3 hw5 hg10 hs5 q7 hr
      go_upto_region 8 with (fail)
      go_wp2_with fail
      have HB0 := HB
      have k60 := k6
      have k100 := k10
      have k70 : W5.heap[w.heap.size + 1]? = some (.cells (cw (xorAt ok uk 0)) 33 (0, 0)) := by rw [xorAt_zero _ _ LOk.out]; exact k7
      clear HB k6 k7 k10
      go_loopw [11] (fun i wr => ∃ j : Nat, j ≤ 8 ∧ i = .int .i64 (j : Int) ∧ Below w.heap.size w wr ∧ wr.heap[w.heap.size]? = some (.cells (Array.replicate 8 (.int .u32 0)) 33 (0, 0)) ∧ wr.heap[w.heap.size + 1]? = some (.cells (cw (xorAt ok uk j)) 33 (0, 0)) ∧ wr.heap[g10]? = some (.cells (cw uk) 33 (0, 0))) (fun i _ => 8 - (intOf i).toNat)
      case atStart => exact ⟨0, by omega, rfl, HB0, k60, k70, k100⟩
      case round =>
        clear HB0 k60 k70 k100
        obtain ⟨j, hj, rfl, HB, k6, k7, k10⟩ := hrel
        have pj : (0 : Int) ≤ (j : Int) := by omega
        by_cases hlj : j < 8
        · have hlj' : (j : Int) < 8 := by omega
          have c10 := blk_cell k10 j
          rw [cw_at _ _ (by rw [LUk.out]; exact hlj)] at c10
          have c7 := blk_cell k7 j
          rw [cw_at _ _ (by rw [xorAt_length]; exact hlj)] at c7
          go_upto_region 10 with (fail)
          refine wp_region_R 9 [7, 10, 11] (by kernel_rfl) (by kernel_rfl) (by kernel_rfl) (by kernel_rfl) ?_
          intro K_ ops_ hops_ hK
          replace hops_ := Lib.hid hops_
          apply Exists.intro
          intro R_ hb_
          simp only [↓baseR, ↓nthR_succ, ↓nthR_zero] at hb_
          simp only [List.take_succ_cons, List.take_zero, List.drop_succ_cons, List.drop_zero]
          repeat (first
            
            
            
            | (apply LexR_det (by rfl) (by rfl) (by rfl) (fun w1 hw1 hd1 => ?_) (fun _ hr_ => ?_); rotate_right 2; (go_simp; first | done | rfl | (rw [grow_cell hw1 c7]; focus ((try simp); first | done | rfl)) | (rw [grow_cell hw1 c10]; focus ((try simp); first | done | rfl))))
            | (apply LexR_box (by rfl) (by rfl) (by rfl) (fun w1 hw1 hd1 => ?_) (fun _ hr_ => ?_); rotate_right 2; (go_simp; first | done | rfl))
            | (apply LexR_bs (t := 60) (e := 36) (z := .agg #[.int .u32 0]) (ho := rfl) (by rfl) (by rfl) Try.underlying60 (by kernel_rfl) (by decide) (by decide) (fun _ => ?_) (fun _ => ?_) (fun _ => ?_) (fun _ hr_ => ?_); rotate_right 4; (go_simp; rfl); (exact ⟨rfl, rfl, rfl⟩); (simp only [List.map_cons, List.map_nil, List.flatMap_cons, List.flatMap_nil, Value.cells, List.cons_append, List.nil_append, List.append_nil]; rfl)))
          apply LexR_end
          refine hK _ _ ?_
          clear hK K_
          repeat clear hr_
          clear hb_ R_ hops_ ops_
          intro w1 hw1 hf1
          apply tailR (fun _ => ?_) (fun _ => ?_) ?_
          rotate_right 2
          · simp only [putAll, Act.put, List.setIfInBounds_toArray, List.set_cons_succ, List.set_cons_zero]; first | done | rfl
          · simp only [List.drop_succ_cons, List.drop_zero]; first | done | rfl
          simp [allFacts, contOf, Exp.putAt, Exp.fact, Exp.fresh, Exp.blk] at hf1
          clear hf1 c7 c10
          replace k6 := grow_blk hw1 k6
          replace k7 := grow_blk hw1 k7
          replace k10 := grow_blk hw1 k10
          replace HB := bl_call hw1 HB
          clear hw1
          have cs := blk_cell k7 j
          rw [cw_at _ _ (by rw [xorAt_length]; exact hlj)] at cs
          have fs := blk_frozen k7 j
          go_wp2_with fail
          go_roundw
          case measure => simp [intOf] <;> omega
          refine ⟨j + 1, by omega, congrArg (Value.int .i64) (by omega), bl_set _ _ (by simp <;> omega) HB, blk_far k6 (by simp <;> omega) _, ?_, blk_far k10 (by simp <;> omega) _⟩
          rw [← xorAt_set ok uk j hlj, ← cw_set]
          exact blk_set k7 j _
        · obtain rfl : j = 8 := by omega
          have hlj' : ¬ ((8 : Nat) : Int) < 8 := by omega
          rw [← hon1.out] at k7
          go_upto_region 11 with (fail)
          go_upto_region 5 with (first | (refine wpList_load_row rfl _ _ rfl g10 rfl 33 (cw uk) (0, 0) _ k10 Try.underlying33 rfl (by rw [cw_size, LUk.out]; kernel_rfl) ?_) | (go_at_call 18; refine (hB _).mono ?_; rintro e w9 ⟨g9, cap9, cur9, rfl, _, _, k9, t9, hb9⟩))
          replace k6 := grow_blk hb9 k6
          replace k7 := grow_blk hb9 k7
          replace HB := bl_call hb9 HB
          have hr : RowB w9 (.slice (some ⟨g9, 0, none⟩) 32 cap9) (ta (k + 1)) := by
            rw [htn1.out]
            have := RowB.block (bs := refBytes uk) (cap := cap9) k9 (by rw [LB.out]; exact t9)
            rwa [LB.out] at this
          clear hb9 k9 t9 k10 hB
          go_wp2_with fail
          have hlt := hlt.out
          refine ⟨⟨k + 1, by omega, congrArg (Value.int .i64) (by omega), HB, k6, by rw [hou.out]; exact k7, hr⟩, by simp [intOf]; omega⟩
    · obtain rfl : k = m + 1 := by omega
      have hlt' : ¬ ((m + 1 : Nat) : Int) < n := by have := hn1.out; omega
      have hlt2 : ¬ (m : Int) + 1 < n := by have := hn1.out; omega
      have L8 := Lib.hid (LO.out (m + 1))
      go_upto_region 12 with (fail)
      refine wp_region_lit ?_
      refine wpList_load_row rfl _ _ rfl (w.heap.size + 1) rfl 33 (cw (ou (m + 1))) (0, 0) _ k7 Try.underlying33 rfl (by rw [cw_size, L8.out]; kernel_rfl) ?_
      refine wpList_store_row rfl _ _ _ rfl w.heap.size (cw (ou (m + 1))) rfl rfl 33 _ k6 (by rw [cw_size, L8.out]; kernel_rfl) (by rw [cw_size, L8.out]; rfl) (cw_one _) ?_
      refine gen_list fun W2 hW => ?_
      replace k6 : W2.heap[w.heap.size]? = some (.cells (cw (ou (m + 1))) 33 (0, 0)) := by subst hW; exact setRow_blk k6 _
      replace HB : Below w.heap.size w W2 := by subst hW; exact bl_row _ _ (by omega) HB
      clear hW k7
      go_wp2
      exact bodyPost_ret (v := .agg (cw (ou (m + 1)))) (results_cell_row Try.results26 _ _ w.heap.size 33 (cw (ou (m + 1))) (0, 0) _ rfl k6 Try.underlying33 rfl (by rw [cw_size, L8.out]; kernel_rfl)) rfl ⟨rfl, HB⟩
end Go.Proofs.Ytpcpdgkkjkkklaa

/- Reference 44: Runs. -/
import Derived.Test.YtcophjjjkonpjaaDoorUj
namespace Go.Proofs.YtcophjjjkonpjaaDoor
open Go.RowKit
set_option maxRecDepth 100000
set_option linter.unusedSimpArgs false
set_option linter.unusedVariables false
attribute [local go_sem] evR_tmp evR_const evR_global evR_func
theorem own_form6 {w : World} {base : Nat} {e : TypeId} {size : Nat} {sv : Value} {n : Nat} {xs : List Value} (h : w.ownsRow base e size sv n xs) : ∃ ao cap, sv = .slice ao n cap := by
  rcases h.2 with ⟨rfl, rfl⟩ | ⟨g, cap, _, rfl, _⟩
  · exact ⟨none, 0, rfl⟩
  · exact ⟨_, cap, rfl⟩
set_option maxHeartbeats 4000000 in
theorem rRuns_c (a : List Evt) (va : Value) (w : World) (ha : RowE w va a) (la : a.length ≤ 100000) : Calls Tryd.prog 15 #[va] w fun e w' => (∃ ao cap, e = .returned (.slice ao (runsL a).length cap) ∧ w'.ownsRow w.heap.size 49 5 (.slice ao (runsL a).length cap) (runsL a).length ((runsL a).flatMap rc)) ∧ Below w.heap.size w w' := by
  have hrow := Lib.hid ha
  obtain ⟨aa, ca, rfl, ca3⟩ := ha
  replace ca3 := Lib.hid ca3
  have hO0 : w.ownsRow w.heap.size 49 5 (.slice none 0 0) (([] : List Rn).length) (([] : List Rn).flatMap rc) := World.ownsRow_nil _ _ _ _
  have hch0 : runsL a = [] ++ runsL (a.drop 0) := rfl
  go_enter Tryd.func15, Tryd.ntmps15
  go_wp2_with fail
  go_loopw [4, 3] (fun i sv wr => ∃ (j : Nat) (acc : List Rn), j ≤ a.length ∧ i = .int .i64 (j : Int) ∧ acc.length ≤ j ∧ runsL a = acc ++ runsL (a.drop j) ∧ Below w.heap.size w wr ∧ wr.ownsRow w.heap.size 49 5 sv acc.length (acc.flatMap rc)) (fun i _ _ => a.length - (RowKit.intOf i).toNat)
  case atStart => exact ⟨0, [], by omega, rfl, by simp, hch0, Below.refl _ _, hO0⟩
  case round =>
    clear hO0 hch0
    obtain ⟨j, acc, hj, rfl, hal, hch, HB, HO⟩ := hrel
    obtain ⟨ao, cap, rfl⟩ := own_form6 HO
    replace hch := Lib.hid hch
    by_cases hlt : j < a.length
    · have hlt' : (j : Int) < (a.length : Int) := by omega
      have j0 : (0 : Int) ≤ (j : Int) := by omega
      obtain ⟨e, he⟩ : ∃ e, e = a[j] := ⟨_, rfl⟩
      obtain ⟨m, hm⟩ : ∃ m, m = ext e (stepOf e (a.drop (j + 1))) (a.drop (j + 1)) := ⟨_, rfl⟩
      have hL := Longest_c a aa ca wr (hrow.out.grow HB) la j hlt
      have hN : runN a[j] (a.drop (j + 1)) = m + 1 := by rw [hm, he]; rfl
      rw [hN] at hL
      have hml : m ≤ a.length - (j + 1) := by
        have := ext_le e (stepOf e (a.drop (j + 1))) (a.drop (j + 1))
        rw [List.length_drop, ← hm] at this
        exact this
      have hr : runsL (a.drop j) = ⟨e.k, e.i, stepOf e (a.drop (j + 1)), (m : Int) + 1, e.v⟩ :: runsL (a.drop (j + (m + 1))) := by
        rw [List.drop_eq_getElem_cons hlt, runsL, ← he, ← hm, List.drop_drop]
        congr 3
        omega
      have hz := ext_zero e (a.drop (j + 1))
      have hpz : 0 < m → ∃ h : j + 1 < a.length, stepOf e (a.drop (j + 1)) = far e a[j + 1] := fun h => by
        have h1 : j + 1 < a.length := by omega
        refine ⟨h1, ?_⟩
        have hdr := List.drop_eq_getElem_cons h1
        have hm2 := hm
        rw [hdr] at hm2 ⊢
        exact (ext_pos e a[j + 1] _ (by omega)).2
      rw [← hm] at hz
      obtain ⟨st, hst⟩ : ∃ st, st = stepOf e (a.drop (j + 1)) := ⟨_, rfl⟩
      rw [← hst] at hr hz hpz
      obtain ⟨g, off, hg, c0, c1, c2⟩ := ca3.out j hlt
      cases hg
      rw [← he] at c0 c1 c2
      replace hL := Lib.hid hL
      replace hr := Lib.hid hr
      replace he := Lib.hid he
      replace hz := Lib.hid hz
      replace hpz := Lib.hid hpz
      have hcn : (((m + 1 : Nat)) : Int) = (m : Int) + 1 := by omega
      clear hN hm hst hrow
      go_upto_region 5 with (go_at_call 27; refine hL.out.mono ?_; rintro x w5 ⟨rfl, hb5⟩)
      have HB5 := bl_call hb5 HB
      have HO5 : w5.ownsRow w.heap.size 49 5 (.slice ao acc.length cap) acc.length (acc.flatMap rc) := ownsRow_block HO fun g hg => hb5.block g (ownsRow_lt HO hg).2
      replace c0 := grow_cell HB5 c0
      replace c1 := grow_cell HB5 c1
      replace c2 := grow_cell HB5 c2
      clear hL hb5 HB HO
      refine wp_region_R 18 [0, 4, 5] (by kernel_rfl) (by kernel_rfl) (by kernel_rfl) (by kernel_rfl) ?_
      intro K_ ops_ hops_ hK
      replace hops_ := Lib.hid hops_
      apply Exists.intro
      intro R_ hb_
      simp only [↓baseR, ↓nthR_succ, ↓nthR_zero] at hb_
      simp only [List.take_succ_cons, List.take_zero, List.drop_succ_cons, List.drop_zero]
      repeat (first
        
        
        
        | (apply LexR_det (by rfl) (by rfl) (by rfl) (fun w1 hw1 hd1 => ?_) (fun _ hr_ => ?_); rotate_right 2; (go_simp; first | done | rfl | (rw [grow_cell hw1 c0]; focus ((try simp); first | done | rfl)) | (rw [grow_cell hw1 c1]; focus ((try simp); first | done | rfl)) | (rw [grow_cell hw1 c2]; focus ((try simp); first | done | rfl))))
        | (apply LexR_box (by rfl) (by rfl) (by rfl) (fun w1 hw1 hd1 => ?_) (fun _ hr_ => ?_); rotate_right 2; (go_simp; first | done | rfl))
        )
      apply LexR_end
      refine hK _ _ ?_
      clear hK K_
      repeat clear hr_
      clear hb_ R_ hops_ ops_
      intro w1 hw1 hf1
      apply tailR (fun _ => ?_) (fun _ => ?_) ?_
      rotate_right 2
      · simp only [putAll, Act.put, List.setIfInBounds_toArray, List.set_cons_succ, List.set_cons_zero]; first | done | rfl
      · simp only [List.drop_succ_cons, List.drop_zero]; first | done | rfl
      simp [allFacts, contOf, Exp.putAt, Exp.fact, Exp.fresh, Exp.blk] at hf1
      obtain ⟨kV, hV⟩ := hf1
      obtain ⟨V, e_⟩ := name_blk kV
      subst e_
      have z0 : w1.cell? ⟨V, 0, none⟩ = some (.int .i64 0) := blk_cell kV 0
      have z1 : w1.cell? ⟨V, 1, none⟩ = some (.int .i64 0) := blk_cell kV 1
      have z2 : w1.cell? ⟨V, 2, none⟩ = some (.int .i64 0) := blk_cell kV 2
      have z3 : w1.cell? ⟨V, 3, none⟩ = some (.int .i64 0) := blk_cell kV 3
      have z4 : w1.cell? ⟨V, 4, none⟩ = some (.int .u32 0) := blk_cell kV 4
      have y0 := blk_frozen kV 0
      have y1 := blk_frozen kV 1
      have y2 := blk_frozen kV 2
      have y3 := blk_frozen kV 3
      have y4 := blk_frozen kV 4
      have hw5 : w.heap.size ≤ w5.heap.size := HB5.size
      have hVn : ∀ g, (Value.slice ao acc.length cap).ownBlock = some g → g ≠ V := fun g hg => by have := (ownsRow_lt HO5 hg).2; omega
      go_upto_region 6 with fail
      refine gen_world fun W2 hW => ?_
      have kV2 : W2.heap[V]? = some (.cells #[.int .i64 e.k, .int .i64 e.i, .int .i64 0, .int .i64 ((m : Int) + 1), .int .u32 e.v] 49 (0, 0)) := by rw [hW]; exact blk_set (blk_set (blk_set (blk_set (blk_set kV 0 _) 1 _) 2 _) 3 _) 4 _
      have hb2 : Below w5.heap.size w5 W2 := by rw [hW]; exact bl_set _ _ hV (bl_set _ _ hV (bl_set _ _ hV (bl_set _ _ hV (bl_set _ _ hV hw1))))
      clear hW kV z0 z1 z2 z3 z4 y0 y1 y2 y3 y4 hw1
      have HB2 := bl_call hb2 HB5
      have HO2 : W2.ownsRow w.heap.size 49 5 (.slice ao acc.length cap) acc.length (acc.flatMap rc) := ownsRow_block HO5 fun g hg => hb2.block g (ownsRow_lt HO5 hg).2
      replace c1 := grow_cell hb2 c1
      clear c0 c2 hb2 HB5 HO5
      by_cases hm0 : m = 0
      · have hst0 := hz.out hm0
        have m1 : ¬ (1 : Int) < (m : Int) + 1 := by omega
        have m2 : decide ((1 : Int) < (m : Int) + 1) = false := decide_eq_false m1
        rw [← hst0] at kV2
        replace hst0 := Lib.hid hst0
        replace hm0 := Lib.hid hm0
        clear c1
        go_upto_region 8 with fail
        have t0 : W2.cell? ⟨V, 0, none⟩ = some (.int .i64 e.k) := blk_cell kV2 0
        have t1 : W2.cell? ⟨V, 1, none⟩ = some (.int .i64 e.i) := blk_cell kV2 1
        have t2 : W2.cell? ⟨V, 2, none⟩ = some (.int .i64 st) := blk_cell kV2 2
        have t3 : W2.cell? ⟨V, 3, none⟩ = some (.int .i64 ((m : Int) + 1)) := blk_cell kV2 3
        have t4 : W2.cell? ⟨V, 4, none⟩ = some (.int .u32 e.v) := blk_cell kV2 4
        have HB := HB2
        have HO := HO2
        clear kV2
        go_wp2_with (refine wpList_appS rfl _ _ 34 rfl w.heap.size 49 (.agg #[.int .i64 0, .int .i64 0, .int .i64 0, .int .i64 0, .int .u32 0]) 5 40 Tryd.underlying34 (by kernel_rfl) rfl (by decide) (by decide) _ _ _ rfl (ownsRow_block HO fun g hg => heap_alloc_old _ _ (ownsRow_lt HO hg).2) _ 1 (rc ⟨e.k, e.i, st, (m : Int) + 1, e.v⟩) rfl rfl (fun q u hq => (blk_cell (blk_new _ _) q).trans (by simpa [rc] using hq)) (by simp [rc, Value.oneCell']) (by omega) (by have := HB.size; simp; omega) ?_; intro g4 cap4 w4 HO4 hg4 hsv4 hlt4; replace HB := grown_below (bl_alloc HB _) hg4 (by have := HB.size; simp; omega) (fun g hg => (ownsRow_lt HO hg).1); replace HO := HO4; clear hg4 HO4 hsv4 hlt4)
        go_roundw
        case measure => simp [RowKit.intOf] <;> omega
        refine ⟨j + (m + 1), acc ++ [⟨e.k, e.i, st, (m : Int) + 1, e.v⟩], by omega, congrArg (Value.int .i64) (by omega), by simp; omega, by rw [hch.out, hr.out, List.append_assoc]; rfl, HB, ?_⟩
        rw [List.length_append, List.flatMap_append]
        simpa using HO
      obtain ⟨h1, hs1⟩ := hpz.out (by omega)
      obtain ⟨g4, off4, hg4, d0, d1, d2⟩ := ca3.out (j + 1) h1
      cases hg4
      replace d1 := grow_cell HB2 d1
      have m1 : (1 : Int) < (m : Int) + 1 := by omega
      have m2 : decide ((1 : Int) < (m : Int) + 1) = true := decide_eq_true m1
      have jI1 : (j : Int) + 1 < (a.length : Int) := by omega
      have hjw : IntKind.i64.wrap ((j : Int) + 1) = (j : Int) + 1 := IntWalk.i64_in _ (by omega)
      have ij1 : ((j : Int) + 1).toNat = j + 1 := by omega
      have hsw : IntKind.i64.wrap (a[j + 1].i - e.i) = st := by rw [hs1]; exact IntWalk.i64_left _
      have v2 : W2.cell? ⟨V, 2, none⟩ = some (.int .i64 0) := blk_cell kV2 2
      have f2 := blk_frozen kV2 2
      replace hs1 := Lib.hid hs1
      clear d0 d2
      go_upto_region 7 with fail
      go_region
      go_upto_region 8 with fail
      refine gen_world fun W3 hW => ?_
      have kV3 : W3.heap[V]? = some (.cells #[.int .i64 e.k, .int .i64 e.i, .int .i64 st, .int .i64 ((m : Int) + 1), .int .u32 e.v] 49 (0, 0)) := by rw [hW]; exact blk_set kV2 2 _
      have HB3 : Below w.heap.size w W3 := by rw [hW]; exact bl_drew (bl_set _ _ (by simp; omega) HB2)
      have HO3 : W3.ownsRow w.heap.size 49 5 (.slice ao acc.length cap) acc.length (acc.flatMap rc) := by rw [hW]; exact ownsRow_block HO2 fun g hg => Below.heap_setCell _ _ _ g (hVn g hg)
      clear hW kV2 HB2 HO2 v2 f2 c1 d1
      have t0 : W3.cell? ⟨V, 0, none⟩ = some (.int .i64 e.k) := blk_cell kV3 0
      have t1 : W3.cell? ⟨V, 1, none⟩ = some (.int .i64 e.i) := blk_cell kV3 1
      have t2 : W3.cell? ⟨V, 2, none⟩ = some (.int .i64 st) := blk_cell kV3 2
      have t3 : W3.cell? ⟨V, 3, none⟩ = some (.int .i64 ((m : Int) + 1)) := blk_cell kV3 3
      have t4 : W3.cell? ⟨V, 4, none⟩ = some (.int .u32 e.v) := blk_cell kV3 4
      have HB := HB3
      have HO := HO3
      clear kV3
      go_wp2_with (refine wpList_appS rfl _ _ 34 rfl w.heap.size 49 (.agg #[.int .i64 0, .int .i64 0, .int .i64 0, .int .i64 0, .int .u32 0]) 5 40 Tryd.underlying34 (by kernel_rfl) rfl (by decide) (by decide) _ _ _ rfl (ownsRow_block HO fun g hg => heap_alloc_old _ _ (ownsRow_lt HO hg).2) _ 1 (rc ⟨e.k, e.i, st, (m : Int) + 1, e.v⟩) rfl rfl (fun q u hq => (blk_cell (blk_new _ _) q).trans (by simpa [rc] using hq)) (by simp [rc, Value.oneCell']) (by omega) (by have := HB.size; simp; omega) ?_; intro g4 cap4 w4 HO4 hg4 hsv4 hlt4; replace HB := grown_below (bl_alloc HB _) hg4 (by have := HB.size; simp; omega) (fun g hg => (ownsRow_lt HO hg).1); replace HO := HO4; clear hg4 HO4 hsv4 hlt4)
      go_roundw
      case measure => simp [RowKit.intOf] <;> omega
      refine ⟨j + (m + 1), acc ++ [⟨e.k, e.i, st, (m : Int) + 1, e.v⟩], by omega, congrArg (Value.int .i64) (by omega), by simp; omega, by rw [hch.out, hr.out, List.append_assoc]; rfl, HB, ?_⟩
      rw [List.length_append, List.flatMap_append]
      simpa using HO
    · obtain rfl : j = a.length := by omega
      have hlt' : ¬ (a.length : Int) < (a.length : Int) := by omega
      have hd : runsL a = acc := by
        have := hch.out
        rw [List.drop_eq_nil_of_le (Nat.le_refl _), runsL, List.append_nil] at this
        exact this
      replace hd := Lib.hid hd
      go_wp2_with fail
      exact bodyPost_ret (v := .slice ao acc.length cap) (by simp [results, Tryd.results15, go_sem]) rfl ⟨by rw [hd.out]; exact ⟨ao, cap, rfl, HO⟩, HB⟩
end Go.Proofs.YtcophjjjkonpjaaDoor

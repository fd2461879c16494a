/- Contracts of audit.Tally and Reach. -/
import Derived.Test.YtcophjjjkonpjaaDoorAu
namespace Go.Proofs.YtcophjjjkonpjaaDoor
open Go.RowKit
set_option maxRecDepth 100000
set_option linter.unusedSimpArgs false
set_option linter.unusedVariables false
/-- An event's kind, 0 if it has none. -/
def kd (e : Evt) : Nat := if 1 ≤ e.k ∧ e.k ≤ 5 then e.k.toNat else 0
def tl (es : List Evt) (c : Nat) : Nat := (es.filter fun e => kd e = c).length
def ti (es : List Evt) (c : Nat) : Value := .int .i64 ((tl es c : Nat) : Int)
def tallyV (es : List Evt) : Array Value := #[ti es 0, ti es 1, ti es 2, ti es 3, ti es 4, ti es 5]
theorem tl_snoc (es : List Evt) (e : Evt) (c : Nat) : tl (es ++ [e]) c = if kd e = c then tl es c + 1 else tl es c := by
  unfold tl
  rw [List.filter_append, List.length_append]
  by_cases h : kd e = c <;> simp [h]
theorem tl_le (es : List Evt) (c : Nat) : tl es c ≤ es.length := List.length_filter_le _ _
set_option maxHeartbeats 4000000 in
theorem Tally_c (a : List Evt) (va : Value) (w : World) (ha : RowE w va a) (la : a.length ≤ 1000000) : Calls Tryd.prog 8 #[va] w fun e w' => e = .returned (.agg (tallyV a)) ∧ Below w.heap.size w w' := by
  obtain ⟨aa, ca, rfl, ca3⟩ := ha
  replace ca3 := Lib.hid ca3
  go_enter Tryd.func8, Tryd.ntmps8
  go_upto_region 3 with fail
  refine gen_world fun W hW => ?_
  have k2 : W.heap[w.heap.size]? = some (.cells #[.int .i64 0, .int .i64 0, .int .i64 0, .int .i64 0, .int .i64 0, .int .i64 0] 29 (0, 0)) := by subst hW; (repeat (first | (with_reducible assumption) | ((with_reducible refine blk_new' ?_ _); (simp; done)) | ((with_reducible refine blk_alloc ?_ _)) | ((with_reducible refine blk_far ?_ ?_ _); (simp <;> omega))))
  have k3z : W.heap[w.heap.size + 1]? = some (.cells #[.int .i64 0, .int .i64 0, .int .i64 0, .int .i64 0, .int .i64 0, .int .i64 0] 29 (0, 0)) := by subst hW; (repeat (first | (with_reducible assumption) | ((with_reducible refine blk_new' ?_ _); (simp; done)) | ((with_reducible refine blk_alloc ?_ _)) | ((with_reducible refine blk_far ?_ ?_ _); (simp <;> omega))))
  have k3 : W.heap[w.heap.size + 1]? = some (.cells (tallyV (a.take 0)) 29 (0, 0)) := k3z
  have HB : Below w.heap.size w W := by subst hW; (repeat (first | exact Below.refl _ _ | (refine bl_alloc ?_ _) | (refine bl_drewN ?_ _) | (refine bl_drew ?_) | (refine bl_call (by assumption) ?_) | (refine bl_set _ _ (by simp <;> omega) ?_) | assumption))
  clear hW k3z
  have HB0 := HB
  have k20 := k2
  have k30 := k3
  clear HB k2 k3
  go_loopw [8] (fun i wr => ∃ j : Nat, j ≤ a.length ∧ i = .int .i64 (j : Int) ∧ Below w.heap.size w wr ∧ wr.heap[w.heap.size]? = some (.cells #[.int .i64 0, .int .i64 0, .int .i64 0, .int .i64 0, .int .i64 0, .int .i64 0] 29 (0, 0)) ∧ wr.heap[w.heap.size + 1]? = some (.cells (tallyV (a.take j)) 29 (0, 0))) (fun i _ => a.length - (RowKit.intOf i).toNat)
  case atStart => exact ⟨0, by omega, rfl, HB0, k20, k30⟩
  case round =>
    clear HB0 k20 k30
    obtain ⟨j, hj, rfl, HB, k2, k3⟩ := hrel
    by_cases hlt : j < a.length
    · have hlt' : (j : Int) < (a.length : Int) := by omega
      obtain ⟨g, off, rfl, c0, c1, c2⟩ := ca3.out j hlt
      replace c0 := grow_cell HB c0
      replace c1 := grow_cell HB c1
      replace c2 := grow_cell HB c2
      have hst := fun c => tl_snoc (a.take j) a[j] c
      have htk := List.take_succ_eq_append_getElem hlt
      obtain ⟨x, hx⟩ : ∃ x, x = a[j] := ⟨_, rfl⟩
      rw [← hx] at c0 c1 c2 htk
      simp only [← hx] at hst
      have hle := fun c => tl_le (a.take j) c
      have htl : (a.take j).length = j := by rw [List.length_take]; omega
      rw [htl] at hle
      simp only [← htk] at hst
      unfold tallyV ti at k3
      have n0 := hle 0
      have n1 := hle 1
      have n2 := hle 2
      have n3 := hle 3
      have n4 := hle 4
      have n5 := hle 5
      replace hst := Lib.hid hst
      replace htk := Lib.hid htk
      replace hx := Lib.hid hx
      clear hle htl
      go_upto_region 5 with fail
      refine gen_world fun W2 hW2 => ?_
      have ke : W2.heap[wr.heap.size]? = some (.cells #[.int .i64 x.k, .int .i64 x.i, .int .u32 x.v] 28 (0, 0)) := by subst hW2; exact blk_new _ _
      replace k2 : W2.heap[w.heap.size]? = some (.cells #[.int .i64 0, .int .i64 0, .int .i64 0, .int .i64 0, .int .i64 0, .int .i64 0] 29 (0, 0)) := by subst hW2; exact blk_alloc k2 _
      replace k3 : W2.heap[w.heap.size + 1]? = some (.cells #[.int .i64 ((tl (List.take j a) 0 : Nat) : Int), .int .i64 ((tl (List.take j a) 1 : Nat) : Int), .int .i64 ((tl (List.take j a) 2 : Nat) : Int), .int .i64 ((tl (List.take j a) 3 : Nat) : Int), .int .i64 ((tl (List.take j a) 4 : Nat) : Int), .int .i64 ((tl (List.take j a) 5 : Nat) : Int)] 29 (0, 0)) := by subst hW2; exact blk_alloc k3 _
      replace HB : Below w.heap.size w W2 := by subst hW2; exact bl_alloc HB _
      clear hW2 c0 c1 c2
      have t0 := blk_cell k3 0
      have t1 := blk_cell k3 1
      have t2 := blk_cell k3 2
      have t3 := blk_cell k3 3
      have t4 := blk_cell k3 4
      have t5 := blk_cell k3 5
      have f0 := blk_frozen k3 0
      have f1 := blk_frozen k3 1
      have f2 := blk_frozen k3 2
      have f3 := blk_frozen k3 3
      have f4 := blk_frozen k3 4
      have f5 := blk_frozen k3 5
      have e0 := blk_cell ke 0
      obtain ⟨xk, hxk⟩ : ∃ xk, xk = x.k := ⟨_, rfl⟩
      rw [← hxk] at e0
      have hkd : kd x = if 1 ≤ xk ∧ xk ≤ 5 then xk.toNat else 0 := by rw [kd, ← hxk]
      clear hxk ke
      rcases (show xk < 1 ∨ 5 < xk ∨ xk = 1 ∨ xk = 2 ∨ xk = 3 ∨ xk = 4 ∨ xk = 5 by omega) with hk | hk | rfl | rfl | rfl | rfl | rfl
      focus
        rw [if_neg (by omega)] at hkd
        replace hkd := Lib.hid hkd
        have hk' : ¬ 1 ≤ xk := by omega
        go_wp2_with fail
        refine ⟨⟨j + 1, by omega, congrArg (Value.int .i64) (by omega), bl_set _ _ (by simp) HB, blk_far k2 (by simp) _, ?_⟩, by simp [RowKit.intOf] <;> omega⟩
        have e : tallyV (a.take (j + 1)) = #[.int .i64 ((tl (List.take j a) 0 : Nat) : Int), .int .i64 ((tl (List.take j a) 1 : Nat) : Int), .int .i64 ((tl (List.take j a) 2 : Nat) : Int), .int .i64 ((tl (List.take j a) 3 : Nat) : Int), .int .i64 ((tl (List.take j a) 4 : Nat) : Int), .int .i64 ((tl (List.take j a) 5 : Nat) : Int)].setIfInBounds 0 (.int .i64 (((tl (List.take j a) 0 : Nat) : Int) + 1)) := by
          simp [tallyV, ti, hst.out, hkd.out]
        rw [e]
        exact blk_set k3 0 _
      focus
        rw [if_neg (by omega)] at hkd
        replace hkd := Lib.hid hkd
        have hk' : 1 ≤ xk := by omega
        have hk2 : ¬ xk ≤ 5 := by omega
        go_wp2_with fail
        refine ⟨⟨j + 1, by omega, congrArg (Value.int .i64) (by omega), bl_set _ _ (by simp) HB, blk_far k2 (by simp) _, ?_⟩, by simp [RowKit.intOf] <;> omega⟩
        have e : tallyV (a.take (j + 1)) = #[.int .i64 ((tl (List.take j a) 0 : Nat) : Int), .int .i64 ((tl (List.take j a) 1 : Nat) : Int), .int .i64 ((tl (List.take j a) 2 : Nat) : Int), .int .i64 ((tl (List.take j a) 3 : Nat) : Int), .int .i64 ((tl (List.take j a) 4 : Nat) : Int), .int .i64 ((tl (List.take j a) 5 : Nat) : Int)].setIfInBounds 0 (.int .i64 (((tl (List.take j a) 0 : Nat) : Int) + 1)) := by
          simp [tallyV, ti, hst.out, hkd.out]
        rw [e]
        exact blk_set k3 0 _
      focus
        replace hkd := Lib.hid (show kd x = 1 from hkd)
        go_wp2_with fail
        refine ⟨⟨j + 1, by omega, congrArg (Value.int .i64) (by omega), bl_set _ _ (by simp) HB, blk_far k2 (by simp) _, ?_⟩, by simp [RowKit.intOf] <;> omega⟩
        have e : tallyV (a.take (j + 1)) = #[.int .i64 ((tl (List.take j a) 0 : Nat) : Int), .int .i64 ((tl (List.take j a) 1 : Nat) : Int), .int .i64 ((tl (List.take j a) 2 : Nat) : Int), .int .i64 ((tl (List.take j a) 3 : Nat) : Int), .int .i64 ((tl (List.take j a) 4 : Nat) : Int), .int .i64 ((tl (List.take j a) 5 : Nat) : Int)].setIfInBounds 1 (.int .i64 (((tl (List.take j a) 1 : Nat) : Int) + 1)) := by
          simp [tallyV, ti, hst.out, hkd.out]
        rw [e]
        exact blk_set k3 1 _
      focus
        replace hkd := Lib.hid (show kd x = 2 from hkd)
        go_wp2_with fail
        refine ⟨⟨j + 1, by omega, congrArg (Value.int .i64) (by omega), bl_set _ _ (by simp) HB, blk_far k2 (by simp) _, ?_⟩, by simp [RowKit.intOf] <;> omega⟩
        have e : tallyV (a.take (j + 1)) = #[.int .i64 ((tl (List.take j a) 0 : Nat) : Int), .int .i64 ((tl (List.take j a) 1 : Nat) : Int), .int .i64 ((tl (List.take j a) 2 : Nat) : Int), .int .i64 ((tl (List.take j a) 3 : Nat) : Int), .int .i64 ((tl (List.take j a) 4 : Nat) : Int), .int .i64 ((tl (List.take j a) 5 : Nat) : Int)].setIfInBounds 2 (.int .i64 (((tl (List.take j a) 2 : Nat) : Int) + 1)) := by
          simp [tallyV, ti, hst.out, hkd.out]
        rw [e]
        exact blk_set k3 2 _
      focus
        replace hkd := Lib.hid (show kd x = 3 from hkd)
        go_wp2_with fail
        refine ⟨⟨j + 1, by omega, congrArg (Value.int .i64) (by omega), bl_set _ _ (by simp) HB, blk_far k2 (by simp) _, ?_⟩, by simp [RowKit.intOf] <;> omega⟩
        have e : tallyV (a.take (j + 1)) = #[.int .i64 ((tl (List.take j a) 0 : Nat) : Int), .int .i64 ((tl (List.take j a) 1 : Nat) : Int), .int .i64 ((tl (List.take j a) 2 : Nat) : Int), .int .i64 ((tl (List.take j a) 3 : Nat) : Int), .int .i64 ((tl (List.take j a) 4 : Nat) : Int), .int .i64 ((tl (List.take j a) 5 : Nat) : Int)].setIfInBounds 3 (.int .i64 (((tl (List.take j a) 3 : Nat) : Int) + 1)) := by
          simp [tallyV, ti, hst.out, hkd.out]
        rw [e]
        exact blk_set k3 3 _
      focus
        replace hkd := Lib.hid (show kd x = 4 from hkd)
        go_wp2_with fail
        refine ⟨⟨j + 1, by omega, congrArg (Value.int .i64) (by omega), bl_set _ _ (by simp) HB, blk_far k2 (by simp) _, ?_⟩, by simp [RowKit.intOf] <;> omega⟩
        have e : tallyV (a.take (j + 1)) = #[.int .i64 ((tl (List.take j a) 0 : Nat) : Int), .int .i64 ((tl (List.take j a) 1 : Nat) : Int), .int .i64 ((tl (List.take j a) 2 : Nat) : Int), .int .i64 ((tl (List.take j a) 3 : Nat) : Int), .int .i64 ((tl (List.take j a) 4 : Nat) : Int), .int .i64 ((tl (List.take j a) 5 : Nat) : Int)].setIfInBounds 4 (.int .i64 (((tl (List.take j a) 4 : Nat) : Int) + 1)) := by
          simp [tallyV, ti, hst.out, hkd.out]
        rw [e]
        exact blk_set k3 4 _
      focus
        replace hkd := Lib.hid (show kd x = 5 from hkd)
        go_wp2_with fail
        refine ⟨⟨j + 1, by omega, congrArg (Value.int .i64) (by omega), bl_set _ _ (by simp) HB, blk_far k2 (by simp) _, ?_⟩, by simp [RowKit.intOf] <;> omega⟩
        have e : tallyV (a.take (j + 1)) = #[.int .i64 ((tl (List.take j a) 0 : Nat) : Int), .int .i64 ((tl (List.take j a) 1 : Nat) : Int), .int .i64 ((tl (List.take j a) 2 : Nat) : Int), .int .i64 ((tl (List.take j a) 3 : Nat) : Int), .int .i64 ((tl (List.take j a) 4 : Nat) : Int), .int .i64 ((tl (List.take j a) 5 : Nat) : Int)].setIfInBounds 5 (.int .i64 (((tl (List.take j a) 5 : Nat) : Int) + 1)) := by
          simp [tallyV, ti, hst.out, hkd.out]
        rw [e]
        exact blk_set k3 5 _
    · obtain rfl : j = a.length := by omega
      have hlt' : ¬ (a.length : Int) < (a.length : Int) := by omega
      rw [List.take_of_length_le (Nat.le_refl _)] at k3
      unfold tallyV ti at k3
      have t0 := blk_cell k3 0
      have t1 := blk_cell k3 1
      have t2 := blk_cell k3 2
      have t3 := blk_cell k3 3
      have t4 := blk_cell k3 4
      have t5 := blk_cell k3 5
      have s0 := blk_cell k2 0
      have s1 := blk_cell k2 1
      have s2 := blk_cell k2 2
      have s3 := blk_cell k2 3
      have s4 := blk_cell k2 4
      have s5 := blk_cell k2 5
      have f0 := blk_frozen k2 0
      have f1 := blk_frozen k2 1
      have f2 := blk_frozen k2 2
      have f3 := blk_frozen k2 3
      have f4 := blk_frozen k2 4
      have f5 := blk_frozen k2 5
      go_wp2_with fail
      have kr := (blk_set (blk_set (blk_set (blk_set (blk_set (blk_set k2 0 (.int .i64 ((tl a 0 : Nat) : Int))) 1 (.int .i64 ((tl a 1 : Nat) : Int))) 2 (.int .i64 ((tl a 2 : Nat) : Int))) 3 (.int .i64 ((tl a 3 : Nat) : Int))) 4 (.int .i64 ((tl a 4 : Nat) : Int))) 5 (.int .i64 ((tl a 5 : Nat) : Int)))
      have HR : Below w.heap.size w (((((((wr).setCell ⟨w.heap.size, 0, none⟩ (.int .i64 ((tl a 0 : Nat) : Int))).setCell ⟨w.heap.size, 1, none⟩ (.int .i64 ((tl a 1 : Nat) : Int))).setCell ⟨w.heap.size, 2, none⟩ (.int .i64 ((tl a 2 : Nat) : Int))).setCell ⟨w.heap.size, 3, none⟩ (.int .i64 ((tl a 3 : Nat) : Int))).setCell ⟨w.heap.size, 4, none⟩ (.int .i64 ((tl a 4 : Nat) : Int))).setCell ⟨w.heap.size, 5, none⟩ (.int .i64 ((tl a 5 : Nat) : Int))) := bl_set _ _ (Nat.le_refl _) (bl_set _ _ (Nat.le_refl _) (bl_set _ _ (Nat.le_refl _) (bl_set _ _ (Nat.le_refl _) (bl_set _ _ (Nat.le_refl _) (bl_set _ _ (Nat.le_refl _) HB)))))
      revert kr HR
      generalize (((((((wr).setCell ⟨w.heap.size, 0, none⟩ (.int .i64 ((tl a 0 : Nat) : Int))).setCell ⟨w.heap.size, 1, none⟩ (.int .i64 ((tl a 1 : Nat) : Int))).setCell ⟨w.heap.size, 2, none⟩ (.int .i64 ((tl a 2 : Nat) : Int))).setCell ⟨w.heap.size, 3, none⟩ (.int .i64 ((tl a 3 : Nat) : Int))).setCell ⟨w.heap.size, 4, none⟩ (.int .i64 ((tl a 4 : Nat) : Int))).setCell ⟨w.heap.size, 5, none⟩ (.int .i64 ((tl a 5 : Nat) : Int))) = W4
      intro kr HR
      have r0 := blk_cell kr 0
      have r1 := blk_cell kr 1
      have r2 := blk_cell kr 2
      have r3 := blk_cell kr 3
      have r4 := blk_cell kr 4
      have r5 := blk_cell kr 5
      clear t0 t1 t2 t3 t4 t5 s0 s1 s2 s3 s4 s5 f0 f1 f2 f3 f4 f5
      simp only [List.setIfInBounds_toArray, List.set_cons_succ, List.set_cons_zero] at r0 r1 r2 r3 r4 r5
      exact bodyPost_ret (v := .agg (tallyV a)) (by simp [results, Tryd.results8, go_sem, r0, r1, r2, r3, r4, r5, tallyV, ti]) rfl ⟨rfl, HR⟩
end Go.Proofs.YtcophjjjkonpjaaDoor

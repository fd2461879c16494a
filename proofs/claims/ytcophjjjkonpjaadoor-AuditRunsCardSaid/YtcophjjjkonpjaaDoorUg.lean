/- The contract of law 44's same. -/
import Derived.Test.YtcophjjjkonpjaaDoorAz
namespace Go.Proofs.YtcophjjjkonpjaaDoor
open Go.RowKit
set_option maxRecDepth 100000
set_option linter.unusedSimpArgs false
set_option linter.unusedVariables false
theorem run_eql_rn (a b : Rn) (w : World) : (Op.equalIn 10000 49 (.agg #[.int .i64 a.k, .int .i64 a.i, .int .i64 a.s, .int .i64 a.c, .int .u32 a.v]) (.agg #[.int .i64 b.k, .int .i64 b.i, .int .i64 b.s, .int .i64 b.c, .int .u32 b.v])).run Tryd.prog w = .ok (decide (a = b)) w := by
  have hu := Tryd.underlying49
  go_simp
  obtain ⟨ak, ai, as_, ac, av⟩ := a
  obtain ⟨bk, bi, bs, bc, bv⟩ := b
  by_cases h0 : ak = bk <;> by_cases h1 : ai = bi <;> by_cases h2 : as_ = bs <;> by_cases h3 : ac = bc <;> by_cases h4 : av = bv <;> simp [h0, h1, h2, h3, h4]
theorem run_neq_rn (a b : Rn) (w : World) : (binOp .neq 49 (.agg #[.int .i64 a.k, .int .i64 a.i, .int .i64 a.s, .int .i64 a.c, .int .u32 a.v]) (.agg #[.int .i64 b.k, .int .i64 b.i, .int .i64 b.s, .int .i64 b.c, .int .u32 b.v])).run Tryd.prog w = .ok (.bool (!decide (a = b))) w := by
  rw [run_neq_struct, run_eql_rn a b w]
  rfl
set_option maxHeartbeats 4000000 in
theorem same_c (a b : List Rn) (va vb : Value) (w : World) (ha : RowN w va a) (hb : RowN w vb b) (la : a.length ≤ 1000000) (lb : b.length ≤ 1000000) : Calls Tryd.prog 12 #[va, vb] w fun e w' => e = .returned (.bool (decide (a = b))) ∧ Below w.heap.size w w' := by
  obtain ⟨aa, ca, rfl, ca3⟩ := ha
  obtain ⟨ab, cb, rfl, cb3⟩ := hb
  replace ca3 := Lib.hid ca3
  replace cb3 := Lib.hid cb3
  by_cases hl : a.length = b.length
  rotate_left
  · have hne : decide (a = b) = false := decide_eq_false (fun q => hl (by rw [q]))
    rw [hne]
    have q : ((a.length : Int) != (b.length : Int)) = true := bne_iff_ne.2 (by omega)
    have q2 : ¬ (a.length : Int) = (b.length : Int) := by omega
    clear hl hne
    go_enter Tryd.func12, Tryd.ntmps12
    go_wp2_with fail
    exact bodyPost_ret (v := .bool false) (by simp [results, Tryd.results12, go_sem]) rfl ⟨rfl, Below.refl _ _⟩
  obtain ⟨D, hD⟩ : ∃ D, D = decide (a = b) := ⟨_, rfl⟩
  rw [← hD, ← hl]
  replace hD := Lib.hid hD
  replace hl := Lib.hid hl
  go_enter Tryd.func12, Tryd.ntmps12
  go_wp2_with fail
  go_loopw [13] (fun i wr => ∃ j : Nat, j ≤ a.length ∧ i = .int .i64 (j : Int) ∧ a.take j = b.take j ∧ Below w.heap.size w wr) (fun i _ => a.length - (RowKit.intOf i).toNat)
  case atStart => exact ⟨0, by omega, rfl, rfl, Below.refl _ _⟩
  case round =>
    obtain ⟨j, hj, rfl, ht, HB⟩ := hrel
    replace ht := Lib.hid ht
    by_cases hlt : j < a.length
    · have h1 : j < a.length := by omega
      have h2 : j < b.length := by have := hl.out; omega
      have hla : (j : Int) < (a.length : Int) := by omega
      obtain ⟨g, off, rfl, c0, c1, c2, c3, c4⟩ := ca3.out j h1
      obtain ⟨g', off', rfl, d0, d1, d2, d3, d4⟩ := cb3.out j h2
      replace c0 := grow_cell HB c0
      replace c1 := grow_cell HB c1
      replace c2 := grow_cell HB c2
      replace c3 := grow_cell HB c3
      replace c4 := grow_cell HB c4
      replace d0 := grow_cell HB d0
      replace d1 := grow_cell HB d1
      replace d2 := grow_cell HB d2
      replace d3 := grow_cell HB d3
      replace d4 := grow_cell HB d4
      have hne := fun w => run_neq_rn a[j] b[j] w
      obtain ⟨x, hx⟩ : ∃ x, x = a[j] := ⟨_, rfl⟩
      obtain ⟨y, hy⟩ : ∃ y, y = b[j] := ⟨_, rfl⟩
      rw [← hx] at c0 c1 c2 c3 c4
      rw [← hy] at d0 d1 d2 d3 d4
      rw [← hx, ← hy] at hne
      replace hx := Lib.hid hx
      replace hy := Lib.hid hy
      by_cases he : x = y
      · have hd : decide (x = y) = true := by simp [he]
        rw [hd] at hne
        have ht2 : a.take (j + 1) = b.take (j + 1) := by
          rw [List.take_succ_eq_append_getElem h1, List.take_succ_eq_append_getElem h2, ht.out, ← hx.out, ← hy.out, he]
        replace ht2 := Lib.hid ht2
        replace he := Lib.hid he
        clear hd
        go_upto_region 6 with fail
        go_region
        go_wp2_with fail
        exact ⟨⟨j + 1, by omega, congrArg (Value.int .i64) (by omega), ht2.out, bl_drew HB⟩, by simp [RowKit.intOf] <;> omega⟩
      · have hd : decide (x = y) = false := by simp [he]
        rw [hd] at hne
        have hD0 : D = false := by
          rw [hD.out]
          refine decide_eq_false fun q => he ?_
          rw [hx.out, hy.out]
          simp only [q]
        replace hD0 := Lib.hid hD0
        replace he := Lib.hid he
        clear hd
        go_upto_region 6 with fail
        go_region
        go_wp2_with fail
        exact bodyPost_ret (v := .bool false) (by simp [results, Tryd.results12, go_sem]) rfl ⟨by rw [hD0.out], bl_drew HB⟩
    · obtain rfl : j = a.length := by omega
      have hlt' : ¬ (a.length : Int) < (a.length : Int) := by omega
      have hD1 : D = true := by
        rw [hD.out]
        refine decide_eq_true ?_
        have e := ht.out
        have := hl.out
        rw [List.take_of_length_le (by omega), List.take_of_length_le (by omega)] at e
        exact e
      replace hD1 := Lib.hid hD1
      go_wp2_with fail
      exact bodyPost_ret (v := .bool true) (by simp [results, Tryd.results12, go_sem]) rfl ⟨by rw [hD1.out], HB⟩
end Go.Proofs.YtcophjjjkonpjaaDoor

/- Contracts of audit.Differ, Tally, Reach. -/
import Derived.Test.YtcophjjjkonpjaaDoorEv
namespace Go.Proofs.YtcophjjjkonpjaaDoor
open Go.RowKit
set_option maxRecDepth 100000
set_option linter.unusedSimpArgs false
set_option linter.unusedVariables false
theorem run_eql_ev (a b : Evt) (w : World) : (Op.equalIn 10000 28 (ev a) (ev b)).run Tryd.prog w = .ok (decide (a = b)) w := by
  have hu := Tryd.underlying28
  unfold ev
  go_simp
  obtain ⟨ak, ai, av⟩ := a
  obtain ⟨bk, bi, bv⟩ := b
  by_cases h0 : ak = bk <;> by_cases h1 : ai = bi <;> by_cases h2 : av = bv <;> simp [h0, h1, h2]
theorem run_neq_ev (a b : Evt) (w : World) : (binOp .neq 28 (.agg #[.int .i64 a.k, .int .i64 a.i, .int .u32 a.v]) (.agg #[.int .i64 b.k, .int .i64 b.i, .int .u32 b.v])).run Tryd.prog w = .ok (.bool (!decide (a = b))) w := by
  rw [run_neq_struct]
  have := run_eql_ev a b w
  unfold ev at this
  rw [this]
  rfl
/-- What Differ may answer. -/
def Diff (a b : List Evt) (n : Nat) (u : Bool) : Prop := (u = false ∧ n = 0 ∧ a = b) ∨ (u = true ∧ n ≤ a.length ∧ n ≤ b.length ∧ a.take n = b.take n ∧ ∀ (h : n < a.length) (h' : n < b.length), a[n] ≠ b[n])
def DiffR (a b : List Evt) (e : Ending) : Prop := ∃ (n : Nat) (u : Bool), e = .returned (.tuple #[.int .i64 (n : Int), .bool u]) ∧ Diff a b n u
set_option maxHeartbeats 4000000 in
theorem Differ_c (a b : List Evt) (va vb : Value) (w : World) (ha : RowE w va a) (hb : RowE w vb b) (la : a.length ≤ 1000000) (lb : b.length ≤ 1000000) : Calls Tryd.prog 7 #[va, vb] w fun e w' => DiffR a b e ∧ Below w.heap.size w w' := by
  obtain ⟨aa, ca, rfl, ca3⟩ := ha
  obtain ⟨ab, cb, rfl, cb3⟩ := hb
  replace ca3 := Lib.hid ca3
  replace cb3 := Lib.hid cb3
  obtain ⟨m, hm⟩ : ∃ m, m = min a.length b.length := ⟨_, rfl⟩
  have hmi : (if b.length < a.length then (b.length : Int) else (a.length : Int)) = (m : Int) := by rw [hm]; split <;> omega
  have hma : m ≤ a.length := by omega
  have hmb : m ≤ b.length := by omega
  replace hm := Lib.hid hm
  have ml : m ≤ 1000000 := by omega
  go_enter Tryd.func7, Tryd.ntmps7
  go_wp2_with fail
  go_loopw [14] (fun i wr => ∃ j : Nat, j ≤ m ∧ i = .int .i64 (j : Int) ∧ a.take j = b.take j ∧ Below w.heap.size w wr) (fun i _ => m - (RowKit.intOf i).toNat)
  case atStart => exact ⟨0, by omega, rfl, rfl, Below.refl _ _⟩
  case round =>
    obtain ⟨j, hj, rfl, ht, HB⟩ := hrel
    replace ht := Lib.hid ht
    by_cases hlt : j < m
    · have h1 : j < a.length := by omega
      have h2 : j < b.length := by omega
      have hlt' : (j : Int) < (m : Int) := by omega
      have hla : (j : Int) < (a.length : Int) := by omega
      have hlb : (j : Int) < (b.length : Int) := by omega
      obtain ⟨g, off, rfl, c0, c1, c2⟩ := ca3.out j h1
      obtain ⟨g', off', rfl, d0, d1, d2⟩ := cb3.out j h2
      replace c0 := grow_cell HB c0
      replace c1 := grow_cell HB c1
      replace c2 := grow_cell HB c2
      replace d0 := grow_cell HB d0
      replace d1 := grow_cell HB d1
      replace d2 := grow_cell HB d2
      have hne := fun w => run_neq_ev a[j] b[j] w
      obtain ⟨x, hx⟩ : ∃ x, x = a[j] := ⟨_, rfl⟩
      obtain ⟨y, hy⟩ : ∃ y, y = b[j] := ⟨_, rfl⟩
      rw [← hx] at c0 c1 c2
      rw [← hy] at d0 d1 d2
      rw [← hx, ← hy] at hne
      replace hx := Lib.hid hx
      replace hy := Lib.hid hy
      by_cases he : x = y
      · have hd : decide (x = y) = true := by simp [he]
        rw [hd] at hne
        have ht2 : a.take (j + 1) = b.take (j + 1) := by
          rw [List.take_succ_eq_append_getElem h1, List.take_succ_eq_append_getElem h2, ht.out, ← hx.out, ← hy.out, he]
        replace ht2 := Lib.hid ht2
        replace he := Lib.hid he
        clear hd
        go_upto_region 5 with fail
        go_region
        go_wp2_with fail
        exact ⟨⟨j + 1, by omega, congrArg (Value.int .i64) (by omega), ht2.out, bl_drew HB⟩, by simp [RowKit.intOf] <;> omega⟩
      · have hd : decide (x = y) = false := by simp [he]
        rw [hd] at hne
        have hD : Diff a b j true := .inr ⟨rfl, by omega, by omega, ht.out, fun h h' => by rw [← hx.out, ← hy.out]; exact he⟩
        replace he := Lib.hid he
        clear hd
        go_upto_region 5 with fail
        go_region
        go_wp2_with fail
        exact bodyPost_ret (v := .tuple #[.int .i64 (j : Int), .bool true]) (by simp [results, Tryd.results7, go_sem]) rfl ⟨⟨j, true, rfl, hD⟩, bl_drew HB⟩
    · obtain rfl : j = m := by omega
      have hlt' : ¬ (j : Int) < (j : Int) := by omega
      by_cases hl : a.length = b.length
      · have hD : Diff a b 0 false := .inl ⟨rfl, rfl, by
          have e := ht.out
          have := hm.out
          rw [List.take_of_length_le (by omega), List.take_of_length_le (by omega)] at e
          exact e⟩
        have q : ((a.length : Int) != (b.length : Int)) = false := by simp; omega
        have q2 : (a.length : Int) = (b.length : Int) := by omega
        replace hl := Lib.hid hl
        go_wp2_with fail
        exact bodyPost_ret (v := .tuple #[.int .i64 0, .bool false]) (by simp [results, Tryd.results7, go_sem]) rfl ⟨⟨0, false, rfl, hD⟩, HB⟩
      · have hD : Diff a b j true := .inr ⟨rfl, by omega, by omega, ht.out, fun h h' => by have := hm.out; omega⟩
        have q : ((a.length : Int) != (b.length : Int)) = true := by simp; omega
        have q2 : ¬ (a.length : Int) = (b.length : Int) := by omega
        go_wp2_with fail
        exact bodyPost_ret (v := .tuple #[.int .i64 (j : Int), .bool true]) (by simp [results, Tryd.results7, go_sem]) rfl ⟨⟨j, true, rfl, hD⟩, HB⟩
end Go.Proofs.YtcophjjjkonpjaaDoor

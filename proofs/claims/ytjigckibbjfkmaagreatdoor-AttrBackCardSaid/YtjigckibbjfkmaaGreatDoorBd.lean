/- The contract of base64.quads. -/
import Derived.Test.YtjigckibbjfkmaaGreatDoorBc
namespace Go.Proofs.YtjigckibbjfkmaaGreatDoor
open Go.RowKit Go.Lib
set_option maxRecDepth 100000
set_option linter.unusedSimpArgs false
set_option linter.unusedVariables false
/-- A sign's number, below 0 if it is none. -/
def ixI (c : UInt8) : Int := match un c with
  | some n => (n : Int)
  | none => -1
theorem ixI_is (c : UInt8) : Lib.indexByte sgB.data.toList c = ixI c := by
  have h : ∀ x : Fin 256, Lib.indexByte sgB.data.toList (UInt8.ofNat x.val) = ixI (UInt8.ofNat x.val) := by decide +kernel
  have := h ⟨c.toNat, c.toNat_lt⟩
  simpa using this
theorem IB_c (c : UInt8) (w : World) : Calls Tryz.prog 50 #[.string sgB, .int .u8 (c.toNat : Int)] w fun e w' => e = .returned (.int .i64 (ixI c)) ∧ w' = w := by
  refine (Tryz.strings_IndexByte sgB (c.toNat : Int) w).mono fun e w' ⟨h1, h2⟩ => ⟨?_, h2⟩
  rw [h1, show ((c.toNat : Int).toNat.toUInt8) = c by simp, ixI_is]
theorem or6i (N b : Nat) (hN : N < 36028797018963968) (hb : b < 64) : bits .or .i64 ((N : Int) * 64) (b : Int) = ((N * 64 + b : Nat) : Int) := by
  have h := Nat.shiftLeft_add_eq_or_of_lt (i := 6) (b := b) (by simpa using hb) N
  rw [Nat.shiftLeft_eq] at h
  have e : (BitVec.ofInt 64 ((N : Int) * 64) ||| BitVec.ofInt 64 (b : Int)).toNat = N * 64 + b := by
    have h1 : (BitVec.ofInt 64 ((N : Int) * 64)).toNat = N * 64 := by rw [BitVec.toNat_ofInt]; omega
    have h2 : (BitVec.ofInt 64 (b : Int)).toNat = b := by rw [BitVec.toNat_ofInt]; omega
    rw [BitVec.toNat_or, h1, h2]
    exact h.symm
  show IntKind.i64.wrap ((BitVec.ofInt 64 ((N : Int) * 64) ||| BitVec.ofInt 64 (b : Int)).toNat : Nat) = _
  rw [e, IntKind.wrap_i64]
  omega
theorem oq0 (x : Nat) (hx : x < 64) : bits .or .i64 0 (x : Int) = (x : Int) := by
  have := or6i 0 x (by decide) hx
  simpa using this
theorem oq1 (x y : Nat) (hx : x < 64) (hy : y < 64) : bits .or .i64 ((x : Int) * 64) (y : Int) = (x : Int) * 64 + (y : Int) := by rw [or6i _ _ (by omega) hy]; omega
theorem oq2 (x y z : Nat) (hx : x < 64) (hy : y < 64) (hz : z < 64) : bits .or .i64 (((x : Int) * 64 + (y : Int)) * 64) (z : Int) = ((x : Int) * 64 + (y : Int)) * 64 + (z : Int) := by
  have e : ((x : Int) * 64 + (y : Int)) * 64 = ((x * 64 + y : Nat) : Int) * 64 := by omega
  rw [e, or6i _ _ (by omega) hz]; omega
theorem oq3 (x y z u : Nat) (hx : x < 64) (hy : y < 64) (hz : z < 64) (hu : u < 64) : bits .or .i64 ((((x : Int) * 64 + (y : Int)) * 64 + (z : Int)) * 64) (u : Int) = (((x : Int) * 64 + (y : Int)) * 64 + (z : Int)) * 64 + (u : Int) := by
  have e : (((x : Int) * 64 + (y : Int)) * 64 + (z : Int)) * 64 = (((x * 64 + y) * 64 + z : Nat) : Int) * 64 := by omega
  rw [e, or6i _ _ (by omega) hu]; omega
theorem and_65535 (n : Int) : bits .and .i64 n 65535 = n % 65536 := and_pow n 16 (by decide)
theorem and_255 (n : Int) : bits .and .i64 n 255 = n % 256 := and_pow n 8 (by decide)
theorem and_0 (n : Int) : bits .and .i64 n 0 = 0 := by have := and_pow n 0 (by decide); simpa [Int.emod_one] using this
attribute [local go_sem] and_65535 and_255 and_0
theorem ix_c (S : ByteArray) (i : Int) (k : Nat) (c : UInt8) (hi : i = (k : Int)) (h : k < S.size) (hc : c = S[k]'h) (w : World) : (Instr.index 9 (.string S) (.int .i64 i)).run Tryz.prog w = .ok (.int .u8 (c.toNat : Int)) w := by
  subst hi hc
  have r : (k : Int) < (S.size : Int) := by omega
  go_simp
/-- What four signs are: a number, and how many bytes; 0: none. -/
def qv (n : Nat) (a b c d : UInt8) : Value := match (if n = 0 then none else quadN n a b c d) with
  | some v => .tuple #[.int .i64 (v : Int), .int .i64 (n : Int)]
  | none => .tuple #[.int .i64 0, .int .i64 0]
set_option maxHeartbeats 8000000 in
theorem quads3f_c (S : ByteArray) (h4 : S.size = 4) (w : World) : Calls Tryz.prog 97 #[.string S, .bool false] w fun e w' => e = .returned (qv 3 (S[0]'(by omega)) (S[1]'(by omega)) (S[2]'(by omega)) (S[3]'(by omega))) ∧ w' = w := by
  have a0 : 0 < S.size := by omega
  have a1 : 1 < S.size := by omega
  have a2 : 2 < S.size := by omega
  have a3 : 3 < S.size := by omega
  obtain ⟨c0, hc0⟩ : ∃ c, c = S[0] := ⟨_, rfl⟩
  obtain ⟨c1, hc1⟩ : ∃ c, c = S[1] := ⟨_, rfl⟩
  obtain ⟨c2, hc2⟩ : ∃ c, c = S[2] := ⟨_, rfl⟩
  obtain ⟨c3, hc3⟩ : ∃ c, c = S[3] := ⟨_, rfl⟩
  have i0 := fun w => ix_c S 0 0 c0 rfl a0 hc0 w
  have i1 := fun w => ix_c S 1 1 c1 rfl a1 hc1 w
  have i2 := fun w => ix_c S 2 2 c2 rfl a2 hc2 w
  have i3 := fun w => ix_c S 3 3 c3 rfl a3 hc3 w
  rw [← hc0, ← hc1, ← hc2, ← hc3]
  have hsz : (S.size : Int) = 4 := by omega
  clear hc0 hc1 hc2 hc3
  cases h0 : un c0 with
  | none =>
    have hq : qv 3 c0 c1 c2 c3 = .tuple #[.int .i64 0, .int .i64 0] := by simp [qv, quadN, h0]
    have x0 : ixI c0 = -1 := by simp [ixI, h0]
    go_enter Tryz.func97, Tryz.ntmps97
    go_upto_region 6 with (first | (go_at_call 50; refine (IB_c _ _).mono ?_; rintro e w1 ⟨rfl, rfl⟩) | (go_at_call 117; refine hT.mono ?_; rintro e w1 ⟨rfl, rfl⟩))
    go_wp2_with fail
    refine wp_loop_rounds 5 ?_
    rw [rounds_succ]
    go_wp2_with (first | (go_at_call 50; refine (IB_c _ _).mono ?_; rintro e w1 ⟨rfl, rfl⟩) | (go_at_call 117; refine hT.mono ?_; rintro e w1 ⟨rfl, rfl⟩))
    exact bodyPost_ret (v := .tuple #[.int .i64 0, .int .i64 0]) (by simp [results, Tryz.results97, go_sem]) rfl ⟨by rw [hq], rfl⟩
  | some x =>
    have l0 : x < 64 := (sg_un c0 x h0).2
    have x0 : ixI c0 = (x : Int) := by simp [ixI, h0]
    have o0 := oq0 x l0
    have p0 : (x : Int) < 64 := by omega
    cases h1 : un c1 with
    | none =>
      have hq : qv 3 c0 c1 c2 c3 = .tuple #[.int .i64 0, .int .i64 0] := by simp [qv, quadN, h0, h1]
      have x1 : ixI c1 = -1 := by simp [ixI, h1]
      go_enter Tryz.func97, Tryz.ntmps97
      go_upto_region 6 with (first | (go_at_call 50; refine (IB_c _ _).mono ?_; rintro e w1 ⟨rfl, rfl⟩) | (go_at_call 117; refine hT.mono ?_; rintro e w1 ⟨rfl, rfl⟩))
      go_wp2_with fail
      refine wp_loop_rounds 5 ?_
      rw [rounds_succ]
      go_wp2_with (first | (go_at_call 50; refine (IB_c _ _).mono ?_; rintro e w1 ⟨rfl, rfl⟩) | (go_at_call 117; refine hT.mono ?_; rintro e w1 ⟨rfl, rfl⟩))
      rw [rounds_succ]
      go_wp2_with (first | (go_at_call 50; refine (IB_c _ _).mono ?_; rintro e w1 ⟨rfl, rfl⟩) | (go_at_call 117; refine hT.mono ?_; rintro e w1 ⟨rfl, rfl⟩))
      exact bodyPost_ret (v := .tuple #[.int .i64 0, .int .i64 0]) (by simp [results, Tryz.results97, go_sem]) rfl ⟨by rw [hq], rfl⟩
    | some y =>
      have l1 : y < 64 := (sg_un c1 y h1).2
      have x1 : ixI c1 = (y : Int) := by simp [ixI, h1]
      have o1 := oq1 x y l0 l1
      have p1 : (y : Int) < 64 := by omega
      cases h2 : un c2 with
      | none =>
        have hq : qv 3 c0 c1 c2 c3 = .tuple #[.int .i64 0, .int .i64 0] := by simp [qv, quadN, h0, h1, h2]
        have x2 : ixI c2 = -1 := by simp [ixI, h2]
        go_enter Tryz.func97, Tryz.ntmps97
        go_upto_region 6 with (first | (go_at_call 50; refine (IB_c _ _).mono ?_; rintro e w1 ⟨rfl, rfl⟩) | (go_at_call 117; refine hT.mono ?_; rintro e w1 ⟨rfl, rfl⟩))
        go_wp2_with fail
        refine wp_loop_rounds 5 ?_
        rw [rounds_succ]
        go_wp2_with (first | (go_at_call 50; refine (IB_c _ _).mono ?_; rintro e w1 ⟨rfl, rfl⟩) | (go_at_call 117; refine hT.mono ?_; rintro e w1 ⟨rfl, rfl⟩))
        rw [rounds_succ]
        go_wp2_with (first | (go_at_call 50; refine (IB_c _ _).mono ?_; rintro e w1 ⟨rfl, rfl⟩) | (go_at_call 117; refine hT.mono ?_; rintro e w1 ⟨rfl, rfl⟩))
        rw [rounds_succ]
        go_wp2_with (first | (go_at_call 50; refine (IB_c _ _).mono ?_; rintro e w1 ⟨rfl, rfl⟩) | (go_at_call 117; refine hT.mono ?_; rintro e w1 ⟨rfl, rfl⟩))
        exact bodyPost_ret (v := .tuple #[.int .i64 0, .int .i64 0]) (by simp [results, Tryz.results97, go_sem]) rfl ⟨by rw [hq], rfl⟩
      | some z =>
        have l2 : z < 64 := (sg_un c2 z h2).2
        have x2 : ixI c2 = (z : Int) := by simp [ixI, h2]
        have o2 := oq2 x y z l0 l1 l2
        have p2 : (z : Int) < 64 := by omega
        cases h3 : un c3 with
        | none =>
          have hq : qv 3 c0 c1 c2 c3 = .tuple #[.int .i64 0, .int .i64 0] := by simp [qv, quadN, h0, h1, h2, h3]
          have x3 : ixI c3 = -1 := by simp [ixI, h3]
          go_enter Tryz.func97, Tryz.ntmps97
          go_upto_region 6 with (first | (go_at_call 50; refine (IB_c _ _).mono ?_; rintro e w1 ⟨rfl, rfl⟩) | (go_at_call 117; refine hT.mono ?_; rintro e w1 ⟨rfl, rfl⟩))
          go_wp2_with fail
          refine wp_loop_rounds 5 ?_
          rw [rounds_succ]
          go_wp2_with (first | (go_at_call 50; refine (IB_c _ _).mono ?_; rintro e w1 ⟨rfl, rfl⟩) | (go_at_call 117; refine hT.mono ?_; rintro e w1 ⟨rfl, rfl⟩))
          rw [rounds_succ]
          go_wp2_with (first | (go_at_call 50; refine (IB_c _ _).mono ?_; rintro e w1 ⟨rfl, rfl⟩) | (go_at_call 117; refine hT.mono ?_; rintro e w1 ⟨rfl, rfl⟩))
          rw [rounds_succ]
          go_wp2_with (first | (go_at_call 50; refine (IB_c _ _).mono ?_; rintro e w1 ⟨rfl, rfl⟩) | (go_at_call 117; refine hT.mono ?_; rintro e w1 ⟨rfl, rfl⟩))
          rw [rounds_succ]
          go_wp2_with (first | (go_at_call 50; refine (IB_c _ _).mono ?_; rintro e w1 ⟨rfl, rfl⟩) | (go_at_call 117; refine hT.mono ?_; rintro e w1 ⟨rfl, rfl⟩))
          exact bodyPost_ret (v := .tuple #[.int .i64 0, .int .i64 0]) (by simp [results, Tryz.results97, go_sem]) rfl ⟨by rw [hq], rfl⟩
        | some u =>
          have l3 : u < 64 := (sg_un c3 u h3).2
          have x3 : ixI c3 = (u : Int) := by simp [ixI, h3]
          have o3 := oq3 x y z u l0 l1 l2 l3
          have p3 : (u : Int) < 64 := by omega
          have hq : qv 3 c0 c1 c2 c3 = .tuple #[.int .i64 ((((x : Int) * 64 + (y : Int)) * 64 + (z : Int)) * 64 + (u : Int)), .int .i64 3] := by
            simp only [qv, quadN, h0, h1, h2, h3]; simp; omega
          go_enter Tryz.func97, Tryz.ntmps97
          go_upto_region 6 with (first | (go_at_call 50; refine (IB_c _ _).mono ?_; rintro e w1 ⟨rfl, rfl⟩) | (go_at_call 117; refine hT.mono ?_; rintro e w1 ⟨rfl, rfl⟩))
          go_wp2_with fail
          refine wp_loop_rounds 5 ?_
          rw [rounds_succ]
          go_wp2_with (first | (go_at_call 50; refine (IB_c _ _).mono ?_; rintro e w1 ⟨rfl, rfl⟩) | (go_at_call 117; refine hT.mono ?_; rintro e w1 ⟨rfl, rfl⟩))
          rw [rounds_succ]
          go_wp2_with (first | (go_at_call 50; refine (IB_c _ _).mono ?_; rintro e w1 ⟨rfl, rfl⟩) | (go_at_call 117; refine hT.mono ?_; rintro e w1 ⟨rfl, rfl⟩))
          rw [rounds_succ]
          go_wp2_with (first | (go_at_call 50; refine (IB_c _ _).mono ?_; rintro e w1 ⟨rfl, rfl⟩) | (go_at_call 117; refine hT.mono ?_; rintro e w1 ⟨rfl, rfl⟩))
          rw [rounds_succ]
          go_wp2_with (first | (go_at_call 50; refine (IB_c _ _).mono ?_; rintro e w1 ⟨rfl, rfl⟩) | (go_at_call 117; refine hT.mono ?_; rintro e w1 ⟨rfl, rfl⟩))
          rw [rounds_succ]
          go_wp2_with (first | (go_at_call 50; refine (IB_c _ _).mono ?_; rintro e w1 ⟨rfl, rfl⟩) | (go_at_call 117; refine hT.mono ?_; rintro e w1 ⟨rfl, rfl⟩))
          exact bodyPost_ret (v := .tuple #[.int .i64 ((((x : Int) * 64 + (y : Int)) * 64 + (z : Int)) * 64 + (u : Int)), .int .i64 3]) (by simp [results, Tryz.results97, go_sem]) rfl ⟨by rw [hq], rfl⟩
set_option maxHeartbeats 8000000 in
theorem quads3t_c (S : ByteArray) (h4 : S.size = 4) (hT1 : (Lib.trimRightB S.data.toList 61).length = 4) (w : World) : Calls Tryz.prog 97 #[.string S, .bool true] w fun e w' => e = .returned (qv 3 (S[0]'(by omega)) (S[1]'(by omega)) (S[2]'(by omega)) (S[3]'(by omega))) ∧ w' = w := by
  have a0 : 0 < S.size := by omega
  have a1 : 1 < S.size := by omega
  have a2 : 2 < S.size := by omega
  have a3 : 3 < S.size := by omega
  have hT := Tryz.strings_TrimRight_one S 61 (by decide) w (by omega)
  have hT2 : (ByteArray.mk (Lib.trimRightB S.data.toList 61).toArray).size = 4 := by simp only [ByteArray.size, List.size_toArray]; exact hT1
  generalize (ByteArray.mk (Lib.trimRightB S.data.toList 61).toArray) = T at hT hT2
  replace hT := hT
  obtain ⟨c0, hc0⟩ : ∃ c, c = S[0] := ⟨_, rfl⟩
  obtain ⟨c1, hc1⟩ : ∃ c, c = S[1] := ⟨_, rfl⟩
  obtain ⟨c2, hc2⟩ : ∃ c, c = S[2] := ⟨_, rfl⟩
  obtain ⟨c3, hc3⟩ : ∃ c, c = S[3] := ⟨_, rfl⟩
  have i0 := fun w => ix_c S 0 0 c0 rfl a0 hc0 w
  have i1 := fun w => ix_c S 1 1 c1 rfl a1 hc1 w
  have i2 := fun w => ix_c S 2 2 c2 rfl a2 hc2 w
  have i3 := fun w => ix_c S 3 3 c3 rfl a3 hc3 w
  rw [← hc0, ← hc1, ← hc2, ← hc3]
  have hsz : (S.size : Int) = 4 := by omega
  clear hc0 hc1 hc2 hc3
  cases h0 : un c0 with
  | none =>
    have hq : qv 3 c0 c1 c2 c3 = .tuple #[.int .i64 0, .int .i64 0] := by simp [qv, quadN, h0]
    have x0 : ixI c0 = -1 := by simp [ixI, h0]
    go_enter Tryz.func97, Tryz.ntmps97
    go_upto_region 6 with (first | (go_at_call 50; refine (IB_c _ _).mono ?_; rintro e w1 ⟨rfl, rfl⟩) | (go_at_call 117; refine hT.mono ?_; rintro e w1 ⟨rfl, rfl⟩))
    go_wp2_with fail
    refine wp_loop_rounds 5 ?_
    rw [rounds_succ]
    go_wp2_with (first | (go_at_call 50; refine (IB_c _ _).mono ?_; rintro e w1 ⟨rfl, rfl⟩) | (go_at_call 117; refine hT.mono ?_; rintro e w1 ⟨rfl, rfl⟩))
    exact bodyPost_ret (v := .tuple #[.int .i64 0, .int .i64 0]) (by simp [results, Tryz.results97, go_sem]) rfl ⟨by rw [hq], rfl⟩
  | some x =>
    have l0 : x < 64 := (sg_un c0 x h0).2
    have x0 : ixI c0 = (x : Int) := by simp [ixI, h0]
    have o0 := oq0 x l0
    have p0 : (x : Int) < 64 := by omega
    cases h1 : un c1 with
    | none =>
      have hq : qv 3 c0 c1 c2 c3 = .tuple #[.int .i64 0, .int .i64 0] := by simp [qv, quadN, h0, h1]
      have x1 : ixI c1 = -1 := by simp [ixI, h1]
      go_enter Tryz.func97, Tryz.ntmps97
      go_upto_region 6 with (first | (go_at_call 50; refine (IB_c _ _).mono ?_; rintro e w1 ⟨rfl, rfl⟩) | (go_at_call 117; refine hT.mono ?_; rintro e w1 ⟨rfl, rfl⟩))
      go_wp2_with fail
      refine wp_loop_rounds 5 ?_
      rw [rounds_succ]
      go_wp2_with (first | (go_at_call 50; refine (IB_c _ _).mono ?_; rintro e w1 ⟨rfl, rfl⟩) | (go_at_call 117; refine hT.mono ?_; rintro e w1 ⟨rfl, rfl⟩))
      rw [rounds_succ]
      go_wp2_with (first | (go_at_call 50; refine (IB_c _ _).mono ?_; rintro e w1 ⟨rfl, rfl⟩) | (go_at_call 117; refine hT.mono ?_; rintro e w1 ⟨rfl, rfl⟩))
      exact bodyPost_ret (v := .tuple #[.int .i64 0, .int .i64 0]) (by simp [results, Tryz.results97, go_sem]) rfl ⟨by rw [hq], rfl⟩
    | some y =>
      have l1 : y < 64 := (sg_un c1 y h1).2
      have x1 : ixI c1 = (y : Int) := by simp [ixI, h1]
      have o1 := oq1 x y l0 l1
      have p1 : (y : Int) < 64 := by omega
      cases h2 : un c2 with
      | none =>
        have hq : qv 3 c0 c1 c2 c3 = .tuple #[.int .i64 0, .int .i64 0] := by simp [qv, quadN, h0, h1, h2]
        have x2 : ixI c2 = -1 := by simp [ixI, h2]
        go_enter Tryz.func97, Tryz.ntmps97
        go_upto_region 6 with (first | (go_at_call 50; refine (IB_c _ _).mono ?_; rintro e w1 ⟨rfl, rfl⟩) | (go_at_call 117; refine hT.mono ?_; rintro e w1 ⟨rfl, rfl⟩))
        go_wp2_with fail
        refine wp_loop_rounds 5 ?_
        rw [rounds_succ]
        go_wp2_with (first | (go_at_call 50; refine (IB_c _ _).mono ?_; rintro e w1 ⟨rfl, rfl⟩) | (go_at_call 117; refine hT.mono ?_; rintro e w1 ⟨rfl, rfl⟩))
        rw [rounds_succ]
        go_wp2_with (first | (go_at_call 50; refine (IB_c _ _).mono ?_; rintro e w1 ⟨rfl, rfl⟩) | (go_at_call 117; refine hT.mono ?_; rintro e w1 ⟨rfl, rfl⟩))
        rw [rounds_succ]
        go_wp2_with (first | (go_at_call 50; refine (IB_c _ _).mono ?_; rintro e w1 ⟨rfl, rfl⟩) | (go_at_call 117; refine hT.mono ?_; rintro e w1 ⟨rfl, rfl⟩))
        exact bodyPost_ret (v := .tuple #[.int .i64 0, .int .i64 0]) (by simp [results, Tryz.results97, go_sem]) rfl ⟨by rw [hq], rfl⟩
      | some z =>
        have l2 : z < 64 := (sg_un c2 z h2).2
        have x2 : ixI c2 = (z : Int) := by simp [ixI, h2]
        have o2 := oq2 x y z l0 l1 l2
        have p2 : (z : Int) < 64 := by omega
        cases h3 : un c3 with
        | none =>
          have hq : qv 3 c0 c1 c2 c3 = .tuple #[.int .i64 0, .int .i64 0] := by simp [qv, quadN, h0, h1, h2, h3]
          have x3 : ixI c3 = -1 := by simp [ixI, h3]
          go_enter Tryz.func97, Tryz.ntmps97
          go_upto_region 6 with (first | (go_at_call 50; refine (IB_c _ _).mono ?_; rintro e w1 ⟨rfl, rfl⟩) | (go_at_call 117; refine hT.mono ?_; rintro e w1 ⟨rfl, rfl⟩))
          go_wp2_with fail
          refine wp_loop_rounds 5 ?_
          rw [rounds_succ]
          go_wp2_with (first | (go_at_call 50; refine (IB_c _ _).mono ?_; rintro e w1 ⟨rfl, rfl⟩) | (go_at_call 117; refine hT.mono ?_; rintro e w1 ⟨rfl, rfl⟩))
          rw [rounds_succ]
          go_wp2_with (first | (go_at_call 50; refine (IB_c _ _).mono ?_; rintro e w1 ⟨rfl, rfl⟩) | (go_at_call 117; refine hT.mono ?_; rintro e w1 ⟨rfl, rfl⟩))
          rw [rounds_succ]
          go_wp2_with (first | (go_at_call 50; refine (IB_c _ _).mono ?_; rintro e w1 ⟨rfl, rfl⟩) | (go_at_call 117; refine hT.mono ?_; rintro e w1 ⟨rfl, rfl⟩))
          rw [rounds_succ]
          go_wp2_with (first | (go_at_call 50; refine (IB_c _ _).mono ?_; rintro e w1 ⟨rfl, rfl⟩) | (go_at_call 117; refine hT.mono ?_; rintro e w1 ⟨rfl, rfl⟩))
          exact bodyPost_ret (v := .tuple #[.int .i64 0, .int .i64 0]) (by simp [results, Tryz.results97, go_sem]) rfl ⟨by rw [hq], rfl⟩
        | some u =>
          have l3 : u < 64 := (sg_un c3 u h3).2
          have x3 : ixI c3 = (u : Int) := by simp [ixI, h3]
          have o3 := oq3 x y z u l0 l1 l2 l3
          have p3 : (u : Int) < 64 := by omega
          have hq : qv 3 c0 c1 c2 c3 = .tuple #[.int .i64 ((((x : Int) * 64 + (y : Int)) * 64 + (z : Int)) * 64 + (u : Int)), .int .i64 3] := by
            simp only [qv, quadN, h0, h1, h2, h3]; simp; omega
          go_enter Tryz.func97, Tryz.ntmps97
          go_upto_region 6 with (first | (go_at_call 50; refine (IB_c _ _).mono ?_; rintro e w1 ⟨rfl, rfl⟩) | (go_at_call 117; refine hT.mono ?_; rintro e w1 ⟨rfl, rfl⟩))
          go_wp2_with fail
          refine wp_loop_rounds 5 ?_
          rw [rounds_succ]
          go_wp2_with (first | (go_at_call 50; refine (IB_c _ _).mono ?_; rintro e w1 ⟨rfl, rfl⟩) | (go_at_call 117; refine hT.mono ?_; rintro e w1 ⟨rfl, rfl⟩))
          rw [rounds_succ]
          go_wp2_with (first | (go_at_call 50; refine (IB_c _ _).mono ?_; rintro e w1 ⟨rfl, rfl⟩) | (go_at_call 117; refine hT.mono ?_; rintro e w1 ⟨rfl, rfl⟩))
          rw [rounds_succ]
          go_wp2_with (first | (go_at_call 50; refine (IB_c _ _).mono ?_; rintro e w1 ⟨rfl, rfl⟩) | (go_at_call 117; refine hT.mono ?_; rintro e w1 ⟨rfl, rfl⟩))
          rw [rounds_succ]
          go_wp2_with (first | (go_at_call 50; refine (IB_c _ _).mono ?_; rintro e w1 ⟨rfl, rfl⟩) | (go_at_call 117; refine hT.mono ?_; rintro e w1 ⟨rfl, rfl⟩))
          rw [rounds_succ]
          go_wp2_with (first | (go_at_call 50; refine (IB_c _ _).mono ?_; rintro e w1 ⟨rfl, rfl⟩) | (go_at_call 117; refine hT.mono ?_; rintro e w1 ⟨rfl, rfl⟩))
          exact bodyPost_ret (v := .tuple #[.int .i64 ((((x : Int) * 64 + (y : Int)) * 64 + (z : Int)) * 64 + (u : Int)), .int .i64 3]) (by simp [results, Tryz.results97, go_sem]) rfl ⟨by rw [hq], rfl⟩
set_option maxHeartbeats 8000000 in
theorem quads2t_c (S : ByteArray) (h4 : S.size = 4) (hT1 : (Lib.trimRightB S.data.toList 61).length = 3) (w : World) : Calls Tryz.prog 97 #[.string S, .bool true] w fun e w' => e = .returned (qv 2 (S[0]'(by omega)) (S[1]'(by omega)) (S[2]'(by omega)) (S[3]'(by omega))) ∧ w' = w := by
  have a0 : 0 < S.size := by omega
  have a1 : 1 < S.size := by omega
  have a2 : 2 < S.size := by omega
  have a3 : 3 < S.size := by omega
  have hT := Tryz.strings_TrimRight_one S 61 (by decide) w (by omega)
  have hT2 : (ByteArray.mk (Lib.trimRightB S.data.toList 61).toArray).size = 3 := by simp only [ByteArray.size, List.size_toArray]; exact hT1
  generalize (ByteArray.mk (Lib.trimRightB S.data.toList 61).toArray) = T at hT hT2
  replace hT := hT
  obtain ⟨c0, hc0⟩ : ∃ c, c = S[0] := ⟨_, rfl⟩
  obtain ⟨c1, hc1⟩ : ∃ c, c = S[1] := ⟨_, rfl⟩
  obtain ⟨c2, hc2⟩ : ∃ c, c = S[2] := ⟨_, rfl⟩
  obtain ⟨c3, hc3⟩ : ∃ c, c = S[3] := ⟨_, rfl⟩
  have i0 := fun w => ix_c S 0 0 c0 rfl a0 hc0 w
  have i1 := fun w => ix_c S 1 1 c1 rfl a1 hc1 w
  have i2 := fun w => ix_c S 2 2 c2 rfl a2 hc2 w
  have i3 := fun w => ix_c S 3 3 c3 rfl a3 hc3 w
  rw [← hc0, ← hc1, ← hc2, ← hc3]
  have hsz : (S.size : Int) = 4 := by omega
  clear hc0 hc1 hc2 hc3
  cases h0 : un c0 with
  | none =>
    have hq : qv 2 c0 c1 c2 c3 = .tuple #[.int .i64 0, .int .i64 0] := by simp [qv, quadN, h0]
    have x0 : ixI c0 = -1 := by simp [ixI, h0]
    go_enter Tryz.func97, Tryz.ntmps97
    go_upto_region 6 with (first | (go_at_call 50; refine (IB_c _ _).mono ?_; rintro e w1 ⟨rfl, rfl⟩) | (go_at_call 117; refine hT.mono ?_; rintro e w1 ⟨rfl, rfl⟩))
    go_wp2_with fail
    refine wp_loop_rounds 5 ?_
    rw [rounds_succ]
    go_wp2_with (first | (go_at_call 50; refine (IB_c _ _).mono ?_; rintro e w1 ⟨rfl, rfl⟩) | (go_at_call 117; refine hT.mono ?_; rintro e w1 ⟨rfl, rfl⟩))
    exact bodyPost_ret (v := .tuple #[.int .i64 0, .int .i64 0]) (by simp [results, Tryz.results97, go_sem]) rfl ⟨by rw [hq], rfl⟩
  | some x =>
    have l0 : x < 64 := (sg_un c0 x h0).2
    have x0 : ixI c0 = (x : Int) := by simp [ixI, h0]
    have o0 := oq0 x l0
    have p0 : (x : Int) < 64 := by omega
    cases h1 : un c1 with
    | none =>
      have hq : qv 2 c0 c1 c2 c3 = .tuple #[.int .i64 0, .int .i64 0] := by simp [qv, quadN, h0, h1]
      have x1 : ixI c1 = -1 := by simp [ixI, h1]
      go_enter Tryz.func97, Tryz.ntmps97
      go_upto_region 6 with (first | (go_at_call 50; refine (IB_c _ _).mono ?_; rintro e w1 ⟨rfl, rfl⟩) | (go_at_call 117; refine hT.mono ?_; rintro e w1 ⟨rfl, rfl⟩))
      go_wp2_with fail
      refine wp_loop_rounds 5 ?_
      rw [rounds_succ]
      go_wp2_with (first | (go_at_call 50; refine (IB_c _ _).mono ?_; rintro e w1 ⟨rfl, rfl⟩) | (go_at_call 117; refine hT.mono ?_; rintro e w1 ⟨rfl, rfl⟩))
      rw [rounds_succ]
      go_wp2_with (first | (go_at_call 50; refine (IB_c _ _).mono ?_; rintro e w1 ⟨rfl, rfl⟩) | (go_at_call 117; refine hT.mono ?_; rintro e w1 ⟨rfl, rfl⟩))
      exact bodyPost_ret (v := .tuple #[.int .i64 0, .int .i64 0]) (by simp [results, Tryz.results97, go_sem]) rfl ⟨by rw [hq], rfl⟩
    | some y =>
      have l1 : y < 64 := (sg_un c1 y h1).2
      have x1 : ixI c1 = (y : Int) := by simp [ixI, h1]
      have o1 := oq1 x y l0 l1
      have p1 : (y : Int) < 64 := by omega
      cases h2 : un c2 with
      | none =>
        have hq : qv 2 c0 c1 c2 c3 = .tuple #[.int .i64 0, .int .i64 0] := by simp [qv, quadN, h0, h1, h2]
        have x2 : ixI c2 = -1 := by simp [ixI, h2]
        go_enter Tryz.func97, Tryz.ntmps97
        go_upto_region 6 with (first | (go_at_call 50; refine (IB_c _ _).mono ?_; rintro e w1 ⟨rfl, rfl⟩) | (go_at_call 117; refine hT.mono ?_; rintro e w1 ⟨rfl, rfl⟩))
        go_wp2_with fail
        refine wp_loop_rounds 5 ?_
        rw [rounds_succ]
        go_wp2_with (first | (go_at_call 50; refine (IB_c _ _).mono ?_; rintro e w1 ⟨rfl, rfl⟩) | (go_at_call 117; refine hT.mono ?_; rintro e w1 ⟨rfl, rfl⟩))
        rw [rounds_succ]
        go_wp2_with (first | (go_at_call 50; refine (IB_c _ _).mono ?_; rintro e w1 ⟨rfl, rfl⟩) | (go_at_call 117; refine hT.mono ?_; rintro e w1 ⟨rfl, rfl⟩))
        rw [rounds_succ]
        go_wp2_with (first | (go_at_call 50; refine (IB_c _ _).mono ?_; rintro e w1 ⟨rfl, rfl⟩) | (go_at_call 117; refine hT.mono ?_; rintro e w1 ⟨rfl, rfl⟩))
        exact bodyPost_ret (v := .tuple #[.int .i64 0, .int .i64 0]) (by simp [results, Tryz.results97, go_sem]) rfl ⟨by rw [hq], rfl⟩
      | some z =>
        have l2 : z < 64 := (sg_un c2 z h2).2
        have x2 : ixI c2 = (z : Int) := by simp [ixI, h2]
        have o2 := oq2 x y z l0 l1 l2
        have p2 : (z : Int) < 64 := by omega
        by_cases hm : z % 4 = 0
        · have hq : qv 2 c0 c1 c2 c3 = .tuple #[.int .i64 ((((x : Int) * 64 + (y : Int)) * 64 + (z : Int)) * 64), .int .i64 2] := by
            simp only [qv, quadN, h0, h1, h2]; simp [hm]; omega
          have hM : (((x : Int) * 64 + (y : Int)) * 64 + (z : Int)) * 64 % 256 = 0 := by omega
          go_enter Tryz.func97, Tryz.ntmps97
          go_upto_region 6 with (first | (go_at_call 50; refine (IB_c _ _).mono ?_; rintro e w1 ⟨rfl, rfl⟩) | (go_at_call 117; refine hT.mono ?_; rintro e w1 ⟨rfl, rfl⟩))
          go_wp2_with fail
          refine wp_loop_rounds 5 ?_
          rw [rounds_succ]
          go_wp2_with (first | (go_at_call 50; refine (IB_c _ _).mono ?_; rintro e w1 ⟨rfl, rfl⟩) | (go_at_call 117; refine hT.mono ?_; rintro e w1 ⟨rfl, rfl⟩))
          rw [rounds_succ]
          go_wp2_with (first | (go_at_call 50; refine (IB_c _ _).mono ?_; rintro e w1 ⟨rfl, rfl⟩) | (go_at_call 117; refine hT.mono ?_; rintro e w1 ⟨rfl, rfl⟩))
          rw [rounds_succ]
          go_wp2_with (first | (go_at_call 50; refine (IB_c _ _).mono ?_; rintro e w1 ⟨rfl, rfl⟩) | (go_at_call 117; refine hT.mono ?_; rintro e w1 ⟨rfl, rfl⟩))
          rw [rounds_succ]
          go_wp2_with (first | (go_at_call 50; refine (IB_c _ _).mono ?_; rintro e w1 ⟨rfl, rfl⟩) | (go_at_call 117; refine hT.mono ?_; rintro e w1 ⟨rfl, rfl⟩))
          rw [rounds_succ]
          go_wp2_with (first | (go_at_call 50; refine (IB_c _ _).mono ?_; rintro e w1 ⟨rfl, rfl⟩) | (go_at_call 117; refine hT.mono ?_; rintro e w1 ⟨rfl, rfl⟩))
          exact bodyPost_ret (v := .tuple #[.int .i64 ((((x : Int) * 64 + (y : Int)) * 64 + (z : Int)) * 64), .int .i64 2]) (by simp [results, Tryz.results97, go_sem]) rfl ⟨by rw [hq], rfl⟩
        · have hq : qv 2 c0 c1 c2 c3 = .tuple #[.int .i64 0, .int .i64 0] := by simp [qv, quadN, h0, h1, h2, hm]
          have hM : ((((x : Int) * 64 + (y : Int)) * 64 + (z : Int)) * 64 % 256 != 0) = true := by simp; omega
          go_enter Tryz.func97, Tryz.ntmps97
          go_upto_region 6 with (first | (go_at_call 50; refine (IB_c _ _).mono ?_; rintro e w1 ⟨rfl, rfl⟩) | (go_at_call 117; refine hT.mono ?_; rintro e w1 ⟨rfl, rfl⟩))
          go_wp2_with fail
          refine wp_loop_rounds 5 ?_
          rw [rounds_succ]
          go_wp2_with (first | (go_at_call 50; refine (IB_c _ _).mono ?_; rintro e w1 ⟨rfl, rfl⟩) | (go_at_call 117; refine hT.mono ?_; rintro e w1 ⟨rfl, rfl⟩))
          rw [rounds_succ]
          go_wp2_with (first | (go_at_call 50; refine (IB_c _ _).mono ?_; rintro e w1 ⟨rfl, rfl⟩) | (go_at_call 117; refine hT.mono ?_; rintro e w1 ⟨rfl, rfl⟩))
          rw [rounds_succ]
          go_wp2_with (first | (go_at_call 50; refine (IB_c _ _).mono ?_; rintro e w1 ⟨rfl, rfl⟩) | (go_at_call 117; refine hT.mono ?_; rintro e w1 ⟨rfl, rfl⟩))
          rw [rounds_succ]
          go_wp2_with (first | (go_at_call 50; refine (IB_c _ _).mono ?_; rintro e w1 ⟨rfl, rfl⟩) | (go_at_call 117; refine hT.mono ?_; rintro e w1 ⟨rfl, rfl⟩))
          rw [rounds_succ]
          go_wp2_with (first | (go_at_call 50; refine (IB_c _ _).mono ?_; rintro e w1 ⟨rfl, rfl⟩) | (go_at_call 117; refine hT.mono ?_; rintro e w1 ⟨rfl, rfl⟩))
          exact bodyPost_ret (v := .tuple #[.int .i64 0, .int .i64 0]) (by simp [results, Tryz.results97, go_sem]) rfl ⟨by rw [hq], rfl⟩
set_option maxHeartbeats 8000000 in
theorem quads1t_c (S : ByteArray) (h4 : S.size = 4) (hT1 : (Lib.trimRightB S.data.toList 61).length = 2) (w : World) : Calls Tryz.prog 97 #[.string S, .bool true] w fun e w' => e = .returned (qv 1 (S[0]'(by omega)) (S[1]'(by omega)) (S[2]'(by omega)) (S[3]'(by omega))) ∧ w' = w := by
  have a0 : 0 < S.size := by omega
  have a1 : 1 < S.size := by omega
  have a2 : 2 < S.size := by omega
  have a3 : 3 < S.size := by omega
  have hT := Tryz.strings_TrimRight_one S 61 (by decide) w (by omega)
  have hT2 : (ByteArray.mk (Lib.trimRightB S.data.toList 61).toArray).size = 2 := by simp only [ByteArray.size, List.size_toArray]; exact hT1
  generalize (ByteArray.mk (Lib.trimRightB S.data.toList 61).toArray) = T at hT hT2
  replace hT := hT
  obtain ⟨c0, hc0⟩ : ∃ c, c = S[0] := ⟨_, rfl⟩
  obtain ⟨c1, hc1⟩ : ∃ c, c = S[1] := ⟨_, rfl⟩
  obtain ⟨c2, hc2⟩ : ∃ c, c = S[2] := ⟨_, rfl⟩
  obtain ⟨c3, hc3⟩ : ∃ c, c = S[3] := ⟨_, rfl⟩
  have i0 := fun w => ix_c S 0 0 c0 rfl a0 hc0 w
  have i1 := fun w => ix_c S 1 1 c1 rfl a1 hc1 w
  have i2 := fun w => ix_c S 2 2 c2 rfl a2 hc2 w
  have i3 := fun w => ix_c S 3 3 c3 rfl a3 hc3 w
  rw [← hc0, ← hc1, ← hc2, ← hc3]
  have hsz : (S.size : Int) = 4 := by omega
  clear hc0 hc1 hc2 hc3
  cases h0 : un c0 with
  | none =>
    have hq : qv 1 c0 c1 c2 c3 = .tuple #[.int .i64 0, .int .i64 0] := by simp [qv, quadN, h0]
    have x0 : ixI c0 = -1 := by simp [ixI, h0]
    go_enter Tryz.func97, Tryz.ntmps97
    go_upto_region 6 with (first | (go_at_call 50; refine (IB_c _ _).mono ?_; rintro e w1 ⟨rfl, rfl⟩) | (go_at_call 117; refine hT.mono ?_; rintro e w1 ⟨rfl, rfl⟩))
    go_wp2_with fail
    refine wp_loop_rounds 5 ?_
    rw [rounds_succ]
    go_wp2_with (first | (go_at_call 50; refine (IB_c _ _).mono ?_; rintro e w1 ⟨rfl, rfl⟩) | (go_at_call 117; refine hT.mono ?_; rintro e w1 ⟨rfl, rfl⟩))
    exact bodyPost_ret (v := .tuple #[.int .i64 0, .int .i64 0]) (by simp [results, Tryz.results97, go_sem]) rfl ⟨by rw [hq], rfl⟩
  | some x =>
    have l0 : x < 64 := (sg_un c0 x h0).2
    have x0 : ixI c0 = (x : Int) := by simp [ixI, h0]
    have o0 := oq0 x l0
    have p0 : (x : Int) < 64 := by omega
    cases h1 : un c1 with
    | none =>
      have hq : qv 1 c0 c1 c2 c3 = .tuple #[.int .i64 0, .int .i64 0] := by simp [qv, quadN, h0, h1]
      have x1 : ixI c1 = -1 := by simp [ixI, h1]
      go_enter Tryz.func97, Tryz.ntmps97
      go_upto_region 6 with (first | (go_at_call 50; refine (IB_c _ _).mono ?_; rintro e w1 ⟨rfl, rfl⟩) | (go_at_call 117; refine hT.mono ?_; rintro e w1 ⟨rfl, rfl⟩))
      go_wp2_with fail
      refine wp_loop_rounds 5 ?_
      rw [rounds_succ]
      go_wp2_with (first | (go_at_call 50; refine (IB_c _ _).mono ?_; rintro e w1 ⟨rfl, rfl⟩) | (go_at_call 117; refine hT.mono ?_; rintro e w1 ⟨rfl, rfl⟩))
      rw [rounds_succ]
      go_wp2_with (first | (go_at_call 50; refine (IB_c _ _).mono ?_; rintro e w1 ⟨rfl, rfl⟩) | (go_at_call 117; refine hT.mono ?_; rintro e w1 ⟨rfl, rfl⟩))
      exact bodyPost_ret (v := .tuple #[.int .i64 0, .int .i64 0]) (by simp [results, Tryz.results97, go_sem]) rfl ⟨by rw [hq], rfl⟩
    | some y =>
      have l1 : y < 64 := (sg_un c1 y h1).2
      have x1 : ixI c1 = (y : Int) := by simp [ixI, h1]
      have o1 := oq1 x y l0 l1
      have p1 : (y : Int) < 64 := by omega
      by_cases hm : y % 16 = 0
      · have hq : qv 1 c0 c1 c2 c3 = .tuple #[.int .i64 (((x : Int) * 64 + (y : Int)) * 64 * 64), .int .i64 1] := by
          simp only [qv, quadN, h0, h1]; simp [hm]; omega
        have hM : ((x : Int) * 64 + (y : Int)) * 64 * 64 % 65536 = 0 := by omega
        go_enter Tryz.func97, Tryz.ntmps97
        go_upto_region 6 with (first | (go_at_call 50; refine (IB_c _ _).mono ?_; rintro e w1 ⟨rfl, rfl⟩) | (go_at_call 117; refine hT.mono ?_; rintro e w1 ⟨rfl, rfl⟩))
        go_wp2_with fail
        refine wp_loop_rounds 5 ?_
        rw [rounds_succ]
        go_wp2_with (first | (go_at_call 50; refine (IB_c _ _).mono ?_; rintro e w1 ⟨rfl, rfl⟩) | (go_at_call 117; refine hT.mono ?_; rintro e w1 ⟨rfl, rfl⟩))
        rw [rounds_succ]
        go_wp2_with (first | (go_at_call 50; refine (IB_c _ _).mono ?_; rintro e w1 ⟨rfl, rfl⟩) | (go_at_call 117; refine hT.mono ?_; rintro e w1 ⟨rfl, rfl⟩))
        rw [rounds_succ]
        go_wp2_with (first | (go_at_call 50; refine (IB_c _ _).mono ?_; rintro e w1 ⟨rfl, rfl⟩) | (go_at_call 117; refine hT.mono ?_; rintro e w1 ⟨rfl, rfl⟩))
        rw [rounds_succ]
        go_wp2_with (first | (go_at_call 50; refine (IB_c _ _).mono ?_; rintro e w1 ⟨rfl, rfl⟩) | (go_at_call 117; refine hT.mono ?_; rintro e w1 ⟨rfl, rfl⟩))
        rw [rounds_succ]
        go_wp2_with (first | (go_at_call 50; refine (IB_c _ _).mono ?_; rintro e w1 ⟨rfl, rfl⟩) | (go_at_call 117; refine hT.mono ?_; rintro e w1 ⟨rfl, rfl⟩))
        exact bodyPost_ret (v := .tuple #[.int .i64 (((x : Int) * 64 + (y : Int)) * 64 * 64), .int .i64 1]) (by simp [results, Tryz.results97, go_sem]) rfl ⟨by rw [hq], rfl⟩
      · have hq : qv 1 c0 c1 c2 c3 = .tuple #[.int .i64 0, .int .i64 0] := by simp [qv, quadN, h0, h1, hm]
        have hM : (((x : Int) * 64 + (y : Int)) * 64 * 64 % 65536 != 0) = true := by simp; omega
        go_enter Tryz.func97, Tryz.ntmps97
        go_upto_region 6 with (first | (go_at_call 50; refine (IB_c _ _).mono ?_; rintro e w1 ⟨rfl, rfl⟩) | (go_at_call 117; refine hT.mono ?_; rintro e w1 ⟨rfl, rfl⟩))
        go_wp2_with fail
        refine wp_loop_rounds 5 ?_
        rw [rounds_succ]
        go_wp2_with (first | (go_at_call 50; refine (IB_c _ _).mono ?_; rintro e w1 ⟨rfl, rfl⟩) | (go_at_call 117; refine hT.mono ?_; rintro e w1 ⟨rfl, rfl⟩))
        rw [rounds_succ]
        go_wp2_with (first | (go_at_call 50; refine (IB_c _ _).mono ?_; rintro e w1 ⟨rfl, rfl⟩) | (go_at_call 117; refine hT.mono ?_; rintro e w1 ⟨rfl, rfl⟩))
        rw [rounds_succ]
        go_wp2_with (first | (go_at_call 50; refine (IB_c _ _).mono ?_; rintro e w1 ⟨rfl, rfl⟩) | (go_at_call 117; refine hT.mono ?_; rintro e w1 ⟨rfl, rfl⟩))
        rw [rounds_succ]
        go_wp2_with (first | (go_at_call 50; refine (IB_c _ _).mono ?_; rintro e w1 ⟨rfl, rfl⟩) | (go_at_call 117; refine hT.mono ?_; rintro e w1 ⟨rfl, rfl⟩))
        rw [rounds_succ]
        go_wp2_with (first | (go_at_call 50; refine (IB_c _ _).mono ?_; rintro e w1 ⟨rfl, rfl⟩) | (go_at_call 117; refine hT.mono ?_; rintro e w1 ⟨rfl, rfl⟩))
        exact bodyPost_ret (v := .tuple #[.int .i64 0, .int .i64 0]) (by simp [results, Tryz.results97, go_sem]) rfl ⟨by rw [hq], rfl⟩
set_option maxHeartbeats 8000000 in
theorem quads0_c (S : ByteArray) (h4 : S.size = 4) (hT1 : (Lib.trimRightB S.data.toList 61).length ≤ 1) (w : World) : Calls Tryz.prog 97 #[.string S, .bool true] w fun e w' => e = .returned (.tuple #[.int .i64 0, .int .i64 0]) ∧ w' = w := by
  have hT := Tryz.strings_TrimRight_one S 61 (by decide) w (by omega)
  have hT2 : (ByteArray.mk (Lib.trimRightB S.data.toList 61).toArray).size ≤ 1 := by simp only [ByteArray.size, List.size_toArray]; exact hT1
  generalize (ByteArray.mk (Lib.trimRightB S.data.toList 61).toArray) = T at hT hT2
  have hsz : (S.size : Int) = 4 := by omega
  have hn : (3 : Int) - (4 - (T.size : Int)) < 1 := by omega
  go_enter Tryz.func97, Tryz.ntmps97
  go_wp2_with (go_at_call 117; refine hT.mono ?_; rintro e w1 ⟨rfl, rfl⟩)
  exact bodyPost_ret (v := .tuple #[.int .i64 0, .int .i64 0]) (by simp [results, Tryz.results97, go_sem]) rfl ⟨rfl, rfl⟩
end Go.Proofs.YtjigckibbjfkmaaGreatDoor

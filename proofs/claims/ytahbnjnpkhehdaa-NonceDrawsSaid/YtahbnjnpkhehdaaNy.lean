/- Draws from a seed: a source that isn't; the law's own awake; the law NonceFakes. -/
import Derived.Test.YtahbnjnpkhehdaaNx
namespace Go.Proofs.Ytahbnjnpkhehdaa
open Go.RowKit Go.Lib
set_option maxRecDepth 100000
set_option linter.unusedSimpArgs false
set_option linter.unusedVariables false
attribute [local go_sem] evR_tmp evR_const evR_global evR_func
theorem nCount_nil (w : World) : Calls Try.prog 14 #[.pointer none] w fun e w' => e = .returned (.int .i64 0) ∧ Below w.heap.size w w' := by
  go_enter Try.func14, Try.ntmps14
  go_wp2
  exact bodyPost_ret (v := .int .i64 0) (by simp [results, Try.results14, go_sem]) rfl ⟨rfl, Below.refl _ _⟩
theorem nBelow_nil (n : Int) (w : World) : Calls Try.prog 13 #[.pointer none, .int .i64 n] w fun e w' => e = .returned (.int .i64 0) ∧ Below w.heap.size w w' := by
  go_enter Try.func13, Try.ntmps13
  go_wp2
  exact bodyPost_ret (v := .int .i64 0) (by simp [results, Try.results13, go_sem]) rfl ⟨rfl, Below.refl _ _⟩
theorem nBelow_low (g : Nat) (n : Int) (hn : n < 1) (w : World) : Calls Try.prog 13 #[.pointer (some ⟨g, 0, none⟩), .int .i64 n] w fun e w' => e = .returned (.int .i64 0) ∧ Below w.heap.size w w' := by
  go_enter Try.func13, Try.ntmps13
  go_wp2
  exact bodyPost_ret (v := .int .i64 0) (by simp [results, Try.results13, go_sem]) rfl ⟨rfl, Below.refl _ _⟩
theorem nBytes_nil (n : Int) (w : World) : Calls Try.prog 8 #[.pointer none, .int .i64 n] w fun e w' => e = .returned (.string ByteArray.empty) ∧ Below w.heap.size w w' := by
  go_enter Try.func8, Try.ntmps8
  go_wp2
  all_goals exact bodyPost_ret (v := .string ByteArray.empty) (by simp [results, Try.results8, go_sem]; try rfl) rfl ⟨rfl, Below.refl _ _⟩
theorem turn_below {B g : Nat} {w W W' : World} (hb : Below B w W) (ht : Turned g W W') (hg : B ≤ g) (hB : B ≤ W.heap.size) : Below B w W' :=
  ⟨ht.os.trans hb.os, ht.tape.trans hb.tape, ht.output.trans hb.output, Nat.le_trans hb.size ht.size, fun b q => (ht.block b (by omega) (by omega)).trans (hb.block b q)⟩
def xB : ByteArray := ⟨#[120]⟩
set_option maxHeartbeats 4000000 in
theorem awake34_c (w : World) : Calls Try.prog 6 #[] w fun e w' => e = .returned (.bool true) ∧ Below w.heap.size w w' := by
  have hN := fun (g : Nat) (w : World) hk => nNonce_c g xB (by decide) 0 (by decide) 40 w hk
  have hs : (⟨(signsOf (drawB xB.data.toList 0 (clampN 40))).toArray⟩ : ByteArray).size = 40 := by
    rw [show clampN 40 = 40 from rfl]; simp [ByteArray.size, signsOf, drawB_length]
  rw [show drawsOf (clampN 40) = 2 from rfl] at hN
  have hC := fun (g : Nat) (w : World) hk => nCount_c g xB 2 (by decide) w hk
  have hL := fun (g : Nat) (w : World) hk => nBelow_c g xB (by decide) 2 (by decide) 1 (by decide) (by decide) w hk
  have hW := fun w => nNew_c xB w
  generalize (⟨(signsOf (drawB xB.data.toList 0 (clampN 40))).toArray⟩ : ByteArray) = S at hN hs
  generalize ((beV (drawB xB.data.toList 2 8) % 9223372036854775808 : Nat) : Int) = z at hL
  rw [show z % 1 = 0 by omega] at hL
  replace hN := Lib.hid hN
  replace hC := Lib.hid hC
  replace hL := Lib.hid hL
  replace hW := Lib.hid hW
  go_enter Try.func6, Try.ntmps6
  go_upto_region 1 with fail
  have tok1 : True := trivial
  go_upto_region 2 with (first | (go_at_call 7; have _t := tok1; refine (hW.out _).mono ?_; rintro e w1 ⟨rfl, k1, hb1⟩; clear tok1) | (go_at_call 7; refine (hW.out _).mono ?_; rintro e w2 ⟨rfl, k2, hb2⟩))
  have hb12 := bl_call hb2 hb1
  have hz1 : w.heap.size < w1.heap.size := blk_lt k1
  replace k1 := grow_blk hb2 k1
  clear hb1 hb2 hW
  go_upto_region 3 with (first | (go_at_call 10; refine (hN.out _ _ k1).mono ?_; rintro e w3 ⟨rfl, k3, hT3⟩))
  replace k2 := (hT3.block _ (blk_lt k2) (by omega)).trans k2
  have hb3 := turn_below hb12 hT3 (Nat.le_refl _) hb12.size
  clear hT3 k1
  go_wp2_with (first | (go_at_call 10; refine (hN.out _ _ k2).mono ?_; rintro e w4 ⟨rfl, k4, hT4⟩; have k5 := (hT4.block _ (blk_lt k3) (by omega)).trans k3; have hb4 := turn_below hb3 hT4 (by omega) hb3.size) | (go_at_call 14; refine (hC.out _ _ k5).mono ?_; rintro e w5 ⟨rfl, hb5⟩; have k6 := grow_blk hb5 k5) | (go_at_call 13; refine (hL.out _ _ k6).mono ?_; rintro e w6 ⟨rfl, k7, hT6⟩))
  exact bodyPost_ret (v := .bool true) (by simp [results, Try.results6, go_sem]) rfl ⟨rfl, turn_below (bl_call hb5 hb4) hT6 (Nat.le_refl _) (bl_call hb5 hb4).size⟩
end Go.Proofs.Ytahbnjnpkhehdaa

/- attr.read: a server's last message, and of any other kind. -/
import Derived.Test.YtjigckibbjfkmaaGreatDoorMj
namespace Go.Proofs.YtjigckibbjfkmaaGreatDoor
open Go.RowKit
set_option maxRecDepth 100000
set_option linter.unusedSimpArgs false
set_option linter.unusedVariables false
set_option maxHeartbeats 8000000 in
theorem read_0 (k : Int) (hk1 : ¬ k = 1) (hk2 : ¬ k = 2) (hk3 : ¬ k = 3) (s : ByteArray) (hs : s.size ≤ 1000) (w : World) (he : Env w) : Calls Tryz.prog 34 #[.int .i64 k, .string s] w fun e w' => RdM k s.data.toList e ∧ Below w.heap.size w w' := by
  have hV := fun w he => values_c s ⟨#[118]⟩ (by omega) (by decide) w he
  have hE := fun w he => values_c s ⟨#[101]⟩ (by omega) (by decide) w he
  have hdl : s.data.toList.length ≤ 1000 := by rw [zlen]; omega
  have hR : readM k s.data.toList = some ⟨k, [], [], [], 0, [], (match valsM [118] s.data.toList with | some [a] => b64 a | _ => []), (match valsM [101] s.data.toList with | some [a] => a | _ => [])⟩ := by
    unfold readM
    rw [if_neg hk1, if_neg hk2, if_neg hk3]
    rfl
  have hS := valsM_size [118] s.data.toList
  have hT := valsM_size [101] s.data.toList
  have b1 : (k == 1) = false := beq_eq_false_iff_ne.2 hk1
  have b2 : (k == 2) = false := beq_eq_false_iff_ne.2 hk2
  have b3 : (k == 3) = false := beq_eq_false_iff_ne.2 hk3
  have e0 : (⟨#[118]⟩ : ByteArray).data.toList = [118] := rfl
  have e1 : (⟨#[101]⟩ : ByteArray).data.toList = [101] := rfl
  rw [e0] at hV
  rw [e1] at hE
  clear e0 e1
  cases hv : valsM [118] s.data.toList with
  | none =>
    rw [hv] at hV hR
    simp only [VaE] at hV
    clear hv
    cases he9 : valsM [101] s.data.toList with
    | none =>
      rw [he9] at hE hR
      simp only [VaE] at hE
      clear hS hT he9 hdl
      have hSz : SzT ⟨k, ⟨#[]⟩, ⟨#[]⟩, ⟨#[]⟩, 0, ⟨#[]⟩, ⟨#[]⟩, ⟨#[]⟩⟩ := ⟨bz0, bz0, bz0, bz0, bz0, bz0⟩
      replace hR := Lib.hid (show readM k s.data.toList = some (toM ⟨k, ⟨#[]⟩, ⟨#[]⟩, ⟨#[]⟩, 0, ⟨#[]⟩, ⟨#[]⟩, ⟨#[]⟩⟩) from hR)
      replace hV := Lib.hid hV
      replace hE := Lib.hid hE
      replace he := Lib.hid he
      go_enter Tryz.func34, Tryz.ntmps34
      go_upto_region 2 with fail
      have D := DR_new w #[.int .i64 0, .string ⟨#[]⟩, .string ⟨#[]⟩, .string ⟨#[]⟩, .int .i64 0, .string ⟨#[]⟩, .string ⟨#[]⟩, .string ⟨#[]⟩] #[.int .i64 k, .string ⟨#[]⟩, .string ⟨#[]⟩, .string ⟨#[]⟩, .int .i64 0, .string ⟨#[]⟩, .string ⟨#[]⟩, .string ⟨#[]⟩]
      refine gen_world fun W hW => ?_
      rw [← hW] at D
      clear hW
      obtain ⟨R, hR0⟩ : ∃ R, R = w.heap.size := ⟨_, rfl⟩
      obtain ⟨A, hA⟩ : ∃ A, A = w.heap.size + 1 := ⟨_, rfl⟩
      rw [← hA, ← hR0] at D
      rw [← hA, ← hR0]
      clear hA hR0
      have he2 := Lib.hid (he.out.below D.hW)
      go_upto_region 6 with (go_at_call 56; refine (hV.out _ he2.out).mono ?_; rintro e w6 ⟨rfl, hb6⟩; replace D := D.grow hb6)
      have he8 := Lib.hid (he.out.below D.hW)
      go_upto_region 26 with (go_at_call 56; refine (hE.out _ he8.out).mono ?_; rintro e w9 ⟨rfl, hb9⟩; replace D := D.grow hb9)
      replace D : DR w R A w9 #[.int .i64 0, .string ⟨#[]⟩, .string ⟨#[]⟩, .string ⟨#[]⟩, .int .i64 0, .string ⟨#[]⟩, .string ⟨#[]⟩, .string ⟨#[]⟩] #[.int .i64 k, .string ⟨#[]⟩, .string ⟨#[]⟩, .string ⟨#[]⟩, .int .i64 0, .string ⟨#[]⟩, .string ⟨#[]⟩, .string ⟨#[]⟩] := D
      have x0 := blk_cell D.kA 0
      have x1 := blk_cell D.kA 1
      have x2 := blk_cell D.kA 2
      have x3 := blk_cell D.kA 3
      have x4 := blk_cell D.kA 4
      have x5 := blk_cell D.kA 5
      have x6 := blk_cell D.kA 6
      have x7 := blk_cell D.kA 7
      have y0 := blk_cell D.kB 0
      have q0 := blk_frozen D.kB 0
      have y1 := blk_cell D.kB 1
      have q1 := blk_frozen D.kB 1
      have y2 := blk_cell D.kB 2
      have q2 := blk_frozen D.kB 2
      have y3 := blk_cell D.kB 3
      have q3 := blk_frozen D.kB 3
      have y4 := blk_cell D.kB 4
      have q4 := blk_frozen D.kB 4
      have y5 := blk_cell D.kB 5
      have q5 := blk_frozen D.kB 5
      have y6 := blk_cell D.kB 6
      have q6 := blk_frozen D.kB 6
      have y7 := blk_cell D.kB 7
      have q7 := blk_frozen D.kB 7
      go_wp2_with fail
      obtain ⟨W3, hW3, k3, hb3⟩ := Ret8 D rfl ⟨k, ⟨#[]⟩, ⟨#[]⟩, ⟨#[]⟩, 0, ⟨#[]⟩, ⟨#[]⟩, ⟨#[]⟩⟩
      simp only at hW3
      rw [← hW3]
      clear hW3 x0 y0 q0 x1 y1 q1 x2 y2 q2 x3 y3 q3 x4 y4 q4 x5 y5 q5 x6 y6 q6 x7 y7 q7
      exact bodyPost_ret (v := .tuple #[mv ⟨k, ⟨#[]⟩, ⟨#[]⟩, ⟨#[]⟩, 0, ⟨#[]⟩, ⟨#[]⟩, ⟨#[]⟩⟩, .bool true]) (by simp [results, Tryz.results34, go_sem, blk_cell k3 0, blk_cell k3 1, blk_cell k3 2, blk_cell k3 3, blk_cell k3 4, blk_cell k3 5, blk_cell k3 6, blk_cell k3 7, mv, mA]) rfl ⟨⟨_, true, rfl, hSz, .inl ⟨rfl, hR.out⟩⟩, hb3⟩
    | some l2 =>
      obtain ⟨lb, lz⟩ := hT _ he9
      obtain ⟨b, rfl⟩ : ∃ b, l2 = [b] := by
        match l2, lb with
        | [b], _ => exact ⟨b, rfl⟩
      rw [he9] at hE hR
      simp only [VaE, List.length_cons, List.length_nil] at hE
      have zb : b.length ≤ 1000 := Nat.le_trans (lz b (by simp)) hdl
      clear hS hT he9 lb lz hdl
      have hSz : SzT ⟨k, ⟨#[]⟩, ⟨#[]⟩, ⟨#[]⟩, 0, ⟨#[]⟩, ⟨#[]⟩, ⟨b.toArray⟩⟩ := ⟨bz0, bz0, bz0, bz0, bz0, bzl zb⟩
      replace hR := Lib.hid (show readM k s.data.toList = some (toM ⟨k, ⟨#[]⟩, ⟨#[]⟩, ⟨#[]⟩, 0, ⟨#[]⟩, ⟨#[]⟩, ⟨b.toArray⟩⟩) from hR)
      replace hV := Lib.hid hV
      replace hE := Lib.hid hE
      replace he := Lib.hid he
      go_enter Tryz.func34, Tryz.ntmps34
      go_upto_region 2 with fail
      have D := DR_new w #[.int .i64 0, .string ⟨#[]⟩, .string ⟨#[]⟩, .string ⟨#[]⟩, .int .i64 0, .string ⟨#[]⟩, .string ⟨#[]⟩, .string ⟨#[]⟩] #[.int .i64 k, .string ⟨#[]⟩, .string ⟨#[]⟩, .string ⟨#[]⟩, .int .i64 0, .string ⟨#[]⟩, .string ⟨#[]⟩, .string ⟨#[]⟩]
      refine gen_world fun W hW => ?_
      rw [← hW] at D
      clear hW
      obtain ⟨R, hR0⟩ : ∃ R, R = w.heap.size := ⟨_, rfl⟩
      obtain ⟨A, hA⟩ : ∃ A, A = w.heap.size + 1 := ⟨_, rfl⟩
      rw [← hA, ← hR0] at D
      rw [← hA, ← hR0]
      clear hA hR0
      have he2 := Lib.hid (he.out.below D.hW)
      go_upto_region 6 with (go_at_call 56; refine (hV.out _ he2.out).mono ?_; rintro e w6 ⟨rfl, hb6⟩; replace D := D.grow hb6)
      have he8 := Lib.hid (he.out.below D.hW)
      go_upto_region 8 with (go_at_call 56; refine (hE.out _ he8.out).mono ?_; rintro e w9 ⟨⟨g9, rfl, hgw9, hkg9⟩, hb9⟩; have hgA9 := Nat.lt_of_lt_of_le (blk_lt D.kA) hgw9; have D9 := D.grow hb9)
      have l9 : w9.cell? ⟨g9, 0, none⟩ = some (.string ⟨b.toArray⟩) := blk_cell hkg9 0
      have z7 := blk_frozen D9.kA 7
      have x7 := blk_cell D9.kA 7
      have D10 := D9.set 7 (.string ⟨b.toArray⟩)
      go_upto_region 26 with fail
      refine gen_world fun W5 hW5 => ?_
      rw [← hW5] at D10
      clear hW5 z7 x7 l9 hkg9 D9 D
      have D := D10
      clear D10
      replace D : DR w R A W5 #[.int .i64 0, .string ⟨#[]⟩, .string ⟨#[]⟩, .string ⟨#[]⟩, .int .i64 0, .string ⟨#[]⟩, .string ⟨#[]⟩, .string ⟨#[]⟩] #[.int .i64 k, .string ⟨#[]⟩, .string ⟨#[]⟩, .string ⟨#[]⟩, .int .i64 0, .string ⟨#[]⟩, .string ⟨#[]⟩, .string ⟨b.toArray⟩] := D
      have x0 := blk_cell D.kA 0
      have x1 := blk_cell D.kA 1
      have x2 := blk_cell D.kA 2
      have x3 := blk_cell D.kA 3
      have x4 := blk_cell D.kA 4
      have x5 := blk_cell D.kA 5
      have x6 := blk_cell D.kA 6
      have x7 := blk_cell D.kA 7
      have y0 := blk_cell D.kB 0
      have q0 := blk_frozen D.kB 0
      have y1 := blk_cell D.kB 1
      have q1 := blk_frozen D.kB 1
      have y2 := blk_cell D.kB 2
      have q2 := blk_frozen D.kB 2
      have y3 := blk_cell D.kB 3
      have q3 := blk_frozen D.kB 3
      have y4 := blk_cell D.kB 4
      have q4 := blk_frozen D.kB 4
      have y5 := blk_cell D.kB 5
      have q5 := blk_frozen D.kB 5
      have y6 := blk_cell D.kB 6
      have q6 := blk_frozen D.kB 6
      have y7 := blk_cell D.kB 7
      have q7 := blk_frozen D.kB 7
      go_wp2_with fail
      obtain ⟨W3, hW3, k3, hb3⟩ := Ret8 D rfl ⟨k, ⟨#[]⟩, ⟨#[]⟩, ⟨#[]⟩, 0, ⟨#[]⟩, ⟨#[]⟩, ⟨b.toArray⟩⟩
      simp only at hW3
      rw [← hW3]
      clear hW3 x0 y0 q0 x1 y1 q1 x2 y2 q2 x3 y3 q3 x4 y4 q4 x5 y5 q5 x6 y6 q6 x7 y7 q7
      exact bodyPost_ret (v := .tuple #[mv ⟨k, ⟨#[]⟩, ⟨#[]⟩, ⟨#[]⟩, 0, ⟨#[]⟩, ⟨#[]⟩, ⟨b.toArray⟩⟩, .bool true]) (by simp [results, Tryz.results34, go_sem, blk_cell k3 0, blk_cell k3 1, blk_cell k3 2, blk_cell k3 3, blk_cell k3 4, blk_cell k3 5, blk_cell k3 6, blk_cell k3 7, mv, mA]) rfl ⟨⟨_, true, rfl, hSz, .inl ⟨rfl, hR.out⟩⟩, hb3⟩
  | some l1 =>
    obtain ⟨la, laz⟩ := hS _ hv
    obtain ⟨a, rfl⟩ : ∃ a, l1 = [a] := by
      match l1, la with
      | [a], _ => exact ⟨a, rfl⟩
    rw [hv] at hV hR
    simp only [VaE, List.length_cons, List.length_nil] at hV
    have za : a.length ≤ 1000 := Nat.le_trans (laz a (by simp)) hdl
    have hB := fun w => bytes_c ⟨a.toArray⟩ (by rw [bsz]; omega) w
    rw [bldl] at hB
    have zy := Nat.le_trans (b64_le a) za
    simp only at hR
    generalize b64 a = Y at hB hR zy
    clear hv la laz
    cases he9 : valsM [101] s.data.toList with
    | none =>
      rw [he9] at hE hR
      simp only [VaE] at hE
      clear hS hT he9 hdl
      have hSz : SzT ⟨k, ⟨#[]⟩, ⟨#[]⟩, ⟨#[]⟩, 0, ⟨#[]⟩, ⟨Y.toArray⟩, ⟨#[]⟩⟩ := ⟨bz0, bz0, bz0, bz0, bzl zy, bz0⟩
      replace hR := Lib.hid (show readM k s.data.toList = some (toM ⟨k, ⟨#[]⟩, ⟨#[]⟩, ⟨#[]⟩, 0, ⟨#[]⟩, ⟨Y.toArray⟩, ⟨#[]⟩⟩) from hR)
      replace hV := Lib.hid hV
      replace hE := Lib.hid hE
      replace hB := Lib.hid hB
      replace he := Lib.hid he
      go_enter Tryz.func34, Tryz.ntmps34
      go_upto_region 2 with fail
      have D := DR_new w #[.int .i64 0, .string ⟨#[]⟩, .string ⟨#[]⟩, .string ⟨#[]⟩, .int .i64 0, .string ⟨#[]⟩, .string ⟨#[]⟩, .string ⟨#[]⟩] #[.int .i64 k, .string ⟨#[]⟩, .string ⟨#[]⟩, .string ⟨#[]⟩, .int .i64 0, .string ⟨#[]⟩, .string ⟨#[]⟩, .string ⟨#[]⟩]
      refine gen_world fun W hW => ?_
      rw [← hW] at D
      clear hW
      obtain ⟨R, hR0⟩ : ∃ R, R = w.heap.size := ⟨_, rfl⟩
      obtain ⟨A, hA⟩ : ∃ A, A = w.heap.size + 1 := ⟨_, rfl⟩
      rw [← hA, ← hR0] at D
      rw [← hA, ← hR0]
      clear hA hR0
      have he2 := Lib.hid (he.out.below D.hW)
      go_upto_region 5 with (go_at_call 56; refine (hV.out _ he2.out).mono ?_; rintro e w6 ⟨⟨g, rfl, hgw, hkg⟩, hb6⟩; have hgA := Nat.lt_of_lt_of_le (blk_lt D.kA) hgw; replace D := D.grow hb6; have he6 := Lib.hid (he2.out.below hb6))
      have l0 : w6.cell? ⟨g, 0, none⟩ = some (.string ⟨a.toArray⟩) := blk_cell hkg 0
      go_upto_region 6 with (go_at_call 57; refine (hB.out _).mono ?_; rintro e w7 ⟨rfl, hb7⟩; have D7 := D.grow hb7; have z6 := blk_frozen D7.kA 6; have x6 := blk_cell D7.kA 6)
      refine gen_world fun W4 hW4 => ?_
      have D8 := D7.set 6 (.string ⟨Y.toArray⟩)
      rw [← hW4] at D8
      clear hW4 z6 x6 l0 hkg D7 D
      have D := D8
      clear D8
      have he8 := Lib.hid (he.out.below D.hW)
      go_upto_region 26 with (go_at_call 56; refine (hE.out _ he8.out).mono ?_; rintro e w9 ⟨rfl, hb9⟩; replace D := D.grow hb9)
      replace D : DR w R A w9 #[.int .i64 0, .string ⟨#[]⟩, .string ⟨#[]⟩, .string ⟨#[]⟩, .int .i64 0, .string ⟨#[]⟩, .string ⟨#[]⟩, .string ⟨#[]⟩] #[.int .i64 k, .string ⟨#[]⟩, .string ⟨#[]⟩, .string ⟨#[]⟩, .int .i64 0, .string ⟨#[]⟩, .string ⟨Y.toArray⟩, .string ⟨#[]⟩] := D
      have x0 := blk_cell D.kA 0
      have x1 := blk_cell D.kA 1
      have x2 := blk_cell D.kA 2
      have x3 := blk_cell D.kA 3
      have x4 := blk_cell D.kA 4
      have x5 := blk_cell D.kA 5
      have x6 := blk_cell D.kA 6
      have x7 := blk_cell D.kA 7
      have y0 := blk_cell D.kB 0
      have q0 := blk_frozen D.kB 0
      have y1 := blk_cell D.kB 1
      have q1 := blk_frozen D.kB 1
      have y2 := blk_cell D.kB 2
      have q2 := blk_frozen D.kB 2
      have y3 := blk_cell D.kB 3
      have q3 := blk_frozen D.kB 3
      have y4 := blk_cell D.kB 4
      have q4 := blk_frozen D.kB 4
      have y5 := blk_cell D.kB 5
      have q5 := blk_frozen D.kB 5
      have y6 := blk_cell D.kB 6
      have q6 := blk_frozen D.kB 6
      have y7 := blk_cell D.kB 7
      have q7 := blk_frozen D.kB 7
      go_wp2_with fail
      obtain ⟨W3, hW3, k3, hb3⟩ := Ret8 D rfl ⟨k, ⟨#[]⟩, ⟨#[]⟩, ⟨#[]⟩, 0, ⟨#[]⟩, ⟨Y.toArray⟩, ⟨#[]⟩⟩
      simp only at hW3
      rw [← hW3]
      clear hW3 x0 y0 q0 x1 y1 q1 x2 y2 q2 x3 y3 q3 x4 y4 q4 x5 y5 q5 x6 y6 q6 x7 y7 q7
      exact bodyPost_ret (v := .tuple #[mv ⟨k, ⟨#[]⟩, ⟨#[]⟩, ⟨#[]⟩, 0, ⟨#[]⟩, ⟨Y.toArray⟩, ⟨#[]⟩⟩, .bool true]) (by simp [results, Tryz.results34, go_sem, blk_cell k3 0, blk_cell k3 1, blk_cell k3 2, blk_cell k3 3, blk_cell k3 4, blk_cell k3 5, blk_cell k3 6, blk_cell k3 7, mv, mA]) rfl ⟨⟨_, true, rfl, hSz, .inl ⟨rfl, hR.out⟩⟩, hb3⟩
    | some l2 =>
      obtain ⟨lb, lz⟩ := hT _ he9
      obtain ⟨b, rfl⟩ : ∃ b, l2 = [b] := by
        match l2, lb with
        | [b], _ => exact ⟨b, rfl⟩
      rw [he9] at hE hR
      simp only [VaE, List.length_cons, List.length_nil] at hE
      have zb : b.length ≤ 1000 := Nat.le_trans (lz b (by simp)) hdl
      clear hS hT he9 lb lz hdl
      have hSz : SzT ⟨k, ⟨#[]⟩, ⟨#[]⟩, ⟨#[]⟩, 0, ⟨#[]⟩, ⟨Y.toArray⟩, ⟨b.toArray⟩⟩ := ⟨bz0, bz0, bz0, bz0, bzl zy, bzl zb⟩
      replace hR := Lib.hid (show readM k s.data.toList = some (toM ⟨k, ⟨#[]⟩, ⟨#[]⟩, ⟨#[]⟩, 0, ⟨#[]⟩, ⟨Y.toArray⟩, ⟨b.toArray⟩⟩) from hR)
      replace hV := Lib.hid hV
      replace hE := Lib.hid hE
      replace hB := Lib.hid hB
      replace he := Lib.hid he
      go_enter Tryz.func34, Tryz.ntmps34
      go_upto_region 2 with fail
      have D := DR_new w #[.int .i64 0, .string ⟨#[]⟩, .string ⟨#[]⟩, .string ⟨#[]⟩, .int .i64 0, .string ⟨#[]⟩, .string ⟨#[]⟩, .string ⟨#[]⟩] #[.int .i64 k, .string ⟨#[]⟩, .string ⟨#[]⟩, .string ⟨#[]⟩, .int .i64 0, .string ⟨#[]⟩, .string ⟨#[]⟩, .string ⟨#[]⟩]
      refine gen_world fun W hW => ?_
      rw [← hW] at D
      clear hW
      obtain ⟨R, hR0⟩ : ∃ R, R = w.heap.size := ⟨_, rfl⟩
      obtain ⟨A, hA⟩ : ∃ A, A = w.heap.size + 1 := ⟨_, rfl⟩
      rw [← hA, ← hR0] at D
      rw [← hA, ← hR0]
      clear hA hR0
      have he2 := Lib.hid (he.out.below D.hW)
      go_upto_region 5 with (go_at_call 56; refine (hV.out _ he2.out).mono ?_; rintro e w6 ⟨⟨g, rfl, hgw, hkg⟩, hb6⟩; have hgA := Nat.lt_of_lt_of_le (blk_lt D.kA) hgw; replace D := D.grow hb6; have he6 := Lib.hid (he2.out.below hb6))
      have l0 : w6.cell? ⟨g, 0, none⟩ = some (.string ⟨a.toArray⟩) := blk_cell hkg 0
      go_upto_region 6 with (go_at_call 57; refine (hB.out _).mono ?_; rintro e w7 ⟨rfl, hb7⟩; have D7 := D.grow hb7; have z6 := blk_frozen D7.kA 6; have x6 := blk_cell D7.kA 6)
      refine gen_world fun W4 hW4 => ?_
      have D8 := D7.set 6 (.string ⟨Y.toArray⟩)
      rw [← hW4] at D8
      clear hW4 z6 x6 l0 hkg D7 D
      have D := D8
      clear D8
      have he8 := Lib.hid (he.out.below D.hW)
      go_upto_region 8 with (go_at_call 56; refine (hE.out _ he8.out).mono ?_; rintro e w9 ⟨⟨g9, rfl, hgw9, hkg9⟩, hb9⟩; have hgA9 := Nat.lt_of_lt_of_le (blk_lt D.kA) hgw9; have D9 := D.grow hb9)
      have l9 : w9.cell? ⟨g9, 0, none⟩ = some (.string ⟨b.toArray⟩) := blk_cell hkg9 0
      have z7 := blk_frozen D9.kA 7
      have x7 := blk_cell D9.kA 7
      have D10 := D9.set 7 (.string ⟨b.toArray⟩)
      go_upto_region 26 with fail
      refine gen_world fun W5 hW5 => ?_
      rw [← hW5] at D10
      clear hW5 z7 x7 l9 hkg9 D9 D
      have D := D10
      clear D10
      replace D : DR w R A W5 #[.int .i64 0, .string ⟨#[]⟩, .string ⟨#[]⟩, .string ⟨#[]⟩, .int .i64 0, .string ⟨#[]⟩, .string ⟨#[]⟩, .string ⟨#[]⟩] #[.int .i64 k, .string ⟨#[]⟩, .string ⟨#[]⟩, .string ⟨#[]⟩, .int .i64 0, .string ⟨#[]⟩, .string ⟨Y.toArray⟩, .string ⟨b.toArray⟩] := D
      have x0 := blk_cell D.kA 0
      have x1 := blk_cell D.kA 1
      have x2 := blk_cell D.kA 2
      have x3 := blk_cell D.kA 3
      have x4 := blk_cell D.kA 4
      have x5 := blk_cell D.kA 5
      have x6 := blk_cell D.kA 6
      have x7 := blk_cell D.kA 7
      have y0 := blk_cell D.kB 0
      have q0 := blk_frozen D.kB 0
      have y1 := blk_cell D.kB 1
      have q1 := blk_frozen D.kB 1
      have y2 := blk_cell D.kB 2
      have q2 := blk_frozen D.kB 2
      have y3 := blk_cell D.kB 3
      have q3 := blk_frozen D.kB 3
      have y4 := blk_cell D.kB 4
      have q4 := blk_frozen D.kB 4
      have y5 := blk_cell D.kB 5
      have q5 := blk_frozen D.kB 5
      have y6 := blk_cell D.kB 6
      have q6 := blk_frozen D.kB 6
      have y7 := blk_cell D.kB 7
      have q7 := blk_frozen D.kB 7
      go_wp2_with fail
      obtain ⟨W3, hW3, k3, hb3⟩ := Ret8 D rfl ⟨k, ⟨#[]⟩, ⟨#[]⟩, ⟨#[]⟩, 0, ⟨#[]⟩, ⟨Y.toArray⟩, ⟨b.toArray⟩⟩
      simp only at hW3
      rw [← hW3]
      clear hW3 x0 y0 q0 x1 y1 q1 x2 y2 q2 x3 y3 q3 x4 y4 q4 x5 y5 q5 x6 y6 q6 x7 y7 q7
      exact bodyPost_ret (v := .tuple #[mv ⟨k, ⟨#[]⟩, ⟨#[]⟩, ⟨#[]⟩, 0, ⟨#[]⟩, ⟨Y.toArray⟩, ⟨b.toArray⟩⟩, .bool true]) (by simp [results, Tryz.results34, go_sem, blk_cell k3 0, blk_cell k3 1, blk_cell k3 2, blk_cell k3 3, blk_cell k3 4, blk_cell k3 5, blk_cell k3 6, blk_cell k3 7, mv, mA]) rfl ⟨⟨_, true, rfl, hSz, .inl ⟨rfl, hR.out⟩⟩, hb3⟩
end Go.Proofs.YtjigckibbjfkmaaGreatDoor

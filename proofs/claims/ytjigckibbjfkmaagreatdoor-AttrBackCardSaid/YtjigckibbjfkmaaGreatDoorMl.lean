/- attr.read: a client's last message. -/
import Derived.Test.YtjigckibbjfkmaaGreatDoorMj
namespace Go.Proofs.YtjigckibbjfkmaaGreatDoor
open Go.RowKit
set_option maxRecDepth 100000
set_option linter.unusedSimpArgs false
set_option linter.unusedVariables false
set_option maxHeartbeats 4000000 in
theorem read_3 (s : ByteArray) (hs : s.size ≤ 1000) (w : World) (he : Env w) : Calls Tryz.prog 34 #[.int .i64 3, .string s] w fun e w' => RdM 3 s.data.toList e ∧ Below w.heap.size w w' := by
  have hV := fun w he => values_c s ⟨#[99, 114, 112]⟩ (by omega) (by decide) w he
  have hdl : s.data.toList.length ≤ 1000 := by rw [zlen]; omega
  have hR : readM 3 s.data.toList = match valsM [99, 114, 112] s.data.toList with
    | some [_, b, c] => some ⟨3, [], b, [], 0, b64 c, [], []⟩
    | _ => none := rfl
  have hS := valsM_size [99, 114, 112] s.data.toList
  have e0 : (⟨#[99, 114, 112]⟩ : ByteArray).data.toList = [99, 114, 112] := rfl
  rw [e0] at hV
  clear e0
  cases hv : valsM [99, 114, 112] s.data.toList with
  | none =>
    rw [hv] at hV hR
    replace hR := Lib.hid (show readM 3 s.data.toList = none from hR)
    simp only [VaE] at hV
    have hSz := SzT_zero 3
    replace hV := Lib.hid hV
    clear hS hdl hv
    replace he := Lib.hid he
    go_enter Tryz.func34, Tryz.ntmps34
    go_upto_region 2 with fail
    have D := DR_new w #[.int .i64 0, .string ⟨#[]⟩, .string ⟨#[]⟩, .string ⟨#[]⟩, .int .i64 0, .string ⟨#[]⟩, .string ⟨#[]⟩, .string ⟨#[]⟩] #[.int .i64 3, .string ⟨#[]⟩, .string ⟨#[]⟩, .string ⟨#[]⟩, .int .i64 0, .string ⟨#[]⟩, .string ⟨#[]⟩, .string ⟨#[]⟩]
    refine gen_world fun W hW => ?_
    rw [← hW] at D
    clear hW
    obtain ⟨R, hR0⟩ : ∃ R, R = w.heap.size := ⟨_, rfl⟩
    obtain ⟨A, hA⟩ : ∃ A, A = w.heap.size + 1 := ⟨_, rfl⟩
    rw [← hA, ← hR0] at D
    rw [← hA, ← hR0]
    clear hA hR0
    have he2 := Lib.hid (he.out.below D.hW)
    go_upto_region 24 with (go_at_call 56; refine (hV.out _ he2.out).mono ?_; rintro e w6 ⟨rfl, hb6⟩; replace D := D.grow hb6)
    have x0 := blk_cell D.kA 0
    have x1 := blk_cell D.kA 1
    have x2 := blk_cell D.kA 2
    have x3 := blk_cell D.kA 3
    have x4 := blk_cell D.kA 4
    have x5 := blk_cell D.kA 5
    have x6 := blk_cell D.kA 6
    have x7 := blk_cell D.kA 7
    have y0 := blk_cell D.kB 0
    have q0 := blk_frozen D.kB 0
    have y1 := blk_cell D.kB 1
    have q1 := blk_frozen D.kB 1
    have y2 := blk_cell D.kB 2
    have q2 := blk_frozen D.kB 2
    have y3 := blk_cell D.kB 3
    have q3 := blk_frozen D.kB 3
    have y4 := blk_cell D.kB 4
    have q4 := blk_frozen D.kB 4
    have y5 := blk_cell D.kB 5
    have q5 := blk_frozen D.kB 5
    have y6 := blk_cell D.kB 6
    have q6 := blk_frozen D.kB 6
    have y7 := blk_cell D.kB 7
    have q7 := blk_frozen D.kB 7
    go_wp2_with fail
    obtain ⟨W3, hW3, k3, hb3⟩ := Ret8 D rfl ⟨3, ⟨#[]⟩, ⟨#[]⟩, ⟨#[]⟩, 0, ⟨#[]⟩, ⟨#[]⟩, ⟨#[]⟩⟩
    simp only at hW3
    rw [← hW3]
    clear hW3 x0 y0 q0 x1 y1 q1 x2 y2 q2 x3 y3 q3 x4 y4 q4 x5 y5 q5 x6 y6 q6 x7 y7 q7
    exact bodyPost_ret (v := .tuple #[mv ⟨3, ⟨#[]⟩, ⟨#[]⟩, ⟨#[]⟩, 0, ⟨#[]⟩, ⟨#[]⟩, ⟨#[]⟩⟩, .bool false]) (by simp [results, Tryz.results34, go_sem, blk_cell k3 0, blk_cell k3 1, blk_cell k3 2, blk_cell k3 3, blk_cell k3 4, blk_cell k3 5, blk_cell k3 6, blk_cell k3 7, mv, mA]) rfl ⟨⟨_, false, rfl, hSz, .inr ⟨rfl, hR.out⟩⟩, hb3⟩
  | some l =>
    obtain ⟨hl, hz⟩ := hS l hv
    obtain ⟨a, b, c, rfl⟩ : ∃ a b c, l = [a, b, c] := by
      match l, hl with
      | [a, b, c], _ => exact ⟨a, b, c, rfl⟩
    rw [hv] at hV hR
    simp only [VaE, List.length_cons, List.length_nil] at hV
    have za : a.length ≤ 1000 := Nat.le_trans (hz a (by simp)) hdl
    have zb : b.length ≤ 1000 := Nat.le_trans (hz b (by simp)) hdl
    have zc : c.length ≤ 1000 := Nat.le_trans (hz c (by simp)) hdl
    replace hV := Lib.hid hV
    clear hdl hv hl hz hS
    replace hR := Lib.hid (show readM 3 s.data.toList = some ⟨3, [], b, [], 0, b64 c, [], []⟩ from hR)
    have hB := fun w => bytes_c ⟨c.toArray⟩ (by rw [bsz]; omega) w
    rw [bldl] at hB
    have zy := Nat.le_trans (b64_le c) zc
    generalize b64 c = Y at hB hR zy
    have hSz : SzT ⟨3, ⟨#[]⟩, ⟨b.toArray⟩, ⟨#[]⟩, 0, ⟨Y.toArray⟩, ⟨#[]⟩, ⟨#[]⟩⟩ := ⟨bz0, bzl zb, bz0, bzl zy, bz0, bz0⟩
    replace hB := Lib.hid hB
    replace he := Lib.hid he
    go_enter Tryz.func34, Tryz.ntmps34
    go_upto_region 2 with fail
    have D := DR_new w #[.int .i64 0, .string ⟨#[]⟩, .string ⟨#[]⟩, .string ⟨#[]⟩, .int .i64 0, .string ⟨#[]⟩, .string ⟨#[]⟩, .string ⟨#[]⟩] #[.int .i64 3, .string ⟨#[]⟩, .string ⟨#[]⟩, .string ⟨#[]⟩, .int .i64 0, .string ⟨#[]⟩, .string ⟨#[]⟩, .string ⟨#[]⟩]
    refine gen_world fun W hW => ?_
    rw [← hW] at D
    clear hW
    obtain ⟨R, hR0⟩ : ∃ R, R = w.heap.size := ⟨_, rfl⟩
    obtain ⟨A, hA⟩ : ∃ A, A = w.heap.size + 1 := ⟨_, rfl⟩
    rw [← hA, ← hR0] at D
    rw [← hA, ← hR0]
    clear hA hR0
    have he2 := Lib.hid (he.out.below D.hW)
    go_upto_region 23 with (go_at_call 56; refine (hV.out _ he2.out).mono ?_; rintro e w6 ⟨⟨g, rfl, hgw, hkg⟩, hb6⟩; have hgA := Nat.lt_of_lt_of_le (blk_lt D.kA) hgw; replace D := D.grow hb6; have he6 := Lib.hid (he2.out.below hb6))
    have l1 : w6.cell? ⟨g, 1, none⟩ = some (.string ⟨b.toArray⟩) := blk_cell hkg 1
    have l2 : w6.cell? ⟨g, 2, none⟩ = some (.string ⟨c.toArray⟩) := blk_cell hkg 2
    go_upto_region 25 with fail
    have z2 := blk_frozen D.kA 2
    have x2 := blk_cell D.kA 2
    have z5 := blk_frozen D.kA 5
    have x5 := blk_cell D.kA 5
    go_region_with (go_at_call 57; refine (hB.out _).mono ?_; rintro e w7 ⟨rfl, hb7⟩; have hc7 : Below w6.heap.size w6 w7 := bl_call hb7 (bl_drew (Below.refl _ _)); have m1 := grow_cell hc7 l1; have m2 := grow_cell hc7 l2; have D7 := D.grow hc7; have t2 := blk_frozen D7.kA 2; have u2 := blk_cell D7.kA 2; have t5 := blk_frozen D7.kA 5; have u5 := blk_cell D7.kA 5)
    all_goals (
      have D8 := (D7.set 2 (.string ⟨b.toArray⟩)).set 5 (.string ⟨Y.toArray⟩)
      generalize hW4 : (w7.setCell ⟨A, 2, none⟩ (.string ⟨b.toArray⟩)).setCell ⟨A, 5, none⟩ (.string ⟨Y.toArray⟩) = W4
      rw [hW4] at D8
      clear hW4 D7 t2 u2 t5 u5 m1 m2 l1 l2 z2 x2 z5 x5 D hkg
      go_upto_region 26 with fail
      have D : DR w R A W4 #[.int .i64 0, .string ⟨#[]⟩, .string ⟨#[]⟩, .string ⟨#[]⟩, .int .i64 0, .string ⟨#[]⟩, .string ⟨#[]⟩, .string ⟨#[]⟩] #[.int .i64 3, .string ⟨#[]⟩, .string ⟨b.toArray⟩, .string ⟨#[]⟩, .int .i64 0, .string ⟨Y.toArray⟩, .string ⟨#[]⟩, .string ⟨#[]⟩] := D8
      clear D8
      have x0 := blk_cell D.kA 0
      have x1 := blk_cell D.kA 1
      have x2 := blk_cell D.kA 2
      have x3 := blk_cell D.kA 3
      have x4 := blk_cell D.kA 4
      have x5 := blk_cell D.kA 5
      have x6 := blk_cell D.kA 6
      have x7 := blk_cell D.kA 7
      have y0 := blk_cell D.kB 0
      have q0 := blk_frozen D.kB 0
      have y1 := blk_cell D.kB 1
      have q1 := blk_frozen D.kB 1
      have y2 := blk_cell D.kB 2
      have q2 := blk_frozen D.kB 2
      have y3 := blk_cell D.kB 3
      have q3 := blk_frozen D.kB 3
      have y4 := blk_cell D.kB 4
      have q4 := blk_frozen D.kB 4
      have y5 := blk_cell D.kB 5
      have q5 := blk_frozen D.kB 5
      have y6 := blk_cell D.kB 6
      have q6 := blk_frozen D.kB 6
      have y7 := blk_cell D.kB 7
      have q7 := blk_frozen D.kB 7
      go_wp2_with fail
      obtain ⟨W3, hW3, k3, hb3⟩ := Ret8 D rfl ⟨3, ⟨#[]⟩, ⟨b.toArray⟩, ⟨#[]⟩, 0, ⟨Y.toArray⟩, ⟨#[]⟩, ⟨#[]⟩⟩
      simp only at hW3
      rw [← hW3]
      clear hW3 x0 y0 q0 x1 y1 q1 x2 y2 q2 x3 y3 q3 x4 y4 q4 x5 y5 q5 x6 y6 q6 x7 y7 q7
      exact bodyPost_ret (v := .tuple #[mv ⟨3, ⟨#[]⟩, ⟨b.toArray⟩, ⟨#[]⟩, 0, ⟨Y.toArray⟩, ⟨#[]⟩, ⟨#[]⟩⟩, .bool true]) (by simp [results, Tryz.results34, go_sem, blk_cell k3 0, blk_cell k3 1, blk_cell k3 2, blk_cell k3 3, blk_cell k3 4, blk_cell k3 5, blk_cell k3 6, blk_cell k3 7, mv, mA]) rfl ⟨⟨_, true, rfl, hSz, .inl ⟨rfl, hR.out⟩⟩, hb3⟩)
end Go.Proofs.YtjigckibbjfkmaaGreatDoor

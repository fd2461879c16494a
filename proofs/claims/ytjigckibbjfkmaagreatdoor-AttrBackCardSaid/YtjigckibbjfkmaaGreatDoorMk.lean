/- attr.read: a server's first message. -/
import Derived.Test.YtjigckibbjfkmaaGreatDoorMj
namespace Go.Proofs.YtjigckibbjfkmaaGreatDoor
open Go.RowKit
set_option maxRecDepth 100000
set_option linter.unusedSimpArgs false
set_option linter.unusedVariables false
/-- Atoi of a word of up to nine signs, whatever it says. -/
theorem Atoi9_c (l : List UInt8) (hl : l.length ≤ 9) (w : World) (he : Env w) : Calls Tryz.prog 58 #[.string ⟨l.toArray⟩] w fun e w' => (∃ v, e = .returned (.tuple #[.int .i64 (atoi9 l), v])) ∧ Below w.heap.size w w' := by
  have hz : (⟨l.toArray⟩ : ByteArray).size ≤ 18 := by rw [bsz]; omega
  unfold atoi9
  cases ha : Lib.atoi l with
  | some n =>
    refine (Tryz.strconv_Atoi ⟨l.toArray⟩ n hz (by rw [bldl]; exact ha) w).mono ?_
    rintro e w' ⟨rfl, t, rfl⟩
    exact ⟨⟨_, rfl⟩, Lib.bytesWorld_below _ _ _⟩
  | none =>
    obtain ⟨tp, p, hv⟩ := he.e1
    refine (Tryz.strconv_Atoi_err_var ⟨l.toArray⟩ hz (by rw [bldl]; exact ha) tp p w hv).mono ?_
    rintro e w' ⟨N, rfl, _, _, hb⟩
    exact ⟨⟨_, rfl⟩, hb⟩
set_option maxHeartbeats 4000000 in
theorem read_2 (s : ByteArray) (hs : s.size ≤ 1000) (w : World) (he : Env w) : Calls Tryz.prog 34 #[.int .i64 2, .string s] w fun e w' => RdM 2 s.data.toList e ∧ Below w.heap.size w w' := by
  have hV := fun w he => values_c s ⟨#[114, 115, 105]⟩ (by omega) (by decide) w he
  have hdl : s.data.toList.length ≤ 1000 := by rw [zlen]; omega
  have hR : readM 2 s.data.toList = match valsM [114, 115, 105] s.data.toList with
    | some [a, b, c] => if 9 < c.length then none else some ⟨2, [], a, b64 b, atoi9 c, [], [], []⟩
    | _ => none := rfl
  have hS := valsM_size [114, 115, 105] s.data.toList
  have e0 : (⟨#[114, 115, 105]⟩ : ByteArray).data.toList = [114, 115, 105] := rfl
  rw [e0] at hV
  clear e0
  cases hv : valsM [114, 115, 105] s.data.toList with
  | none =>
    rw [hv] at hV hR
    replace hR := Lib.hid (show readM 2 s.data.toList = none from hR)
    simp only [VaE] at hV
    have hSz := SzT_zero 2
    replace hV := Lib.hid hV
    clear hS hdl hv
    replace he := Lib.hid he
    go_enter Tryz.func34, Tryz.ntmps34
    go_upto_region 2 with fail
    have D := DR_new w #[.int .i64 0, .string ⟨#[]⟩, .string ⟨#[]⟩, .string ⟨#[]⟩, .int .i64 0, .string ⟨#[]⟩, .string ⟨#[]⟩, .string ⟨#[]⟩] #[.int .i64 2, .string ⟨#[]⟩, .string ⟨#[]⟩, .string ⟨#[]⟩, .int .i64 0, .string ⟨#[]⟩, .string ⟨#[]⟩, .string ⟨#[]⟩]
    refine gen_world fun W hW => ?_
    rw [← hW] at D
    clear hW
    obtain ⟨R, hR0⟩ : ∃ R, R = w.heap.size := ⟨_, rfl⟩
    obtain ⟨A, hA⟩ : ∃ A, A = w.heap.size + 1 := ⟨_, rfl⟩
    rw [← hA, ← hR0] at D
    rw [← hA, ← hR0]
    clear hA hR0
    have he2 := Lib.hid (he.out.below D.hW)
    go_upto_region 18 with (go_at_call 56; refine (hV.out _ he2.out).mono ?_; rintro e w6 ⟨rfl, hb6⟩; replace D := D.grow hb6)
    have x0 := blk_cell D.kA 0
    have x1 := blk_cell D.kA 1
    have x2 := blk_cell D.kA 2
    have x3 := blk_cell D.kA 3
    have x4 := blk_cell D.kA 4
    have x5 := blk_cell D.kA 5
    have x6 := blk_cell D.kA 6
    have x7 := blk_cell D.kA 7
    have y0 := blk_cell D.kB 0
    have q0 := blk_frozen D.kB 0
    have y1 := blk_cell D.kB 1
    have q1 := blk_frozen D.kB 1
    have y2 := blk_cell D.kB 2
    have q2 := blk_frozen D.kB 2
    have y3 := blk_cell D.kB 3
    have q3 := blk_frozen D.kB 3
    have y4 := blk_cell D.kB 4
    have q4 := blk_frozen D.kB 4
    have y5 := blk_cell D.kB 5
    have q5 := blk_frozen D.kB 5
    have y6 := blk_cell D.kB 6
    have q6 := blk_frozen D.kB 6
    have y7 := blk_cell D.kB 7
    have q7 := blk_frozen D.kB 7
    go_wp2_with fail
    obtain ⟨W3, hW3, k3, hb3⟩ := Ret8 D rfl ⟨2, ⟨#[]⟩, ⟨#[]⟩, ⟨#[]⟩, 0, ⟨#[]⟩, ⟨#[]⟩, ⟨#[]⟩⟩
    simp only at hW3
    rw [← hW3]
    clear hW3 x0 y0 q0 x1 y1 q1 x2 y2 q2 x3 y3 q3 x4 y4 q4 x5 y5 q5 x6 y6 q6 x7 y7 q7
    exact bodyPost_ret (v := .tuple #[mv ⟨2, ⟨#[]⟩, ⟨#[]⟩, ⟨#[]⟩, 0, ⟨#[]⟩, ⟨#[]⟩, ⟨#[]⟩⟩, .bool false]) (by simp [results, Tryz.results34, go_sem, blk_cell k3 0, blk_cell k3 1, blk_cell k3 2, blk_cell k3 3, blk_cell k3 4, blk_cell k3 5, blk_cell k3 6, blk_cell k3 7, mv, mA]) rfl ⟨⟨_, false, rfl, hSz, .inr ⟨rfl, hR.out⟩⟩, hb3⟩
  | some l =>
    obtain ⟨hl, hz⟩ := hS l hv
    obtain ⟨a, b, c, rfl⟩ : ∃ a b c, l = [a, b, c] := by
      match l, hl with
      | [a, b, c], _ => exact ⟨a, b, c, rfl⟩
    rw [hv] at hV hR
    simp only [VaE, List.length_cons, List.length_nil] at hV
    have za : a.length ≤ 1000 := Nat.le_trans (hz a (by simp)) hdl
    have zb : b.length ≤ 1000 := Nat.le_trans (hz b (by simp)) hdl
    have zc : c.length ≤ 1000 := Nat.le_trans (hz c (by simp)) hdl
    replace hV := Lib.hid hV
    clear hdl hv hl hz hS
    by_cases h9 : 9 < c.length
    · replace hR := Lib.hid (show readM 2 s.data.toList = none by rw [hR]; exact if_pos h9)
      have h9I : 9 < (c.length : Int) := by omega
      have hSz := SzT_zero 2
      clear h9
      replace he := Lib.hid he
      go_enter Tryz.func34, Tryz.ntmps34
      go_upto_region 2 with fail
      have D := DR_new w #[.int .i64 0, .string ⟨#[]⟩, .string ⟨#[]⟩, .string ⟨#[]⟩, .int .i64 0, .string ⟨#[]⟩, .string ⟨#[]⟩, .string ⟨#[]⟩] #[.int .i64 2, .string ⟨#[]⟩, .string ⟨#[]⟩, .string ⟨#[]⟩, .int .i64 0, .string ⟨#[]⟩, .string ⟨#[]⟩, .string ⟨#[]⟩]
      refine gen_world fun W hW => ?_
      rw [← hW] at D
      clear hW
      obtain ⟨R, hR0⟩ : ∃ R, R = w.heap.size := ⟨_, rfl⟩
      obtain ⟨A, hA⟩ : ∃ A, A = w.heap.size + 1 := ⟨_, rfl⟩
      rw [← hA, ← hR0] at D
      rw [← hA, ← hR0]
      clear hA hR0
      have he2 := Lib.hid (he.out.below D.hW)
      go_upto_region 17 with (go_at_call 56; refine (hV.out _ he2.out).mono ?_; rintro e w6 ⟨⟨g, rfl, hgw, hkg⟩, hb6⟩; have hgA := Nat.lt_of_lt_of_le (blk_lt D.kA) hgw; replace D := D.grow hb6; have he6 := Lib.hid (he2.out.below hb6))
      have l2 : w6.cell? ⟨g, 2, none⟩ = some (.string ⟨c.toArray⟩) := blk_cell hkg 2
      have c9 := bsz c
      have h9J : 9 < ((⟨c.toArray⟩ : ByteArray).size : Int) := by omega
      go_upto_region 18 with fail
      have x0 := blk_cell D.kA 0
      have x1 := blk_cell D.kA 1
      have x2 := blk_cell D.kA 2
      have x3 := blk_cell D.kA 3
      have x4 := blk_cell D.kA 4
      have x5 := blk_cell D.kA 5
      have x6 := blk_cell D.kA 6
      have x7 := blk_cell D.kA 7
      have y0 := blk_cell D.kB 0
      have q0 := blk_frozen D.kB 0
      have y1 := blk_cell D.kB 1
      have q1 := blk_frozen D.kB 1
      have y2 := blk_cell D.kB 2
      have q2 := blk_frozen D.kB 2
      have y3 := blk_cell D.kB 3
      have q3 := blk_frozen D.kB 3
      have y4 := blk_cell D.kB 4
      have q4 := blk_frozen D.kB 4
      have y5 := blk_cell D.kB 5
      have q5 := blk_frozen D.kB 5
      have y6 := blk_cell D.kB 6
      have q6 := blk_frozen D.kB 6
      have y7 := blk_cell D.kB 7
      have q7 := blk_frozen D.kB 7
      go_wp2_with fail
      obtain ⟨W3, hW3, k3, hb3⟩ := Ret8 D rfl ⟨2, ⟨#[]⟩, ⟨#[]⟩, ⟨#[]⟩, 0, ⟨#[]⟩, ⟨#[]⟩, ⟨#[]⟩⟩
      simp only at hW3
      rw [← hW3]
      clear hW3 x0 y0 q0 x1 y1 q1 x2 y2 q2 x3 y3 q3 x4 y4 q4 x5 y5 q5 x6 y6 q6 x7 y7 q7
      exact bodyPost_ret (v := .tuple #[mv ⟨2, ⟨#[]⟩, ⟨#[]⟩, ⟨#[]⟩, 0, ⟨#[]⟩, ⟨#[]⟩, ⟨#[]⟩⟩, .bool false]) (by simp [results, Tryz.results34, go_sem, blk_cell k3 0, blk_cell k3 1, blk_cell k3 2, blk_cell k3 3, blk_cell k3 4, blk_cell k3 5, blk_cell k3 6, blk_cell k3 7, mv, mA]) rfl ⟨⟨_, false, rfl, hSz, .inr ⟨rfl, hR.out⟩⟩, hb3⟩
    have h9 : c.length ≤ 9 := by omega
    replace hR := Lib.hid (show readM 2 s.data.toList = some ⟨2, [], a, b64 b, atoi9 c, [], [], []⟩ by rw [hR]; exact if_neg (by omega))
    have h9I : ¬ 9 < (c.length : Int) := by omega
    have c9 := bsz c
    have h9J : ¬ 9 < ((⟨c.toArray⟩ : ByteArray).size : Int) := by omega
    have hB := fun w => bytes_c ⟨b.toArray⟩ (by rw [bsz]; omega) w
    rw [bldl] at hB
    have zy := Nat.le_trans (b64_le b) zb
    have hI := fun w he => Atoi9_c c h9 w he
    generalize atoi9 c = I at hI hR
    generalize b64 b = Y at hB hR zy
    have hSz : SzT ⟨2, ⟨#[]⟩, ⟨a.toArray⟩, ⟨Y.toArray⟩, I, ⟨#[]⟩, ⟨#[]⟩, ⟨#[]⟩⟩ := ⟨bz0, bzl za, bzl zy, bz0, bz0, bz0⟩
    clear h9 c9
    replace hB := Lib.hid hB
    replace hI := Lib.hid hI
    replace he := Lib.hid he
    go_enter Tryz.func34, Tryz.ntmps34
    go_upto_region 2 with fail
    have D := DR_new w #[.int .i64 0, .string ⟨#[]⟩, .string ⟨#[]⟩, .string ⟨#[]⟩, .int .i64 0, .string ⟨#[]⟩, .string ⟨#[]⟩, .string ⟨#[]⟩] #[.int .i64 2, .string ⟨#[]⟩, .string ⟨#[]⟩, .string ⟨#[]⟩, .int .i64 0, .string ⟨#[]⟩, .string ⟨#[]⟩, .string ⟨#[]⟩]
    refine gen_world fun W hW => ?_
    rw [← hW] at D
    clear hW
    obtain ⟨R, hR0⟩ : ∃ R, R = w.heap.size := ⟨_, rfl⟩
    obtain ⟨A, hA⟩ : ∃ A, A = w.heap.size + 1 := ⟨_, rfl⟩
    rw [← hA, ← hR0] at D
    rw [← hA, ← hR0]
    clear hA hR0
    have he2 := Lib.hid (he.out.below D.hW)
    go_upto_region 17 with (go_at_call 56; refine (hV.out _ he2.out).mono ?_; rintro e w6 ⟨⟨g, rfl, hgw, hkg⟩, hb6⟩; have hgA := Nat.lt_of_lt_of_le (blk_lt D.kA) hgw; replace D := D.grow hb6; have he6 := Lib.hid (he2.out.below hb6))
    have l0 : w6.cell? ⟨g, 0, none⟩ = some (.string ⟨a.toArray⟩) := blk_cell hkg 0
    have l1 : w6.cell? ⟨g, 1, none⟩ = some (.string ⟨b.toArray⟩) := blk_cell hkg 1
    have l2 : w6.cell? ⟨g, 2, none⟩ = some (.string ⟨c.toArray⟩) := blk_cell hkg 2
    go_upto_region 19 with fail
    have z2 := blk_frozen D.kA 2
    have x2 := blk_cell D.kA 2
    have z3 := blk_frozen D.kA 3
    have x3 := blk_cell D.kA 3
    go_region_with (go_at_call 57; refine (hB.out _).mono ?_; rintro e w7 ⟨rfl, hb7⟩; have hc7 : Below w6.heap.size w6 w7 := bl_call hb7 (bl_drew (Below.refl _ _)); have m0 := grow_cell hc7 l0; have m1 := grow_cell hc7 l1; have D7 := D.grow hc7; have t2 := blk_frozen D7.kA 2; have u2 := blk_cell D7.kA 2; have t3 := blk_frozen D7.kA 3; have u3 := blk_cell D7.kA 3)
    all_goals (
      have D8 := (D7.set 2 (.string ⟨a.toArray⟩)).set 3 (.string ⟨Y.toArray⟩)
      replace hkg := grow_blk hc7 hkg
      generalize hW4 : (w7.setCell ⟨A, 2, none⟩ (.string ⟨a.toArray⟩)).setCell ⟨A, 3, none⟩ (.string ⟨Y.toArray⟩) = W4
      rw [hW4] at D8
      replace hkg : W4.heap[g]? = some (.cells #[.string ⟨a.toArray⟩, .string ⟨b.toArray⟩, .string ⟨c.toArray⟩] 9 (0, 0)) := by rw [← hW4]; exact blk_far (blk_far hkg (by simp; omega) _) (by simp; omega) _
      clear hW4 D7 t2 u2 t3 u3 m0 m1 l0 l1 l2 z2 x2 z3 x3 D
      have l2 : W4.cell? ⟨g, 2, none⟩ = some (.string ⟨c.toArray⟩) := blk_cell hkg 2
      have he4 := Lib.hid (he.out.below D8.hW)
      go_upto_region 26 with (go_at_call 58; refine (hI.out _ he4.out).mono ?_; rintro e w8 ⟨⟨vv, rfl⟩, hb8⟩; have D9 := D8.grow hb8; have z4 := blk_frozen D9.kA 4; have x4 := blk_cell D9.kA 4)
      refine gen_world fun W5 hW5 => ?_
      have D := D9.set 4 (.int .i64 I)
      rw [← hW5] at D
      clear hW5 z4 x4 l2 D9 D8 hkg
      replace D : DR w R A W5 #[.int .i64 0, .string ⟨#[]⟩, .string ⟨#[]⟩, .string ⟨#[]⟩, .int .i64 0, .string ⟨#[]⟩, .string ⟨#[]⟩, .string ⟨#[]⟩] #[.int .i64 2, .string ⟨#[]⟩, .string ⟨a.toArray⟩, .string ⟨Y.toArray⟩, .int .i64 I, .string ⟨#[]⟩, .string ⟨#[]⟩, .string ⟨#[]⟩] := D
      have x0 := blk_cell D.kA 0
      have x1 := blk_cell D.kA 1
      have x2 := blk_cell D.kA 2
      have x3 := blk_cell D.kA 3
      have x4 := blk_cell D.kA 4
      have x5 := blk_cell D.kA 5
      have x6 := blk_cell D.kA 6
      have x7 := blk_cell D.kA 7
      have y0 := blk_cell D.kB 0
      have q0 := blk_frozen D.kB 0
      have y1 := blk_cell D.kB 1
      have q1 := blk_frozen D.kB 1
      have y2 := blk_cell D.kB 2
      have q2 := blk_frozen D.kB 2
      have y3 := blk_cell D.kB 3
      have q3 := blk_frozen D.kB 3
      have y4 := blk_cell D.kB 4
      have q4 := blk_frozen D.kB 4
      have y5 := blk_cell D.kB 5
      have q5 := blk_frozen D.kB 5
      have y6 := blk_cell D.kB 6
      have q6 := blk_frozen D.kB 6
      have y7 := blk_cell D.kB 7
      have q7 := blk_frozen D.kB 7
      go_wp2_with fail
      obtain ⟨W3, hW3, k3, hb3⟩ := Ret8 D rfl ⟨2, ⟨#[]⟩, ⟨a.toArray⟩, ⟨Y.toArray⟩, I, ⟨#[]⟩, ⟨#[]⟩, ⟨#[]⟩⟩
      simp only at hW3
      rw [← hW3]
      clear hW3 x0 y0 q0 x1 y1 q1 x2 y2 q2 x3 y3 q3 x4 y4 q4 x5 y5 q5 x6 y6 q6 x7 y7 q7
      exact bodyPost_ret (v := .tuple #[mv ⟨2, ⟨#[]⟩, ⟨a.toArray⟩, ⟨Y.toArray⟩, I, ⟨#[]⟩, ⟨#[]⟩, ⟨#[]⟩⟩, .bool true]) (by simp [results, Tryz.results34, go_sem, blk_cell k3 0, blk_cell k3 1, blk_cell k3 2, blk_cell k3 3, blk_cell k3 4, blk_cell k3 5, blk_cell k3 6, blk_cell k3 7, mv, mA]) rfl ⟨⟨_, true, rfl, hSz, .inl ⟨rfl, hR.out⟩⟩, hb3⟩)
end Go.Proofs.YtjigckibbjfkmaaGreatDoor

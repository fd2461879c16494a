/- attr.read: a client's first message. -/
import Derived.Test.YtjigckibbjfkmaaGreatDoorMi
namespace Go.Proofs.YtjigckibbjfkmaaGreatDoor
open Go.RowKit
set_option maxRecDepth 100000
set_option linter.unusedSimpArgs false
set_option linter.unusedVariables false
theorem SzT_zero (k : Int) : SzT ⟨k, ⟨#[]⟩, ⟨#[]⟩, ⟨#[]⟩, 0, ⟨#[]⟩, ⟨#[]⟩, ⟨#[]⟩⟩ := ⟨Nat.zero_le _, Nat.zero_le _, Nat.zero_le _, Nat.zero_le _, Nat.zero_le _, Nat.zero_le _⟩
theorem bz0 : (⟨#[]⟩ : ByteArray).size ≤ 2000 := Nat.zero_le _
theorem bzl {l : List UInt8} (h : l.length ≤ 1000) : (⟨l.toArray⟩ : ByteArray).size ≤ 2000 := by rw [bsz]; omega
set_option maxHeartbeats 2000000 in
theorem read_1 (s : ByteArray) (hs : s.size ≤ 1000) (w : World) (he : Env w) : Calls Tryz.prog 34 #[.int .i64 1, .string s] w fun e w' => RdM 1 s.data.toList e ∧ Below w.heap.size w w' := by
  have hBa := fun w => Bare_c s (by omega) w
  have hdl : (s.data.toList.drop 3).length ≤ 1000 := by rw [List.length_drop, zlen]; omega
  have hV := fun w he => values_c ⟨(s.data.toList.drop 3).toArray⟩ ⟨#[110, 114]⟩ (by rw [bsz]; omega) (by decide) w he
  rw [bldl] at hV
  have hR : readM 1 s.data.toList = match valsM [110, 114] (s.data.toList.drop 3) with
    | some [a, b] => some ⟨1, (unescR a).getD [], b, [], 0, [], [], []⟩
    | _ => none := rfl
  have hS := valsM_size [110, 114] (s.data.toList.drop 3)
  have e0 : (⟨#[110, 114]⟩ : ByteArray).data.toList = [110, 114] := rfl
  rw [e0] at hV
  clear e0
  generalize s.data.toList.drop 3 = BL at hBa hV hR hS hdl
  cases hv : valsM [110, 114] BL with
  | none =>
    rw [hv] at hV hR
    replace hR := Lib.hid (show readM 1 s.data.toList = none from hR)
    simp only [VaE] at hV
    have hSz := SzT_zero 1
    replace hV := Lib.hid hV
    clear hS hdl hv
    replace he := Lib.hid he
    go_enter Tryz.func34, Tryz.ntmps34
    go_upto_region 2 with fail
    have D := DR_new w #[.int .i64 0, .string ⟨#[]⟩, .string ⟨#[]⟩, .string ⟨#[]⟩, .int .i64 0, .string ⟨#[]⟩, .string ⟨#[]⟩, .string ⟨#[]⟩] #[.int .i64 1, .string ⟨#[]⟩, .string ⟨#[]⟩, .string ⟨#[]⟩, .int .i64 0, .string ⟨#[]⟩, .string ⟨#[]⟩, .string ⟨#[]⟩]
    refine gen_world fun W hW => ?_
    rw [← hW] at D
    clear hW
    obtain ⟨R, hR0⟩ : ∃ R, R = w.heap.size := ⟨_, rfl⟩
    obtain ⟨A, hA⟩ : ∃ A, A = w.heap.size + 1 := ⟨_, rfl⟩
    rw [← hA, ← hR0] at D
    rw [← hA, ← hR0]
    clear hA hR0
    have he2 := Lib.hid (he.out.below D.hW)
    go_upto_region 12 with (first | (go_at_call 18; refine (hBa _).mono ?_; rintro e w5 ⟨rfl, hb5⟩; replace D := D.grow hb5; have he5 := Lib.hid (he2.out.below hb5)) | (go_at_call 56; refine (hV.out _ he5.out).mono ?_; rintro e w6 ⟨rfl, hb6⟩; replace D := D.grow hb6))
    have x0 := blk_cell D.kA 0
    have x1 := blk_cell D.kA 1
    have x2 := blk_cell D.kA 2
    have x3 := blk_cell D.kA 3
    have x4 := blk_cell D.kA 4
    have x5 := blk_cell D.kA 5
    have x6 := blk_cell D.kA 6
    have x7 := blk_cell D.kA 7
    have y0 := blk_cell D.kB 0
    have q0 := blk_frozen D.kB 0
    have y1 := blk_cell D.kB 1
    have q1 := blk_frozen D.kB 1
    have y2 := blk_cell D.kB 2
    have q2 := blk_frozen D.kB 2
    have y3 := blk_cell D.kB 3
    have q3 := blk_frozen D.kB 3
    have y4 := blk_cell D.kB 4
    have q4 := blk_frozen D.kB 4
    have y5 := blk_cell D.kB 5
    have q5 := blk_frozen D.kB 5
    have y6 := blk_cell D.kB 6
    have q6 := blk_frozen D.kB 6
    have y7 := blk_cell D.kB 7
    have q7 := blk_frozen D.kB 7
    go_wp2_with fail
    obtain ⟨W3, hW3, k3, hb3⟩ := Ret8 D rfl ⟨1, ⟨#[]⟩, ⟨#[]⟩, ⟨#[]⟩, 0, ⟨#[]⟩, ⟨#[]⟩, ⟨#[]⟩⟩
    simp only at hW3
    rw [← hW3]
    clear hW3 x0 y0 q0 x1 y1 q1 x2 y2 q2 x3 y3 q3 x4 y4 q4 x5 y5 q5 x6 y6 q6 x7 y7 q7
    exact bodyPost_ret (v := .tuple #[mv ⟨1, ⟨#[]⟩, ⟨#[]⟩, ⟨#[]⟩, 0, ⟨#[]⟩, ⟨#[]⟩, ⟨#[]⟩⟩, .bool false]) (by simp [results, Tryz.results34, go_sem, blk_cell k3 0, blk_cell k3 1, blk_cell k3 2, blk_cell k3 3, blk_cell k3 4, blk_cell k3 5, blk_cell k3 6, blk_cell k3 7, mv, mA]) rfl ⟨⟨_, false, rfl, hSz, .inr ⟨rfl, hR.out⟩⟩, hb3⟩
  | some l =>
    obtain ⟨hl, hz⟩ := hS l hv
    obtain ⟨a, b, rfl⟩ : ∃ a b, l = [a, b] := by
      match l, hl with
      | [a, b], _ => exact ⟨a, b, rfl⟩
    rw [hv] at hV hR
    replace hR := Lib.hid (show readM 1 s.data.toList = some ⟨1, (unescR a).getD [], b, [], 0, [], [], []⟩ from hR)
    simp only [VaE, List.length_cons, List.length_nil] at hV
    have za : a.length ≤ 1000 := Nat.le_trans (hz a (by simp)) hdl
    have zb : b.length ≤ 1000 := Nat.le_trans (hz b (by simp)) hdl
    have hU := fun w he => Unescape_c ⟨a.toArray⟩ (by rw [bsz]; omega) w he
    rw [bldl] at hU
    have zu := Nat.le_trans (unesc_le a) za
    obtain ⟨ub, hub⟩ := unV_form (unescR a)
    rw [hub] at hU
    generalize (unescR a).getD [] = U at hU hR zu
    have hSz : SzT ⟨1, ⟨U.toArray⟩, ⟨b.toArray⟩, ⟨#[]⟩, 0, ⟨#[]⟩, ⟨#[]⟩, ⟨#[]⟩⟩ := ⟨bzl zu, bzl zb, bz0, bz0, bz0, bz0⟩
    replace hV := Lib.hid hV
    replace hU := Lib.hid hU
    clear hdl hv hub hl hz
    replace he := Lib.hid he
    go_enter Tryz.func34, Tryz.ntmps34
    go_upto_region 2 with fail
    have D := DR_new w #[.int .i64 0, .string ⟨#[]⟩, .string ⟨#[]⟩, .string ⟨#[]⟩, .int .i64 0, .string ⟨#[]⟩, .string ⟨#[]⟩, .string ⟨#[]⟩] #[.int .i64 1, .string ⟨#[]⟩, .string ⟨#[]⟩, .string ⟨#[]⟩, .int .i64 0, .string ⟨#[]⟩, .string ⟨#[]⟩, .string ⟨#[]⟩]
    refine gen_world fun W hW => ?_
    rw [← hW] at D
    clear hW
    obtain ⟨R, hR0⟩ : ∃ R, R = w.heap.size := ⟨_, rfl⟩
    obtain ⟨A, hA⟩ : ∃ A, A = w.heap.size + 1 := ⟨_, rfl⟩
    rw [← hA, ← hR0] at D
    rw [← hA, ← hR0]
    clear hA hR0
    have he2 := Lib.hid (he.out.below D.hW)
    go_upto_region 13 with (first | (go_at_call 18; refine (hBa _).mono ?_; rintro e w5 ⟨rfl, hb5⟩; replace D := D.grow hb5; have he5 := Lib.hid (he2.out.below hb5)) | (go_at_call 56; refine (hV.out _ he5.out).mono ?_; rintro e w6 ⟨⟨g, rfl, hgw, hkg⟩, hb6⟩; have hgA := Nat.lt_of_lt_of_le (blk_lt D.kA) hgw; replace D := D.grow hb6; have he6 := Lib.hid (he5.out.below hb6)))
    have l0 : w6.cell? ⟨g, 0, none⟩ = some (.string ⟨a.toArray⟩) := blk_cell hkg 0
    go_upto_region 14 with (go_at_call 15; refine (hU.out _ he6.out).mono ?_; rintro e w7 ⟨rfl, hb7⟩; replace D := D.grow hb7; replace hkg := grow_blk hb7 hkg; have z1 := blk_frozen D.kA 1; have x1 := blk_cell D.kA 1)
    refine gen_world fun W4 hW4 => ?_
    have D4 := D.set 1 (.string ⟨U.toArray⟩)
    rw [← hW4] at D4
    replace hkg : W4.heap[g]? = some (.cells #[.string ⟨a.toArray⟩, .string ⟨b.toArray⟩] 9 (0, 0)) := by rw [hW4]; exact blk_far hkg (by simp; omega) _
    clear hW4 D z1 x1 l0
    have l1 : W4.cell? ⟨g, 1, none⟩ = some (.string ⟨b.toArray⟩) := blk_cell hkg 1
    have z2 := blk_frozen D4.kA 2
    have x2 := blk_cell D4.kA 2
    have D5 := D4.set 2 (.string ⟨b.toArray⟩)
    go_upto_region 26 with fail
    refine gen_world fun W5 hW5 => ?_
    rw [← hW5] at D5
    clear hW5 z2 x2 l1 D4 hkg
    replace D5 : DR w R A W5 #[.int .i64 0, .string ⟨#[]⟩, .string ⟨#[]⟩, .string ⟨#[]⟩, .int .i64 0, .string ⟨#[]⟩, .string ⟨#[]⟩, .string ⟨#[]⟩] #[.int .i64 1, .string ⟨U.toArray⟩, .string ⟨b.toArray⟩, .string ⟨#[]⟩, .int .i64 0, .string ⟨#[]⟩, .string ⟨#[]⟩, .string ⟨#[]⟩] := D5
    have x0 := blk_cell D5.kA 0
    have x1 := blk_cell D5.kA 1
    have x2 := blk_cell D5.kA 2
    have x3 := blk_cell D5.kA 3
    have x4 := blk_cell D5.kA 4
    have x5 := blk_cell D5.kA 5
    have x6 := blk_cell D5.kA 6
    have x7 := blk_cell D5.kA 7
    have y0 := blk_cell D5.kB 0
    have q0 := blk_frozen D5.kB 0
    have y1 := blk_cell D5.kB 1
    have q1 := blk_frozen D5.kB 1
    have y2 := blk_cell D5.kB 2
    have q2 := blk_frozen D5.kB 2
    have y3 := blk_cell D5.kB 3
    have q3 := blk_frozen D5.kB 3
    have y4 := blk_cell D5.kB 4
    have q4 := blk_frozen D5.kB 4
    have y5 := blk_cell D5.kB 5
    have q5 := blk_frozen D5.kB 5
    have y6 := blk_cell D5.kB 6
    have q6 := blk_frozen D5.kB 6
    have y7 := blk_cell D5.kB 7
    have q7 := blk_frozen D5.kB 7
    go_wp2_with fail
    obtain ⟨W3, hW3, k3, hb3⟩ := Ret8 D5 rfl ⟨1, ⟨U.toArray⟩, ⟨b.toArray⟩, ⟨#[]⟩, 0, ⟨#[]⟩, ⟨#[]⟩, ⟨#[]⟩⟩
    simp only at hW3
    rw [← hW3]
    clear hW3 x0 y0 q0 x1 y1 q1 x2 y2 q2 x3 y3 q3 x4 y4 q4 x5 y5 q5 x6 y6 q6 x7 y7 q7
    exact bodyPost_ret (v := .tuple #[mv ⟨1, ⟨U.toArray⟩, ⟨b.toArray⟩, ⟨#[]⟩, 0, ⟨#[]⟩, ⟨#[]⟩, ⟨#[]⟩⟩, .bool true]) (by simp [results, Tryz.results34, go_sem, blk_cell k3 0, blk_cell k3 1, blk_cell k3 2, blk_cell k3 3, blk_cell k3 4, blk_cell k3 5, blk_cell k3 6, blk_cell k3 7, mv, mA]) rfl ⟨⟨_, true, rfl, hSz, .inl ⟨rfl, hR.out⟩⟩, hb3⟩
end Go.Proofs.YtjigckibbjfkmaaGreatDoor

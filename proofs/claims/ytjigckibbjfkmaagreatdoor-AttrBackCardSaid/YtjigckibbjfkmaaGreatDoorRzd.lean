/- Reference 33: Decode, kind 3. -/
import Derived.Test.YtjigckibbjfkmaaGreatDoorRza
namespace Go.Proofs.YtjigckibbjfkmaaGreatDoor
open Go.RowKit
set_option maxRecDepth 100000
set_option linter.unusedSimpArgs false
set_option linter.unusedVariables false
set_option maxHeartbeats 8000000 in
theorem rDec_3 (s : ByteArray) (hs : s.size ≤ 1000) (w : World) (he : Env w) : Calls Tryz.prog 13 #[.int .i64 3, .string s] w fun e w' => RcM 3 s.data.toList e ∧ Below w.heap.size w w' := by
  have hSp := fun w => rSplit_c s 44 (by omega) w
  rw [show (((44 : UInt8).toNat : Nat) : Int) = 44 from rfl] at hSp
  have hpl := split_part 44 s.data.toList
  have hdl : s.data.toList.length ≤ 1000 := by rw [zlen]; omega
  have hn1 := dm3n s.data.toList
  have h1 := dm3 s.data.toList
  unfold RcM
  generalize splitL 44 s.data.toList = PS at hSp hpl hn1 h1
  by_cases h4 : PS.length = 3
  case neg =>
    have hno : RowKit.Hid (decM 3 s.data.toList = none) := Lib.hid (hn1 (fun c d q => h4 (by rw [q]; rfl)))
    have i4 : ((PS.length : Int) != 3) = true := bne_iff_ne.2 (by omega)
    have j4 : ¬ (PS.length : Int) = 3 := by omega
    clear h1 hn1 hpl
    replace he := Lib.hid he
    go_enter Tryz.func13, Tryz.ntmps13
    go_upto_region 2 with fail
    have D := DR_new w #[.int .i64 0, .string ⟨#[]⟩, .string ⟨#[]⟩, .string ⟨#[]⟩, .int .i64 0, .string ⟨#[]⟩, .string ⟨#[]⟩, .string ⟨#[]⟩] #[.int .i64 3, .string ⟨#[]⟩, .string ⟨#[]⟩, .string ⟨#[]⟩, .int .i64 0, .string ⟨#[]⟩, .string ⟨#[]⟩, .string ⟨#[]⟩]
    refine gen_world fun W hW => ?_
    rw [← hW] at D
    clear hW
    obtain ⟨R, hR0⟩ : ∃ R, R = w.heap.size := ⟨_, rfl⟩
    obtain ⟨A, hA⟩ : ∃ A, A = w.heap.size + 1 := ⟨_, rfl⟩
    rw [← hA, ← hR0] at D
    rw [← hA, ← hR0]
    clear hA hR0
    go_upto_region 27 with (go_at_call 35; refine (hSp _).mono ?_; rintro e w1 ⟨⟨g, cap, rfl, HO⟩, hb1⟩)
    obtain ⟨hgw, cur, hkg, hcur⟩ := own_blk HO
    have hgA : A < g := Nat.lt_of_lt_of_le (blk_lt D.kA) hgw
    replace D := D.grow hb1
    clear HO hgw
    have y0 := blk_cell D.kB 0
    have q0 := blk_frozen D.kB 0
    have y1 := blk_cell D.kB 1
    have q1 := blk_frozen D.kB 1
    have y2 := blk_cell D.kB 2
    have q2 := blk_frozen D.kB 2
    have y3 := blk_cell D.kB 3
    have q3 := blk_frozen D.kB 3
    have y4 := blk_cell D.kB 4
    have q4 := blk_frozen D.kB 4
    have y5 := blk_cell D.kB 5
    have q5 := blk_frozen D.kB 5
    have y6 := blk_cell D.kB 6
    have q6 := blk_frozen D.kB 6
    have y7 := blk_cell D.kB 7
    have q7 := blk_frozen D.kB 7
    go_wp2_with fail
    obtain ⟨W9, hW9, k9, hb9⟩ := Ret8 D rfl noM
    simp only [noM] at hW9
    rw [← hW9]
    clear hW9
    exact bodyPost_ret (v := .tuple #[mv noM, .bool false]) (by simp [results, Tryz.results13, go_sem, blk_cell k9 0, blk_cell k9 1, blk_cell k9 2, blk_cell k9 3, blk_cell k9 4, blk_cell k9 5, blk_cell k9 6, blk_cell k9 7, mv, mA, noM]) rfl ⟨⟨noM, false, rfl, noM_sz, .inr ⟨rfl, rfl, hno.out⟩⟩, hb9⟩
  obtain ⟨a, b, c, rfl⟩ : ∃ a b c, PS = [a, b, c] := by
    match PS, h4 with
    | [a, b, c], _ => exact ⟨a, b, c, rfl⟩
  clear h4
  simp only [List.length_cons, List.length_nil, List.map_cons, List.map_nil] at hSp
  by_cases ha : a = [99, 61, 98, 105, 119, 115]
  case neg =>
    have hno : RowKit.Hid (decM 3 s.data.toList = none) := Lib.hid (hn1 (fun c d q => ha (by cases q; rfl)))
    obtain ⟨i1, j1⟩ := dfs (s := ⟨a.toArray⟩) (l := [99, 61, 98, 105, 119, 115]) (by simpa using ha)
    clear h1 hn1 hpl ha
    replace he := Lib.hid he
    go_enter Tryz.func13, Tryz.ntmps13
    go_upto_region 2 with fail
    have D := DR_new w #[.int .i64 0, .string ⟨#[]⟩, .string ⟨#[]⟩, .string ⟨#[]⟩, .int .i64 0, .string ⟨#[]⟩, .string ⟨#[]⟩, .string ⟨#[]⟩] #[.int .i64 3, .string ⟨#[]⟩, .string ⟨#[]⟩, .string ⟨#[]⟩, .int .i64 0, .string ⟨#[]⟩, .string ⟨#[]⟩, .string ⟨#[]⟩]
    refine gen_world fun W hW => ?_
    rw [← hW] at D
    clear hW
    obtain ⟨R, hR0⟩ : ∃ R, R = w.heap.size := ⟨_, rfl⟩
    obtain ⟨A, hA⟩ : ∃ A, A = w.heap.size + 1 := ⟨_, rfl⟩
    rw [← hA, ← hR0] at D
    rw [← hA, ← hR0]
    clear hA hR0
    go_upto_region 26 with (go_at_call 35; refine (hSp _).mono ?_; rintro e w1 ⟨⟨g, cap, rfl, HO⟩, hb1⟩)
    obtain ⟨hgw, cur, hkg, hcur⟩ := own_blk HO
    have hgA : A < g := Nat.lt_of_lt_of_le (blk_lt D.kA) hgw
    replace D := D.grow hb1
    clear HO hgw
    have l0 := (blk_cell hkg 0).trans (hcur 0 (.string ⟨a.toArray⟩) rfl)
    generalize (⟨a.toArray⟩ : ByteArray) = SA at l0 i1 j1
    have y0 := blk_cell D.kB 0
    have q0 := blk_frozen D.kB 0
    have y1 := blk_cell D.kB 1
    have q1 := blk_frozen D.kB 1
    have y2 := blk_cell D.kB 2
    have q2 := blk_frozen D.kB 2
    have y3 := blk_cell D.kB 3
    have q3 := blk_frozen D.kB 3
    have y4 := blk_cell D.kB 4
    have q4 := blk_frozen D.kB 4
    have y5 := blk_cell D.kB 5
    have q5 := blk_frozen D.kB 5
    have y6 := blk_cell D.kB 6
    have q6 := blk_frozen D.kB 6
    have y7 := blk_cell D.kB 7
    have q7 := blk_frozen D.kB 7
    go_wp2_with fail
    obtain ⟨W9, hW9, k9, hb9⟩ := Ret8 D rfl noM
    simp only [noM] at hW9
    rw [← hW9]
    clear hW9
    exact bodyPost_ret (v := .tuple #[mv noM, .bool false]) (by simp [results, Tryz.results13, go_sem, blk_cell k9 0, blk_cell k9 1, blk_cell k9 2, blk_cell k9 3, blk_cell k9 4, blk_cell k9 5, blk_cell k9 6, blk_cell k9 7, mv, mA, noM]) rfl ⟨⟨noM, false, rfl, noM_sz, .inr ⟨rfl, rfl, hno.out⟩⟩, hb9⟩
  subst ha
  have hdm := h1 b c rfl
  have zb := Nat.le_trans (hpl b (by simp)) hdl
  have zc := Nat.le_trans (hpl c (by simp)) hdl
  clear h1 hn1 hpl hdl
  have hp1 := fun w => rPart_c b 114 w
  have hp2 := fun w => rPart_c c 112 w
  have zx := Nat.le_trans (part_le 114 b) zb
  have zy := Nat.le_trans (part_le 112 c) zc
  have hd := fun w => rDec_c ((partC 112 c).getD []) zy w
  have zu := Nat.le_trans (dec_le ((partC 112 c).getD [])) zy
  generalize (decL ((partC 112 c).getD [])).getD [] = U at hd hdm zu
  generalize (decL ((partC 112 c).getD [])).isSome = b3 at hd hdm
  generalize (partC 114 b).getD [] = X at hp1 hdm zx
  generalize (partC 114 b).isSome = b1 at hp1 hdm
  generalize (partC 112 c).getD [] = Y at hp2 hd
  generalize (partC 112 c).isSome = b2 at hp2 hdm
  have hsz : SzT ⟨3, ⟨#[]⟩, ⟨X.toArray⟩, ⟨#[]⟩, 0, ⟨U.toArray⟩, ⟨#[]⟩, ⟨#[]⟩⟩ := ⟨bz0, bzl zx, bz0, bzl zu, bz0, bz0⟩
  replace hp1 := Lib.hid hp1
  replace hp2 := Lib.hid hp2
  replace hd := Lib.hid hd
  replace hdm := Lib.hid hdm
  cases b1
  case false =>
    cases b2
    case false =>
      cases b3
      case false =>
        have hno : RowKit.Hid (decM 3 s.data.toList = none) := Lib.hid hdm.out
        replace he := Lib.hid he
        go_enter Tryz.func13, Tryz.ntmps13
        go_upto_region 2 with fail
        have D := DR_new w #[.int .i64 0, .string ⟨#[]⟩, .string ⟨#[]⟩, .string ⟨#[]⟩, .int .i64 0, .string ⟨#[]⟩, .string ⟨#[]⟩, .string ⟨#[]⟩] #[.int .i64 3, .string ⟨#[]⟩, .string ⟨#[]⟩, .string ⟨#[]⟩, .int .i64 0, .string ⟨#[]⟩, .string ⟨#[]⟩, .string ⟨#[]⟩]
        refine gen_world fun W hW => ?_
        rw [← hW] at D
        clear hW
        obtain ⟨R, hR0⟩ : ∃ R, R = w.heap.size := ⟨_, rfl⟩
        obtain ⟨A, hA⟩ : ∃ A, A = w.heap.size + 1 := ⟨_, rfl⟩
        rw [← hA, ← hR0] at D
        rw [← hA, ← hR0]
        clear hA hR0
        go_upto_region 26 with (go_at_call 35; refine (hSp _).mono ?_; rintro e w1 ⟨⟨g, cap, rfl, HO⟩, hb1⟩)
        obtain ⟨hgw, cur, hkg, hcur⟩ := own_blk HO
        have hgA : A < g := Nat.lt_of_lt_of_le (blk_lt D.kA) hgw
        replace D := D.grow hb1
        clear HO hgw
        have l0 := (blk_cell hkg 0).trans (hcur 0 (.string ⟨#[99, 61, 98, 105, 119, 115]⟩) rfl)
        go_upto_region 28 with fail
        clear l0
        have l1 := (blk_cell hkg 1).trans (hcur 1 (.string ⟨b.toArray⟩) rfl)
        go_upto_region 30 with (go_at_call 36; with_reducible refine (hp1.out _).mono ?_; rintro e w1 ⟨rfl, hb2⟩; have Dn := D.grow hb2; have zf := blk_frozen Dn.kA 2; have xf := blk_cell Dn.kA 2)
        replace hkg := grow_blk hb2 hkg
        have Dm := Dn.set 2 (.string ⟨X.toArray⟩)
        refine gen_world fun V3 hV3 => ?_
        rw [← hV3] at Dm
        replace hkg : V3.heap[g]? = some (.cells cur 9 (0, 0)) := by rw [hV3]; exact blk_far hkg (by simp; omega) _
        clear hV3 zf xf D Dn l1
        have D : DR w R A V3 #[.int .i64 0, .string ⟨#[]⟩, .string ⟨#[]⟩, .string ⟨#[]⟩, .int .i64 0, .string ⟨#[]⟩, .string ⟨#[]⟩, .string ⟨#[]⟩] #[.int .i64 3, .string ⟨#[]⟩, .string ⟨X.toArray⟩, .string ⟨#[]⟩, .int .i64 0, .string ⟨#[]⟩, .string ⟨#[]⟩, .string ⟨#[]⟩] := Dm
        clear Dm
        have l2 := (blk_cell hkg 2).trans (hcur 2 (.string ⟨c.toArray⟩) rfl)
        go_upto_region 31 with (go_at_call 36; with_reducible refine (hp2.out _).mono ?_; rintro e w4 ⟨rfl, hb5⟩; have Dn := D.grow hb5)
        clear l2
        replace D := Dn
        clear Dn
        replace hkg := grow_blk hb5 hkg
        go_upto_region 41 with (go_at_call 37; with_reducible refine (hd.out _).mono ?_; rintro e w6 ⟨rfl, hb7⟩; have Dn := D.grow hb7; have zf := blk_frozen Dn.kA 5; have xf := blk_cell Dn.kA 5)
        replace hkg := grow_blk hb7 hkg
        have Dm := Dn.set 5 (.string ⟨U.toArray⟩)
        refine gen_world fun V8 hV8 => ?_
        rw [← hV8] at Dm
        replace hkg : V8.heap[g]? = some (.cells cur 9 (0, 0)) := by rw [hV8]; exact blk_far hkg (by simp; omega) _
        clear hV8 zf xf D Dn 
        have D : DR w R A V8 #[.int .i64 0, .string ⟨#[]⟩, .string ⟨#[]⟩, .string ⟨#[]⟩, .int .i64 0, .string ⟨#[]⟩, .string ⟨#[]⟩, .string ⟨#[]⟩] #[.int .i64 3, .string ⟨#[]⟩, .string ⟨X.toArray⟩, .string ⟨#[]⟩, .int .i64 0, .string ⟨U.toArray⟩, .string ⟨#[]⟩, .string ⟨#[]⟩] := Dm
        clear Dm
        have y0 := blk_cell D.kB 0
        have q0 := blk_frozen D.kB 0
        have y1 := blk_cell D.kB 1
        have q1 := blk_frozen D.kB 1
        have y2 := blk_cell D.kB 2
        have q2 := blk_frozen D.kB 2
        have y3 := blk_cell D.kB 3
        have q3 := blk_frozen D.kB 3
        have y4 := blk_cell D.kB 4
        have q4 := blk_frozen D.kB 4
        have y5 := blk_cell D.kB 5
        have q5 := blk_frozen D.kB 5
        have y6 := blk_cell D.kB 6
        have q6 := blk_frozen D.kB 6
        have y7 := blk_cell D.kB 7
        have q7 := blk_frozen D.kB 7
        go_wp2_with fail
        obtain ⟨W9, hW9, k9, hb9⟩ := Ret8 D rfl noM
        simp only [noM] at hW9
        rw [← hW9]
        clear hW9
        exact bodyPost_ret (v := .tuple #[mv noM, .bool false]) (by simp [results, Tryz.results13, go_sem, blk_cell k9 0, blk_cell k9 1, blk_cell k9 2, blk_cell k9 3, blk_cell k9 4, blk_cell k9 5, blk_cell k9 6, blk_cell k9 7, mv, mA, noM]) rfl ⟨⟨noM, false, rfl, noM_sz, .inr ⟨rfl, rfl, hno.out⟩⟩, hb9⟩
      case true =>
        have hno : RowKit.Hid (decM 3 s.data.toList = none) := Lib.hid hdm.out
        replace he := Lib.hid he
        go_enter Tryz.func13, Tryz.ntmps13
        go_upto_region 2 with fail
        have D := DR_new w #[.int .i64 0, .string ⟨#[]⟩, .string ⟨#[]⟩, .string ⟨#[]⟩, .int .i64 0, .string ⟨#[]⟩, .string ⟨#[]⟩, .string ⟨#[]⟩] #[.int .i64 3, .string ⟨#[]⟩, .string ⟨#[]⟩, .string ⟨#[]⟩, .int .i64 0, .string ⟨#[]⟩, .string ⟨#[]⟩, .string ⟨#[]⟩]
        refine gen_world fun W hW => ?_
        rw [← hW] at D
        clear hW
        obtain ⟨R, hR0⟩ : ∃ R, R = w.heap.size := ⟨_, rfl⟩
        obtain ⟨A, hA⟩ : ∃ A, A = w.heap.size + 1 := ⟨_, rfl⟩
        rw [← hA, ← hR0] at D
        rw [← hA, ← hR0]
        clear hA hR0
        go_upto_region 26 with (go_at_call 35; refine (hSp _).mono ?_; rintro e w1 ⟨⟨g, cap, rfl, HO⟩, hb1⟩)
        obtain ⟨hgw, cur, hkg, hcur⟩ := own_blk HO
        have hgA : A < g := Nat.lt_of_lt_of_le (blk_lt D.kA) hgw
        replace D := D.grow hb1
        clear HO hgw
        have l0 := (blk_cell hkg 0).trans (hcur 0 (.string ⟨#[99, 61, 98, 105, 119, 115]⟩) rfl)
        go_upto_region 28 with fail
        clear l0
        have l1 := (blk_cell hkg 1).trans (hcur 1 (.string ⟨b.toArray⟩) rfl)
        go_upto_region 30 with (go_at_call 36; with_reducible refine (hp1.out _).mono ?_; rintro e w1 ⟨rfl, hb2⟩; have Dn := D.grow hb2; have zf := blk_frozen Dn.kA 2; have xf := blk_cell Dn.kA 2)
        replace hkg := grow_blk hb2 hkg
        have Dm := Dn.set 2 (.string ⟨X.toArray⟩)
        refine gen_world fun V3 hV3 => ?_
        rw [← hV3] at Dm
        replace hkg : V3.heap[g]? = some (.cells cur 9 (0, 0)) := by rw [hV3]; exact blk_far hkg (by simp; omega) _
        clear hV3 zf xf D Dn l1
        have D : DR w R A V3 #[.int .i64 0, .string ⟨#[]⟩, .string ⟨#[]⟩, .string ⟨#[]⟩, .int .i64 0, .string ⟨#[]⟩, .string ⟨#[]⟩, .string ⟨#[]⟩] #[.int .i64 3, .string ⟨#[]⟩, .string ⟨X.toArray⟩, .string ⟨#[]⟩, .int .i64 0, .string ⟨#[]⟩, .string ⟨#[]⟩, .string ⟨#[]⟩] := Dm
        clear Dm
        have l2 := (blk_cell hkg 2).trans (hcur 2 (.string ⟨c.toArray⟩) rfl)
        go_upto_region 31 with (go_at_call 36; with_reducible refine (hp2.out _).mono ?_; rintro e w4 ⟨rfl, hb5⟩; have Dn := D.grow hb5)
        clear l2
        replace D := Dn
        clear Dn
        replace hkg := grow_blk hb5 hkg
        go_upto_region 41 with (go_at_call 37; with_reducible refine (hd.out _).mono ?_; rintro e w6 ⟨rfl, hb7⟩; have Dn := D.grow hb7; have zf := blk_frozen Dn.kA 5; have xf := blk_cell Dn.kA 5)
        replace hkg := grow_blk hb7 hkg
        have Dm := Dn.set 5 (.string ⟨U.toArray⟩)
        refine gen_world fun V8 hV8 => ?_
        rw [← hV8] at Dm
        replace hkg : V8.heap[g]? = some (.cells cur 9 (0, 0)) := by rw [hV8]; exact blk_far hkg (by simp; omega) _
        clear hV8 zf xf D Dn 
        have D : DR w R A V8 #[.int .i64 0, .string ⟨#[]⟩, .string ⟨#[]⟩, .string ⟨#[]⟩, .int .i64 0, .string ⟨#[]⟩, .string ⟨#[]⟩, .string ⟨#[]⟩] #[.int .i64 3, .string ⟨#[]⟩, .string ⟨X.toArray⟩, .string ⟨#[]⟩, .int .i64 0, .string ⟨U.toArray⟩, .string ⟨#[]⟩, .string ⟨#[]⟩] := Dm
        clear Dm
        have y0 := blk_cell D.kB 0
        have q0 := blk_frozen D.kB 0
        have y1 := blk_cell D.kB 1
        have q1 := blk_frozen D.kB 1
        have y2 := blk_cell D.kB 2
        have q2 := blk_frozen D.kB 2
        have y3 := blk_cell D.kB 3
        have q3 := blk_frozen D.kB 3
        have y4 := blk_cell D.kB 4
        have q4 := blk_frozen D.kB 4
        have y5 := blk_cell D.kB 5
        have q5 := blk_frozen D.kB 5
        have y6 := blk_cell D.kB 6
        have q6 := blk_frozen D.kB 6
        have y7 := blk_cell D.kB 7
        have q7 := blk_frozen D.kB 7
        go_wp2_with fail
        obtain ⟨W9, hW9, k9, hb9⟩ := Ret8 D rfl noM
        simp only [noM] at hW9
        rw [← hW9]
        clear hW9
        exact bodyPost_ret (v := .tuple #[mv noM, .bool false]) (by simp [results, Tryz.results13, go_sem, blk_cell k9 0, blk_cell k9 1, blk_cell k9 2, blk_cell k9 3, blk_cell k9 4, blk_cell k9 5, blk_cell k9 6, blk_cell k9 7, mv, mA, noM]) rfl ⟨⟨noM, false, rfl, noM_sz, .inr ⟨rfl, rfl, hno.out⟩⟩, hb9⟩
    case true =>
      cases b3
      case false =>
        have hno : RowKit.Hid (decM 3 s.data.toList = none) := Lib.hid hdm.out
        replace he := Lib.hid he
        go_enter Tryz.func13, Tryz.ntmps13
        go_upto_region 2 with fail
        have D := DR_new w #[.int .i64 0, .string ⟨#[]⟩, .string ⟨#[]⟩, .string ⟨#[]⟩, .int .i64 0, .string ⟨#[]⟩, .string ⟨#[]⟩, .string ⟨#[]⟩] #[.int .i64 3, .string ⟨#[]⟩, .string ⟨#[]⟩, .string ⟨#[]⟩, .int .i64 0, .string ⟨#[]⟩, .string ⟨#[]⟩, .string ⟨#[]⟩]
        refine gen_world fun W hW => ?_
        rw [← hW] at D
        clear hW
        obtain ⟨R, hR0⟩ : ∃ R, R = w.heap.size := ⟨_, rfl⟩
        obtain ⟨A, hA⟩ : ∃ A, A = w.heap.size + 1 := ⟨_, rfl⟩
        rw [← hA, ← hR0] at D
        rw [← hA, ← hR0]
        clear hA hR0
        go_upto_region 26 with (go_at_call 35; refine (hSp _).mono ?_; rintro e w1 ⟨⟨g, cap, rfl, HO⟩, hb1⟩)
        obtain ⟨hgw, cur, hkg, hcur⟩ := own_blk HO
        have hgA : A < g := Nat.lt_of_lt_of_le (blk_lt D.kA) hgw
        replace D := D.grow hb1
        clear HO hgw
        have l0 := (blk_cell hkg 0).trans (hcur 0 (.string ⟨#[99, 61, 98, 105, 119, 115]⟩) rfl)
        go_upto_region 28 with fail
        clear l0
        have l1 := (blk_cell hkg 1).trans (hcur 1 (.string ⟨b.toArray⟩) rfl)
        go_upto_region 30 with (go_at_call 36; with_reducible refine (hp1.out _).mono ?_; rintro e w1 ⟨rfl, hb2⟩; have Dn := D.grow hb2; have zf := blk_frozen Dn.kA 2; have xf := blk_cell Dn.kA 2)
        replace hkg := grow_blk hb2 hkg
        have Dm := Dn.set 2 (.string ⟨X.toArray⟩)
        refine gen_world fun V3 hV3 => ?_
        rw [← hV3] at Dm
        replace hkg : V3.heap[g]? = some (.cells cur 9 (0, 0)) := by rw [hV3]; exact blk_far hkg (by simp; omega) _
        clear hV3 zf xf D Dn l1
        have D : DR w R A V3 #[.int .i64 0, .string ⟨#[]⟩, .string ⟨#[]⟩, .string ⟨#[]⟩, .int .i64 0, .string ⟨#[]⟩, .string ⟨#[]⟩, .string ⟨#[]⟩] #[.int .i64 3, .string ⟨#[]⟩, .string ⟨X.toArray⟩, .string ⟨#[]⟩, .int .i64 0, .string ⟨#[]⟩, .string ⟨#[]⟩, .string ⟨#[]⟩] := Dm
        clear Dm
        have l2 := (blk_cell hkg 2).trans (hcur 2 (.string ⟨c.toArray⟩) rfl)
        go_upto_region 31 with (go_at_call 36; with_reducible refine (hp2.out _).mono ?_; rintro e w4 ⟨rfl, hb5⟩; have Dn := D.grow hb5)
        clear l2
        replace D := Dn
        clear Dn
        replace hkg := grow_blk hb5 hkg
        go_upto_region 41 with (go_at_call 37; with_reducible refine (hd.out _).mono ?_; rintro e w6 ⟨rfl, hb7⟩; have Dn := D.grow hb7; have zf := blk_frozen Dn.kA 5; have xf := blk_cell Dn.kA 5)
        replace hkg := grow_blk hb7 hkg
        have Dm := Dn.set 5 (.string ⟨U.toArray⟩)
        refine gen_world fun V8 hV8 => ?_
        rw [← hV8] at Dm
        replace hkg : V8.heap[g]? = some (.cells cur 9 (0, 0)) := by rw [hV8]; exact blk_far hkg (by simp; omega) _
        clear hV8 zf xf D Dn 
        have D : DR w R A V8 #[.int .i64 0, .string ⟨#[]⟩, .string ⟨#[]⟩, .string ⟨#[]⟩, .int .i64 0, .string ⟨#[]⟩, .string ⟨#[]⟩, .string ⟨#[]⟩] #[.int .i64 3, .string ⟨#[]⟩, .string ⟨X.toArray⟩, .string ⟨#[]⟩, .int .i64 0, .string ⟨U.toArray⟩, .string ⟨#[]⟩, .string ⟨#[]⟩] := Dm
        clear Dm
        have y0 := blk_cell D.kB 0
        have q0 := blk_frozen D.kB 0
        have y1 := blk_cell D.kB 1
        have q1 := blk_frozen D.kB 1
        have y2 := blk_cell D.kB 2
        have q2 := blk_frozen D.kB 2
        have y3 := blk_cell D.kB 3
        have q3 := blk_frozen D.kB 3
        have y4 := blk_cell D.kB 4
        have q4 := blk_frozen D.kB 4
        have y5 := blk_cell D.kB 5
        have q5 := blk_frozen D.kB 5
        have y6 := blk_cell D.kB 6
        have q6 := blk_frozen D.kB 6
        have y7 := blk_cell D.kB 7
        have q7 := blk_frozen D.kB 7
        go_wp2_with fail
        obtain ⟨W9, hW9, k9, hb9⟩ := Ret8 D rfl noM
        simp only [noM] at hW9
        rw [← hW9]
        clear hW9
        exact bodyPost_ret (v := .tuple #[mv noM, .bool false]) (by simp [results, Tryz.results13, go_sem, blk_cell k9 0, blk_cell k9 1, blk_cell k9 2, blk_cell k9 3, blk_cell k9 4, blk_cell k9 5, blk_cell k9 6, blk_cell k9 7, mv, mA, noM]) rfl ⟨⟨noM, false, rfl, noM_sz, .inr ⟨rfl, rfl, hno.out⟩⟩, hb9⟩
      case true =>
        have hno : RowKit.Hid (decM 3 s.data.toList = none) := Lib.hid hdm.out
        replace he := Lib.hid he
        go_enter Tryz.func13, Tryz.ntmps13
        go_upto_region 2 with fail
        have D := DR_new w #[.int .i64 0, .string ⟨#[]⟩, .string ⟨#[]⟩, .string ⟨#[]⟩, .int .i64 0, .string ⟨#[]⟩, .string ⟨#[]⟩, .string ⟨#[]⟩] #[.int .i64 3, .string ⟨#[]⟩, .string ⟨#[]⟩, .string ⟨#[]⟩, .int .i64 0, .string ⟨#[]⟩, .string ⟨#[]⟩, .string ⟨#[]⟩]
        refine gen_world fun W hW => ?_
        rw [← hW] at D
        clear hW
        obtain ⟨R, hR0⟩ : ∃ R, R = w.heap.size := ⟨_, rfl⟩
        obtain ⟨A, hA⟩ : ∃ A, A = w.heap.size + 1 := ⟨_, rfl⟩
        rw [← hA, ← hR0] at D
        rw [← hA, ← hR0]
        clear hA hR0
        go_upto_region 26 with (go_at_call 35; refine (hSp _).mono ?_; rintro e w1 ⟨⟨g, cap, rfl, HO⟩, hb1⟩)
        obtain ⟨hgw, cur, hkg, hcur⟩ := own_blk HO
        have hgA : A < g := Nat.lt_of_lt_of_le (blk_lt D.kA) hgw
        replace D := D.grow hb1
        clear HO hgw
        have l0 := (blk_cell hkg 0).trans (hcur 0 (.string ⟨#[99, 61, 98, 105, 119, 115]⟩) rfl)
        go_upto_region 28 with fail
        clear l0
        have l1 := (blk_cell hkg 1).trans (hcur 1 (.string ⟨b.toArray⟩) rfl)
        go_upto_region 30 with (go_at_call 36; with_reducible refine (hp1.out _).mono ?_; rintro e w1 ⟨rfl, hb2⟩; have Dn := D.grow hb2; have zf := blk_frozen Dn.kA 2; have xf := blk_cell Dn.kA 2)
        replace hkg := grow_blk hb2 hkg
        have Dm := Dn.set 2 (.string ⟨X.toArray⟩)
        refine gen_world fun V3 hV3 => ?_
        rw [← hV3] at Dm
        replace hkg : V3.heap[g]? = some (.cells cur 9 (0, 0)) := by rw [hV3]; exact blk_far hkg (by simp; omega) _
        clear hV3 zf xf D Dn l1
        have D : DR w R A V3 #[.int .i64 0, .string ⟨#[]⟩, .string ⟨#[]⟩, .string ⟨#[]⟩, .int .i64 0, .string ⟨#[]⟩, .string ⟨#[]⟩, .string ⟨#[]⟩] #[.int .i64 3, .string ⟨#[]⟩, .string ⟨X.toArray⟩, .string ⟨#[]⟩, .int .i64 0, .string ⟨#[]⟩, .string ⟨#[]⟩, .string ⟨#[]⟩] := Dm
        clear Dm
        have l2 := (blk_cell hkg 2).trans (hcur 2 (.string ⟨c.toArray⟩) rfl)
        go_upto_region 31 with (go_at_call 36; with_reducible refine (hp2.out _).mono ?_; rintro e w4 ⟨rfl, hb5⟩; have Dn := D.grow hb5)
        clear l2
        replace D := Dn
        clear Dn
        replace hkg := grow_blk hb5 hkg
        go_upto_region 41 with (go_at_call 37; with_reducible refine (hd.out _).mono ?_; rintro e w6 ⟨rfl, hb7⟩; have Dn := D.grow hb7; have zf := blk_frozen Dn.kA 5; have xf := blk_cell Dn.kA 5)
        replace hkg := grow_blk hb7 hkg
        have Dm := Dn.set 5 (.string ⟨U.toArray⟩)
        refine gen_world fun V8 hV8 => ?_
        rw [← hV8] at Dm
        replace hkg : V8.heap[g]? = some (.cells cur 9 (0, 0)) := by rw [hV8]; exact blk_far hkg (by simp; omega) _
        clear hV8 zf xf D Dn 
        have D : DR w R A V8 #[.int .i64 0, .string ⟨#[]⟩, .string ⟨#[]⟩, .string ⟨#[]⟩, .int .i64 0, .string ⟨#[]⟩, .string ⟨#[]⟩, .string ⟨#[]⟩] #[.int .i64 3, .string ⟨#[]⟩, .string ⟨X.toArray⟩, .string ⟨#[]⟩, .int .i64 0, .string ⟨U.toArray⟩, .string ⟨#[]⟩, .string ⟨#[]⟩] := Dm
        clear Dm
        have y0 := blk_cell D.kB 0
        have q0 := blk_frozen D.kB 0
        have y1 := blk_cell D.kB 1
        have q1 := blk_frozen D.kB 1
        have y2 := blk_cell D.kB 2
        have q2 := blk_frozen D.kB 2
        have y3 := blk_cell D.kB 3
        have q3 := blk_frozen D.kB 3
        have y4 := blk_cell D.kB 4
        have q4 := blk_frozen D.kB 4
        have y5 := blk_cell D.kB 5
        have q5 := blk_frozen D.kB 5
        have y6 := blk_cell D.kB 6
        have q6 := blk_frozen D.kB 6
        have y7 := blk_cell D.kB 7
        have q7 := blk_frozen D.kB 7
        go_wp2_with fail
        obtain ⟨W9, hW9, k9, hb9⟩ := Ret8 D rfl noM
        simp only [noM] at hW9
        rw [← hW9]
        clear hW9
        exact bodyPost_ret (v := .tuple #[mv noM, .bool false]) (by simp [results, Tryz.results13, go_sem, blk_cell k9 0, blk_cell k9 1, blk_cell k9 2, blk_cell k9 3, blk_cell k9 4, blk_cell k9 5, blk_cell k9 6, blk_cell k9 7, mv, mA, noM]) rfl ⟨⟨noM, false, rfl, noM_sz, .inr ⟨rfl, rfl, hno.out⟩⟩, hb9⟩
  case true =>
    cases b2
    case false =>
      cases b3
      case false =>
        have hno : RowKit.Hid (decM 3 s.data.toList = none) := Lib.hid hdm.out
        replace he := Lib.hid he
        go_enter Tryz.func13, Tryz.ntmps13
        go_upto_region 2 with fail
        have D := DR_new w #[.int .i64 0, .string ⟨#[]⟩, .string ⟨#[]⟩, .string ⟨#[]⟩, .int .i64 0, .string ⟨#[]⟩, .string ⟨#[]⟩, .string ⟨#[]⟩] #[.int .i64 3, .string ⟨#[]⟩, .string ⟨#[]⟩, .string ⟨#[]⟩, .int .i64 0, .string ⟨#[]⟩, .string ⟨#[]⟩, .string ⟨#[]⟩]
        refine gen_world fun W hW => ?_
        rw [← hW] at D
        clear hW
        obtain ⟨R, hR0⟩ : ∃ R, R = w.heap.size := ⟨_, rfl⟩
        obtain ⟨A, hA⟩ : ∃ A, A = w.heap.size + 1 := ⟨_, rfl⟩
        rw [← hA, ← hR0] at D
        rw [← hA, ← hR0]
        clear hA hR0
        go_upto_region 26 with (go_at_call 35; refine (hSp _).mono ?_; rintro e w1 ⟨⟨g, cap, rfl, HO⟩, hb1⟩)
        obtain ⟨hgw, cur, hkg, hcur⟩ := own_blk HO
        have hgA : A < g := Nat.lt_of_lt_of_le (blk_lt D.kA) hgw
        replace D := D.grow hb1
        clear HO hgw
        have l0 := (blk_cell hkg 0).trans (hcur 0 (.string ⟨#[99, 61, 98, 105, 119, 115]⟩) rfl)
        go_upto_region 28 with fail
        clear l0
        have l1 := (blk_cell hkg 1).trans (hcur 1 (.string ⟨b.toArray⟩) rfl)
        go_upto_region 30 with (go_at_call 36; with_reducible refine (hp1.out _).mono ?_; rintro e w1 ⟨rfl, hb2⟩; have Dn := D.grow hb2; have zf := blk_frozen Dn.kA 2; have xf := blk_cell Dn.kA 2)
        replace hkg := grow_blk hb2 hkg
        have Dm := Dn.set 2 (.string ⟨X.toArray⟩)
        refine gen_world fun V3 hV3 => ?_
        rw [← hV3] at Dm
        replace hkg : V3.heap[g]? = some (.cells cur 9 (0, 0)) := by rw [hV3]; exact blk_far hkg (by simp; omega) _
        clear hV3 zf xf D Dn l1
        have D : DR w R A V3 #[.int .i64 0, .string ⟨#[]⟩, .string ⟨#[]⟩, .string ⟨#[]⟩, .int .i64 0, .string ⟨#[]⟩, .string ⟨#[]⟩, .string ⟨#[]⟩] #[.int .i64 3, .string ⟨#[]⟩, .string ⟨X.toArray⟩, .string ⟨#[]⟩, .int .i64 0, .string ⟨#[]⟩, .string ⟨#[]⟩, .string ⟨#[]⟩] := Dm
        clear Dm
        have l2 := (blk_cell hkg 2).trans (hcur 2 (.string ⟨c.toArray⟩) rfl)
        go_upto_region 31 with (go_at_call 36; with_reducible refine (hp2.out _).mono ?_; rintro e w4 ⟨rfl, hb5⟩; have Dn := D.grow hb5)
        clear l2
        replace D := Dn
        clear Dn
        replace hkg := grow_blk hb5 hkg
        go_upto_region 41 with (go_at_call 37; with_reducible refine (hd.out _).mono ?_; rintro e w6 ⟨rfl, hb7⟩; have Dn := D.grow hb7; have zf := blk_frozen Dn.kA 5; have xf := blk_cell Dn.kA 5)
        replace hkg := grow_blk hb7 hkg
        have Dm := Dn.set 5 (.string ⟨U.toArray⟩)
        refine gen_world fun V8 hV8 => ?_
        rw [← hV8] at Dm
        replace hkg : V8.heap[g]? = some (.cells cur 9 (0, 0)) := by rw [hV8]; exact blk_far hkg (by simp; omega) _
        clear hV8 zf xf D Dn 
        have D : DR w R A V8 #[.int .i64 0, .string ⟨#[]⟩, .string ⟨#[]⟩, .string ⟨#[]⟩, .int .i64 0, .string ⟨#[]⟩, .string ⟨#[]⟩, .string ⟨#[]⟩] #[.int .i64 3, .string ⟨#[]⟩, .string ⟨X.toArray⟩, .string ⟨#[]⟩, .int .i64 0, .string ⟨U.toArray⟩, .string ⟨#[]⟩, .string ⟨#[]⟩] := Dm
        clear Dm
        have y0 := blk_cell D.kB 0
        have q0 := blk_frozen D.kB 0
        have y1 := blk_cell D.kB 1
        have q1 := blk_frozen D.kB 1
        have y2 := blk_cell D.kB 2
        have q2 := blk_frozen D.kB 2
        have y3 := blk_cell D.kB 3
        have q3 := blk_frozen D.kB 3
        have y4 := blk_cell D.kB 4
        have q4 := blk_frozen D.kB 4
        have y5 := blk_cell D.kB 5
        have q5 := blk_frozen D.kB 5
        have y6 := blk_cell D.kB 6
        have q6 := blk_frozen D.kB 6
        have y7 := blk_cell D.kB 7
        have q7 := blk_frozen D.kB 7
        go_wp2_with fail
        obtain ⟨W9, hW9, k9, hb9⟩ := Ret8 D rfl noM
        simp only [noM] at hW9
        rw [← hW9]
        clear hW9
        exact bodyPost_ret (v := .tuple #[mv noM, .bool false]) (by simp [results, Tryz.results13, go_sem, blk_cell k9 0, blk_cell k9 1, blk_cell k9 2, blk_cell k9 3, blk_cell k9 4, blk_cell k9 5, blk_cell k9 6, blk_cell k9 7, mv, mA, noM]) rfl ⟨⟨noM, false, rfl, noM_sz, .inr ⟨rfl, rfl, hno.out⟩⟩, hb9⟩
      case true =>
        have hno : RowKit.Hid (decM 3 s.data.toList = none) := Lib.hid hdm.out
        replace he := Lib.hid he
        go_enter Tryz.func13, Tryz.ntmps13
        go_upto_region 2 with fail
        have D := DR_new w #[.int .i64 0, .string ⟨#[]⟩, .string ⟨#[]⟩, .string ⟨#[]⟩, .int .i64 0, .string ⟨#[]⟩, .string ⟨#[]⟩, .string ⟨#[]⟩] #[.int .i64 3, .string ⟨#[]⟩, .string ⟨#[]⟩, .string ⟨#[]⟩, .int .i64 0, .string ⟨#[]⟩, .string ⟨#[]⟩, .string ⟨#[]⟩]
        refine gen_world fun W hW => ?_
        rw [← hW] at D
        clear hW
        obtain ⟨R, hR0⟩ : ∃ R, R = w.heap.size := ⟨_, rfl⟩
        obtain ⟨A, hA⟩ : ∃ A, A = w.heap.size + 1 := ⟨_, rfl⟩
        rw [← hA, ← hR0] at D
        rw [← hA, ← hR0]
        clear hA hR0
        go_upto_region 26 with (go_at_call 35; refine (hSp _).mono ?_; rintro e w1 ⟨⟨g, cap, rfl, HO⟩, hb1⟩)
        obtain ⟨hgw, cur, hkg, hcur⟩ := own_blk HO
        have hgA : A < g := Nat.lt_of_lt_of_le (blk_lt D.kA) hgw
        replace D := D.grow hb1
        clear HO hgw
        have l0 := (blk_cell hkg 0).trans (hcur 0 (.string ⟨#[99, 61, 98, 105, 119, 115]⟩) rfl)
        go_upto_region 28 with fail
        clear l0
        have l1 := (blk_cell hkg 1).trans (hcur 1 (.string ⟨b.toArray⟩) rfl)
        go_upto_region 30 with (go_at_call 36; with_reducible refine (hp1.out _).mono ?_; rintro e w1 ⟨rfl, hb2⟩; have Dn := D.grow hb2; have zf := blk_frozen Dn.kA 2; have xf := blk_cell Dn.kA 2)
        replace hkg := grow_blk hb2 hkg
        have Dm := Dn.set 2 (.string ⟨X.toArray⟩)
        refine gen_world fun V3 hV3 => ?_
        rw [← hV3] at Dm
        replace hkg : V3.heap[g]? = some (.cells cur 9 (0, 0)) := by rw [hV3]; exact blk_far hkg (by simp; omega) _
        clear hV3 zf xf D Dn l1
        have D : DR w R A V3 #[.int .i64 0, .string ⟨#[]⟩, .string ⟨#[]⟩, .string ⟨#[]⟩, .int .i64 0, .string ⟨#[]⟩, .string ⟨#[]⟩, .string ⟨#[]⟩] #[.int .i64 3, .string ⟨#[]⟩, .string ⟨X.toArray⟩, .string ⟨#[]⟩, .int .i64 0, .string ⟨#[]⟩, .string ⟨#[]⟩, .string ⟨#[]⟩] := Dm
        clear Dm
        have l2 := (blk_cell hkg 2).trans (hcur 2 (.string ⟨c.toArray⟩) rfl)
        go_upto_region 31 with (go_at_call 36; with_reducible refine (hp2.out _).mono ?_; rintro e w4 ⟨rfl, hb5⟩; have Dn := D.grow hb5)
        clear l2
        replace D := Dn
        clear Dn
        replace hkg := grow_blk hb5 hkg
        go_upto_region 41 with (go_at_call 37; with_reducible refine (hd.out _).mono ?_; rintro e w6 ⟨rfl, hb7⟩; have Dn := D.grow hb7; have zf := blk_frozen Dn.kA 5; have xf := blk_cell Dn.kA 5)
        replace hkg := grow_blk hb7 hkg
        have Dm := Dn.set 5 (.string ⟨U.toArray⟩)
        refine gen_world fun V8 hV8 => ?_
        rw [← hV8] at Dm
        replace hkg : V8.heap[g]? = some (.cells cur 9 (0, 0)) := by rw [hV8]; exact blk_far hkg (by simp; omega) _
        clear hV8 zf xf D Dn 
        have D : DR w R A V8 #[.int .i64 0, .string ⟨#[]⟩, .string ⟨#[]⟩, .string ⟨#[]⟩, .int .i64 0, .string ⟨#[]⟩, .string ⟨#[]⟩, .string ⟨#[]⟩] #[.int .i64 3, .string ⟨#[]⟩, .string ⟨X.toArray⟩, .string ⟨#[]⟩, .int .i64 0, .string ⟨U.toArray⟩, .string ⟨#[]⟩, .string ⟨#[]⟩] := Dm
        clear Dm
        have y0 := blk_cell D.kB 0
        have q0 := blk_frozen D.kB 0
        have y1 := blk_cell D.kB 1
        have q1 := blk_frozen D.kB 1
        have y2 := blk_cell D.kB 2
        have q2 := blk_frozen D.kB 2
        have y3 := blk_cell D.kB 3
        have q3 := blk_frozen D.kB 3
        have y4 := blk_cell D.kB 4
        have q4 := blk_frozen D.kB 4
        have y5 := blk_cell D.kB 5
        have q5 := blk_frozen D.kB 5
        have y6 := blk_cell D.kB 6
        have q6 := blk_frozen D.kB 6
        have y7 := blk_cell D.kB 7
        have q7 := blk_frozen D.kB 7
        go_wp2_with fail
        obtain ⟨W9, hW9, k9, hb9⟩ := Ret8 D rfl noM
        simp only [noM] at hW9
        rw [← hW9]
        clear hW9
        exact bodyPost_ret (v := .tuple #[mv noM, .bool false]) (by simp [results, Tryz.results13, go_sem, blk_cell k9 0, blk_cell k9 1, blk_cell k9 2, blk_cell k9 3, blk_cell k9 4, blk_cell k9 5, blk_cell k9 6, blk_cell k9 7, mv, mA, noM]) rfl ⟨⟨noM, false, rfl, noM_sz, .inr ⟨rfl, rfl, hno.out⟩⟩, hb9⟩
    case true =>
      cases b3
      case false =>
        have hno : RowKit.Hid (decM 3 s.data.toList = none) := Lib.hid hdm.out
        replace he := Lib.hid he
        go_enter Tryz.func13, Tryz.ntmps13
        go_upto_region 2 with fail
        have D := DR_new w #[.int .i64 0, .string ⟨#[]⟩, .string ⟨#[]⟩, .string ⟨#[]⟩, .int .i64 0, .string ⟨#[]⟩, .string ⟨#[]⟩, .string ⟨#[]⟩] #[.int .i64 3, .string ⟨#[]⟩, .string ⟨#[]⟩, .string ⟨#[]⟩, .int .i64 0, .string ⟨#[]⟩, .string ⟨#[]⟩, .string ⟨#[]⟩]
        refine gen_world fun W hW => ?_
        rw [← hW] at D
        clear hW
        obtain ⟨R, hR0⟩ : ∃ R, R = w.heap.size := ⟨_, rfl⟩
        obtain ⟨A, hA⟩ : ∃ A, A = w.heap.size + 1 := ⟨_, rfl⟩
        rw [← hA, ← hR0] at D
        rw [← hA, ← hR0]
        clear hA hR0
        go_upto_region 26 with (go_at_call 35; refine (hSp _).mono ?_; rintro e w1 ⟨⟨g, cap, rfl, HO⟩, hb1⟩)
        obtain ⟨hgw, cur, hkg, hcur⟩ := own_blk HO
        have hgA : A < g := Nat.lt_of_lt_of_le (blk_lt D.kA) hgw
        replace D := D.grow hb1
        clear HO hgw
        have l0 := (blk_cell hkg 0).trans (hcur 0 (.string ⟨#[99, 61, 98, 105, 119, 115]⟩) rfl)
        go_upto_region 28 with fail
        clear l0
        have l1 := (blk_cell hkg 1).trans (hcur 1 (.string ⟨b.toArray⟩) rfl)
        go_upto_region 30 with (go_at_call 36; with_reducible refine (hp1.out _).mono ?_; rintro e w1 ⟨rfl, hb2⟩; have Dn := D.grow hb2; have zf := blk_frozen Dn.kA 2; have xf := blk_cell Dn.kA 2)
        replace hkg := grow_blk hb2 hkg
        have Dm := Dn.set 2 (.string ⟨X.toArray⟩)
        refine gen_world fun V3 hV3 => ?_
        rw [← hV3] at Dm
        replace hkg : V3.heap[g]? = some (.cells cur 9 (0, 0)) := by rw [hV3]; exact blk_far hkg (by simp; omega) _
        clear hV3 zf xf D Dn l1
        have D : DR w R A V3 #[.int .i64 0, .string ⟨#[]⟩, .string ⟨#[]⟩, .string ⟨#[]⟩, .int .i64 0, .string ⟨#[]⟩, .string ⟨#[]⟩, .string ⟨#[]⟩] #[.int .i64 3, .string ⟨#[]⟩, .string ⟨X.toArray⟩, .string ⟨#[]⟩, .int .i64 0, .string ⟨#[]⟩, .string ⟨#[]⟩, .string ⟨#[]⟩] := Dm
        clear Dm
        have l2 := (blk_cell hkg 2).trans (hcur 2 (.string ⟨c.toArray⟩) rfl)
        go_upto_region 31 with (go_at_call 36; with_reducible refine (hp2.out _).mono ?_; rintro e w4 ⟨rfl, hb5⟩; have Dn := D.grow hb5)
        clear l2
        replace D := Dn
        clear Dn
        replace hkg := grow_blk hb5 hkg
        go_upto_region 41 with (go_at_call 37; with_reducible refine (hd.out _).mono ?_; rintro e w6 ⟨rfl, hb7⟩; have Dn := D.grow hb7; have zf := blk_frozen Dn.kA 5; have xf := blk_cell Dn.kA 5)
        replace hkg := grow_blk hb7 hkg
        have Dm := Dn.set 5 (.string ⟨U.toArray⟩)
        refine gen_world fun V8 hV8 => ?_
        rw [← hV8] at Dm
        replace hkg : V8.heap[g]? = some (.cells cur 9 (0, 0)) := by rw [hV8]; exact blk_far hkg (by simp; omega) _
        clear hV8 zf xf D Dn 
        have D : DR w R A V8 #[.int .i64 0, .string ⟨#[]⟩, .string ⟨#[]⟩, .string ⟨#[]⟩, .int .i64 0, .string ⟨#[]⟩, .string ⟨#[]⟩, .string ⟨#[]⟩] #[.int .i64 3, .string ⟨#[]⟩, .string ⟨X.toArray⟩, .string ⟨#[]⟩, .int .i64 0, .string ⟨U.toArray⟩, .string ⟨#[]⟩, .string ⟨#[]⟩] := Dm
        clear Dm
        have y0 := blk_cell D.kB 0
        have q0 := blk_frozen D.kB 0
        have y1 := blk_cell D.kB 1
        have q1 := blk_frozen D.kB 1
        have y2 := blk_cell D.kB 2
        have q2 := blk_frozen D.kB 2
        have y3 := blk_cell D.kB 3
        have q3 := blk_frozen D.kB 3
        have y4 := blk_cell D.kB 4
        have q4 := blk_frozen D.kB 4
        have y5 := blk_cell D.kB 5
        have q5 := blk_frozen D.kB 5
        have y6 := blk_cell D.kB 6
        have q6 := blk_frozen D.kB 6
        have y7 := blk_cell D.kB 7
        have q7 := blk_frozen D.kB 7
        go_wp2_with fail
        obtain ⟨W9, hW9, k9, hb9⟩ := Ret8 D rfl noM
        simp only [noM] at hW9
        rw [← hW9]
        clear hW9
        exact bodyPost_ret (v := .tuple #[mv noM, .bool false]) (by simp [results, Tryz.results13, go_sem, blk_cell k9 0, blk_cell k9 1, blk_cell k9 2, blk_cell k9 3, blk_cell k9 4, blk_cell k9 5, blk_cell k9 6, blk_cell k9 7, mv, mA, noM]) rfl ⟨⟨noM, false, rfl, noM_sz, .inr ⟨rfl, rfl, hno.out⟩⟩, hb9⟩
      case true =>
        replace he := Lib.hid he
        go_enter Tryz.func13, Tryz.ntmps13
        go_upto_region 2 with fail
        have D := DR_new w #[.int .i64 0, .string ⟨#[]⟩, .string ⟨#[]⟩, .string ⟨#[]⟩, .int .i64 0, .string ⟨#[]⟩, .string ⟨#[]⟩, .string ⟨#[]⟩] #[.int .i64 3, .string ⟨#[]⟩, .string ⟨#[]⟩, .string ⟨#[]⟩, .int .i64 0, .string ⟨#[]⟩, .string ⟨#[]⟩, .string ⟨#[]⟩]
        refine gen_world fun W hW => ?_
        rw [← hW] at D
        clear hW
        obtain ⟨R, hR0⟩ : ∃ R, R = w.heap.size := ⟨_, rfl⟩
        obtain ⟨A, hA⟩ : ∃ A, A = w.heap.size + 1 := ⟨_, rfl⟩
        rw [← hA, ← hR0] at D
        rw [← hA, ← hR0]
        clear hA hR0
        go_upto_region 26 with (go_at_call 35; refine (hSp _).mono ?_; rintro e w1 ⟨⟨g, cap, rfl, HO⟩, hb1⟩)
        obtain ⟨hgw, cur, hkg, hcur⟩ := own_blk HO
        have hgA : A < g := Nat.lt_of_lt_of_le (blk_lt D.kA) hgw
        replace D := D.grow hb1
        clear HO hgw
        have l0 := (blk_cell hkg 0).trans (hcur 0 (.string ⟨#[99, 61, 98, 105, 119, 115]⟩) rfl)
        go_upto_region 28 with fail
        clear l0
        have l1 := (blk_cell hkg 1).trans (hcur 1 (.string ⟨b.toArray⟩) rfl)
        go_upto_region 30 with (go_at_call 36; with_reducible refine (hp1.out _).mono ?_; rintro e w1 ⟨rfl, hb2⟩; have Dn := D.grow hb2; have zf := blk_frozen Dn.kA 2; have xf := blk_cell Dn.kA 2)
        replace hkg := grow_blk hb2 hkg
        have Dm := Dn.set 2 (.string ⟨X.toArray⟩)
        refine gen_world fun V3 hV3 => ?_
        rw [← hV3] at Dm
        replace hkg : V3.heap[g]? = some (.cells cur 9 (0, 0)) := by rw [hV3]; exact blk_far hkg (by simp; omega) _
        clear hV3 zf xf D Dn l1
        have D : DR w R A V3 #[.int .i64 0, .string ⟨#[]⟩, .string ⟨#[]⟩, .string ⟨#[]⟩, .int .i64 0, .string ⟨#[]⟩, .string ⟨#[]⟩, .string ⟨#[]⟩] #[.int .i64 3, .string ⟨#[]⟩, .string ⟨X.toArray⟩, .string ⟨#[]⟩, .int .i64 0, .string ⟨#[]⟩, .string ⟨#[]⟩, .string ⟨#[]⟩] := Dm
        clear Dm
        have l2 := (blk_cell hkg 2).trans (hcur 2 (.string ⟨c.toArray⟩) rfl)
        go_upto_region 31 with (go_at_call 36; with_reducible refine (hp2.out _).mono ?_; rintro e w4 ⟨rfl, hb5⟩; have Dn := D.grow hb5)
        clear l2
        replace D := Dn
        clear Dn
        replace hkg := grow_blk hb5 hkg
        go_upto_region 41 with (go_at_call 37; with_reducible refine (hd.out _).mono ?_; rintro e w6 ⟨rfl, hb7⟩; have Dn := D.grow hb7; have zf := blk_frozen Dn.kA 5; have xf := blk_cell Dn.kA 5)
        replace hkg := grow_blk hb7 hkg
        have Dm := Dn.set 5 (.string ⟨U.toArray⟩)
        refine gen_world fun V8 hV8 => ?_
        rw [← hV8] at Dm
        replace hkg : V8.heap[g]? = some (.cells cur 9 (0, 0)) := by rw [hV8]; exact blk_far hkg (by simp; omega) _
        clear hV8 zf xf D Dn 
        have D : DR w R A V8 #[.int .i64 0, .string ⟨#[]⟩, .string ⟨#[]⟩, .string ⟨#[]⟩, .int .i64 0, .string ⟨#[]⟩, .string ⟨#[]⟩, .string ⟨#[]⟩] #[.int .i64 3, .string ⟨#[]⟩, .string ⟨X.toArray⟩, .string ⟨#[]⟩, .int .i64 0, .string ⟨U.toArray⟩, .string ⟨#[]⟩, .string ⟨#[]⟩] := Dm
        clear Dm
        by_cases hr : rightM (toM ⟨3, ⟨#[]⟩, ⟨X.toArray⟩, ⟨#[]⟩, 0, ⟨U.toArray⟩, ⟨#[]⟩, ⟨#[]⟩⟩)
        case neg =>
          have hno : RowKit.Hid (decM 3 s.data.toList = none) := Lib.hid (hdm.out.trans (if_neg hr))
          have hRg := fun w => rRight_c ⟨3, ⟨#[]⟩, ⟨X.toArray⟩, ⟨#[]⟩, 0, ⟨U.toArray⟩, ⟨#[]⟩, ⟨#[]⟩⟩ hsz.big w
          rw [decide_eq_false hr] at hRg
          unfold mv at hRg
          replace hRg := Lib.hid hRg
          clear hr
          have x0 := blk_cell D.kA 0
          have x1 := blk_cell D.kA 1
          have x2 := blk_cell D.kA 2
          have x3 := blk_cell D.kA 3
          have x4 := blk_cell D.kA 4
          have x5 := blk_cell D.kA 5
          have x6 := blk_cell D.kA 6
          have x7 := blk_cell D.kA 7
          go_upto_region 42 with (go_at_call 9; refine (hRg.out _).mono ?_; rintro e w20 ⟨rfl, hb20⟩; have D2 := D.grow hb20)
          have y0 := blk_cell D2.kB 0
          have q0 := blk_frozen D2.kB 0
          have y1 := blk_cell D2.kB 1
          have q1 := blk_frozen D2.kB 1
          have y2 := blk_cell D2.kB 2
          have q2 := blk_frozen D2.kB 2
          have y3 := blk_cell D2.kB 3
          have q3 := blk_frozen D2.kB 3
          have y4 := blk_cell D2.kB 4
          have q4 := blk_frozen D2.kB 4
          have y5 := blk_cell D2.kB 5
          have q5 := blk_frozen D2.kB 5
          have y6 := blk_cell D2.kB 6
          have q6 := blk_frozen D2.kB 6
          have y7 := blk_cell D2.kB 7
          have q7 := blk_frozen D2.kB 7
          go_wp2_with fail
          obtain ⟨W9, hW9, k9, hb9⟩ := Ret8 D2 rfl noM
          simp only [noM] at hW9
          rw [← hW9]
          clear hW9
          exact bodyPost_ret (v := .tuple #[mv noM, .bool false]) (by simp [results, Tryz.results13, go_sem, blk_cell k9 0, blk_cell k9 1, blk_cell k9 2, blk_cell k9 3, blk_cell k9 4, blk_cell k9 5, blk_cell k9 6, blk_cell k9 7, mv, mA, noM]) rfl ⟨⟨noM, false, rfl, noM_sz, .inr ⟨rfl, rfl, hno.out⟩⟩, hb9⟩
        have hyes : RowKit.Hid (decM 3 s.data.toList = some (toM ⟨3, ⟨#[]⟩, ⟨X.toArray⟩, ⟨#[]⟩, 0, ⟨U.toArray⟩, ⟨#[]⟩, ⟨#[]⟩⟩)) := Lib.hid (hdm.out.trans (if_pos hr))
        have hRg := fun w => rRight_c ⟨3, ⟨#[]⟩, ⟨X.toArray⟩, ⟨#[]⟩, 0, ⟨U.toArray⟩, ⟨#[]⟩, ⟨#[]⟩⟩ hsz.big w
        rw [decide_eq_true hr] at hRg
        unfold mv at hRg
        replace hRg := Lib.hid hRg
        clear hr
        have x0 := blk_cell D.kA 0
        have x1 := blk_cell D.kA 1
        have x2 := blk_cell D.kA 2
        have x3 := blk_cell D.kA 3
        have x4 := blk_cell D.kA 4
        have x5 := blk_cell D.kA 5
        have x6 := blk_cell D.kA 6
        have x7 := blk_cell D.kA 7
        go_upto_region 43 with (go_at_call 9; refine (hRg.out _).mono ?_; rintro e w20 ⟨rfl, hb20⟩; have D2 := D.grow hb20)
        have y0 := blk_cell D2.kB 0
        have q0 := blk_frozen D2.kB 0
        have y1 := blk_cell D2.kB 1
        have q1 := blk_frozen D2.kB 1
        have y2 := blk_cell D2.kB 2
        have q2 := blk_frozen D2.kB 2
        have y3 := blk_cell D2.kB 3
        have q3 := blk_frozen D2.kB 3
        have y4 := blk_cell D2.kB 4
        have q4 := blk_frozen D2.kB 4
        have y5 := blk_cell D2.kB 5
        have q5 := blk_frozen D2.kB 5
        have y6 := blk_cell D2.kB 6
        have q6 := blk_frozen D2.kB 6
        have y7 := blk_cell D2.kB 7
        have q7 := blk_frozen D2.kB 7
        have p0 := blk_cell D2.kA 0
        have p1 := blk_cell D2.kA 1
        have p2 := blk_cell D2.kA 2
        have p3 := blk_cell D2.kA 3
        have p4 := blk_cell D2.kA 4
        have p5 := blk_cell D2.kA 5
        have p6 := blk_cell D2.kA 6
        have p7 := blk_cell D2.kA 7
        go_wp2_with fail
        obtain ⟨W9, hW9, k9, hb9⟩ := Ret8 D2 rfl ⟨3, ⟨#[]⟩, ⟨X.toArray⟩, ⟨#[]⟩, 0, ⟨U.toArray⟩, ⟨#[]⟩, ⟨#[]⟩⟩
        simp only at hW9
        rw [← hW9]
        clear hW9
        exact bodyPost_ret (v := .tuple #[mv ⟨3, ⟨#[]⟩, ⟨X.toArray⟩, ⟨#[]⟩, 0, ⟨U.toArray⟩, ⟨#[]⟩, ⟨#[]⟩⟩, .bool true]) (by simp [results, Tryz.results13, go_sem, blk_cell k9 0, blk_cell k9 1, blk_cell k9 2, blk_cell k9 3, blk_cell k9 4, blk_cell k9 5, blk_cell k9 6, blk_cell k9 7, mv, mA]) rfl ⟨⟨⟨3, ⟨#[]⟩, ⟨X.toArray⟩, ⟨#[]⟩, 0, ⟨U.toArray⟩, ⟨#[]⟩, ⟨#[]⟩⟩, true, rfl, hsz, .inl ⟨rfl, hyes.out⟩⟩, hb9⟩
end Go.Proofs.YtjigckibbjfkmaaGreatDoor

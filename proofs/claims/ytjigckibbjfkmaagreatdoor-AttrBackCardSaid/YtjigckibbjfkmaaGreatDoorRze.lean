/- Reference 33: Decode, kind 4. -/
import Derived.Test.YtjigckibbjfkmaaGreatDoorRzb
import Derived.Test.YtjigckibbjfkmaaGreatDoorRzc
import Derived.Test.YtjigckibbjfkmaaGreatDoorRzd
namespace Go.Proofs.YtjigckibbjfkmaaGreatDoor
open Go.RowKit
set_option maxRecDepth 100000
set_option linter.unusedSimpArgs false
set_option linter.unusedVariables false
set_option maxHeartbeats 8000000 in
theorem rDec_4 (s : ByteArray) (hs : s.size ≤ 1000) (w : World) (he : Env w) : Calls Tryz.prog 13 #[.int .i64 4, .string s] w fun e w' => RcM 4 s.data.toList e ∧ Below w.heap.size w w' := by
  have hSp := fun w => rSplit_c s 44 (by omega) w
  rw [show (((44 : UInt8).toNat : Nat) : Int) = 44 from rfl] at hSp
  have hpl := split_part 44 s.data.toList
  have hdl : s.data.toList.length ≤ 1000 := by rw [zlen]; omega
  have hn1 := dm4n s.data.toList
  have h1 := dm4e s.data.toList
  have h2 := dm4v s.data.toList
  unfold RcM
  generalize splitL 44 s.data.toList = PS at hSp hn1 h1 h2
  clear hpl
  by_cases h4 : PS.length = 1
  case neg =>
    have hno : RowKit.Hid (decM 4 s.data.toList = none) := Lib.hid (hn1 h4)
    have i4 : ((PS.length : Int) != 1) = true := bne_iff_ne.2 (by omega)
    have j4 : ¬ (PS.length : Int) = 1 := by omega
    clear h1 h2 hn1
    replace he := Lib.hid he
    go_enter Tryz.func13, Tryz.ntmps13
    go_upto_region 2 with fail
    have D := DR_new w #[.int .i64 0, .string ⟨#[]⟩, .string ⟨#[]⟩, .string ⟨#[]⟩, .int .i64 0, .string ⟨#[]⟩, .string ⟨#[]⟩, .string ⟨#[]⟩] #[.int .i64 4, .string ⟨#[]⟩, .string ⟨#[]⟩, .string ⟨#[]⟩, .int .i64 0, .string ⟨#[]⟩, .string ⟨#[]⟩, .string ⟨#[]⟩]
    refine gen_world fun W hW => ?_
    rw [← hW] at D
    clear hW
    obtain ⟨R, hR0⟩ : ∃ R, R = w.heap.size := ⟨_, rfl⟩
    obtain ⟨A, hA⟩ : ∃ A, A = w.heap.size + 1 := ⟨_, rfl⟩
    rw [← hA, ← hR0] at D
    rw [← hA, ← hR0]
    clear hA hR0
    go_upto_region 35 with (go_at_call 35; refine (hSp _).mono ?_; rintro e w1 ⟨⟨g, cap, rfl, HO⟩, hb1⟩)
    obtain ⟨hgw, cur, hkg, hcur⟩ := own_blk HO
    have hgA : A < g := Nat.lt_of_lt_of_le (blk_lt D.kA) hgw
    replace D := D.grow hb1
    clear HO hgw
    have y0 := blk_cell D.kB 0
    have q0 := blk_frozen D.kB 0
    have y1 := blk_cell D.kB 1
    have q1 := blk_frozen D.kB 1
    have y2 := blk_cell D.kB 2
    have q2 := blk_frozen D.kB 2
    have y3 := blk_cell D.kB 3
    have q3 := blk_frozen D.kB 3
    have y4 := blk_cell D.kB 4
    have q4 := blk_frozen D.kB 4
    have y5 := blk_cell D.kB 5
    have q5 := blk_frozen D.kB 5
    have y6 := blk_cell D.kB 6
    have q6 := blk_frozen D.kB 6
    have y7 := blk_cell D.kB 7
    have q7 := blk_frozen D.kB 7
    go_wp2_with fail
    obtain ⟨W9, hW9, k9, hb9⟩ := Ret8 D rfl noM
    simp only [noM] at hW9
    rw [← hW9]
    clear hW9
    exact bodyPost_ret (v := .tuple #[mv noM, .bool false]) (by simp [results, Tryz.results13, go_sem, blk_cell k9 0, blk_cell k9 1, blk_cell k9 2, blk_cell k9 3, blk_cell k9 4, blk_cell k9 5, blk_cell k9 6, blk_cell k9 7, mv, mA, noM]) rfl ⟨⟨noM, false, rfl, noM_sz, .inr ⟨rfl, rfl, hno.out⟩⟩, hb9⟩
  replace h1 := h1 h4
  replace h2 := h2 h4
  rw [h4] at hSp
  have hp1 := fun w => rPart_c s.data.toList 101 w
  have hp2 := fun w => rPart_c s.data.toList 118 w
  rw [Lib.mk_data] at hp1 hp2
  have zx := Nat.le_trans (part_le 101 s.data.toList) hdl
  have zy := Nat.le_trans (part_le 118 s.data.toList) hdl
  have hd := fun w => rDec_c ((partC 118 s.data.toList).getD []) zy w
  have zu := Nat.le_trans (dec_le ((partC 118 s.data.toList).getD [])) zy
  clear hdl hn1 h4
  generalize (decL ((partC 118 s.data.toList).getD [])).getD [] = U at hd h2 zu
  generalize (decL ((partC 118 s.data.toList).getD [])).isSome = b3 at hd h2
  cases hb1 : (partC 101 s.data.toList).isSome
  case true =>
    have hdm := h1 hb1
    rw [hb1] at hp1
    generalize (partC 101 s.data.toList).getD [] = X at hp1 hdm zx
    have hsz : SzT ⟨4, ⟨#[]⟩, ⟨#[]⟩, ⟨#[]⟩, 0, ⟨#[]⟩, ⟨#[]⟩, ⟨X.toArray⟩⟩ := ⟨bz0, bz0, bz0, bz0, bz0, bzl zx⟩
    replace hp1 := Lib.hid hp1
    replace hdm := Lib.hid hdm
    clear h1 h2 hb1 hp2 hd
    replace he := Lib.hid he
    go_enter Tryz.func13, Tryz.ntmps13
    go_upto_region 2 with fail
    have D := DR_new w #[.int .i64 0, .string ⟨#[]⟩, .string ⟨#[]⟩, .string ⟨#[]⟩, .int .i64 0, .string ⟨#[]⟩, .string ⟨#[]⟩, .string ⟨#[]⟩] #[.int .i64 4, .string ⟨#[]⟩, .string ⟨#[]⟩, .string ⟨#[]⟩, .int .i64 0, .string ⟨#[]⟩, .string ⟨#[]⟩, .string ⟨#[]⟩]
    refine gen_world fun W hW => ?_
    rw [← hW] at D
    clear hW
    obtain ⟨R, hR0⟩ : ∃ R, R = w.heap.size := ⟨_, rfl⟩
    obtain ⟨A, hA⟩ : ∃ A, A = w.heap.size + 1 := ⟨_, rfl⟩
    rw [← hA, ← hR0] at D
    rw [← hA, ← hR0]
    clear hA hR0
    go_upto_region 36 with (go_at_call 35; refine (hSp _).mono ?_; rintro e w1 ⟨⟨g, cap, rfl, HO⟩, hb1⟩)
    obtain ⟨hgw, cur, hkg, hcur⟩ := own_blk HO
    have hgA : A < g := Nat.lt_of_lt_of_le (blk_lt D.kA) hgw
    replace D := D.grow hb1
    clear HO hgw
    clear hkg hcur
    go_upto_region 41 with (go_at_call 36; with_reducible refine (hp1.out _).mono ?_; rintro e w1 ⟨rfl, hb2⟩; have Dn := D.grow hb2; have zf := blk_frozen Dn.kA 7; have xf := blk_cell Dn.kA 7)
    have Dm := Dn.set 7 (.string ⟨X.toArray⟩)
    refine gen_world fun V3 hV3 => ?_
    rw [← hV3] at Dm
    clear hV3 zf xf D Dn 
    have D : DR w R A V3 #[.int .i64 0, .string ⟨#[]⟩, .string ⟨#[]⟩, .string ⟨#[]⟩, .int .i64 0, .string ⟨#[]⟩, .string ⟨#[]⟩, .string ⟨#[]⟩] #[.int .i64 4, .string ⟨#[]⟩, .string ⟨#[]⟩, .string ⟨#[]⟩, .int .i64 0, .string ⟨#[]⟩, .string ⟨#[]⟩, .string ⟨X.toArray⟩] := Dm
    clear Dm
    by_cases hr : rightM (toM ⟨4, ⟨#[]⟩, ⟨#[]⟩, ⟨#[]⟩, 0, ⟨#[]⟩, ⟨#[]⟩, ⟨X.toArray⟩⟩)
    case neg =>
      have hno : RowKit.Hid (decM 4 s.data.toList = none) := Lib.hid (hdm.out.trans (if_neg hr))
      have hRg := fun w => rRight_c ⟨4, ⟨#[]⟩, ⟨#[]⟩, ⟨#[]⟩, 0, ⟨#[]⟩, ⟨#[]⟩, ⟨X.toArray⟩⟩ hsz.big w
      rw [decide_eq_false hr] at hRg
      unfold mv at hRg
      replace hRg := Lib.hid hRg
      clear hr
      have x0 := blk_cell D.kA 0
      have x1 := blk_cell D.kA 1
      have x2 := blk_cell D.kA 2
      have x3 := blk_cell D.kA 3
      have x4 := blk_cell D.kA 4
      have x5 := blk_cell D.kA 5
      have x6 := blk_cell D.kA 6
      have x7 := blk_cell D.kA 7
      go_upto_region 42 with (go_at_call 9; refine (hRg.out _).mono ?_; rintro e w20 ⟨rfl, hb20⟩; have D2 := D.grow hb20)
      have y0 := blk_cell D2.kB 0
      have q0 := blk_frozen D2.kB 0
      have y1 := blk_cell D2.kB 1
      have q1 := blk_frozen D2.kB 1
      have y2 := blk_cell D2.kB 2
      have q2 := blk_frozen D2.kB 2
      have y3 := blk_cell D2.kB 3
      have q3 := blk_frozen D2.kB 3
      have y4 := blk_cell D2.kB 4
      have q4 := blk_frozen D2.kB 4
      have y5 := blk_cell D2.kB 5
      have q5 := blk_frozen D2.kB 5
      have y6 := blk_cell D2.kB 6
      have q6 := blk_frozen D2.kB 6
      have y7 := blk_cell D2.kB 7
      have q7 := blk_frozen D2.kB 7
      go_wp2_with fail
      obtain ⟨W9, hW9, k9, hb9⟩ := Ret8 D2 rfl noM
      simp only [noM] at hW9
      rw [← hW9]
      clear hW9
      exact bodyPost_ret (v := .tuple #[mv noM, .bool false]) (by simp [results, Tryz.results13, go_sem, blk_cell k9 0, blk_cell k9 1, blk_cell k9 2, blk_cell k9 3, blk_cell k9 4, blk_cell k9 5, blk_cell k9 6, blk_cell k9 7, mv, mA, noM]) rfl ⟨⟨noM, false, rfl, noM_sz, .inr ⟨rfl, rfl, hno.out⟩⟩, hb9⟩
    have hyes : RowKit.Hid (decM 4 s.data.toList = some (toM ⟨4, ⟨#[]⟩, ⟨#[]⟩, ⟨#[]⟩, 0, ⟨#[]⟩, ⟨#[]⟩, ⟨X.toArray⟩⟩)) := Lib.hid (hdm.out.trans (if_pos hr))
    have hRg := fun w => rRight_c ⟨4, ⟨#[]⟩, ⟨#[]⟩, ⟨#[]⟩, 0, ⟨#[]⟩, ⟨#[]⟩, ⟨X.toArray⟩⟩ hsz.big w
    rw [decide_eq_true hr] at hRg
    unfold mv at hRg
    replace hRg := Lib.hid hRg
    clear hr
    have x0 := blk_cell D.kA 0
    have x1 := blk_cell D.kA 1
    have x2 := blk_cell D.kA 2
    have x3 := blk_cell D.kA 3
    have x4 := blk_cell D.kA 4
    have x5 := blk_cell D.kA 5
    have x6 := blk_cell D.kA 6
    have x7 := blk_cell D.kA 7
    go_upto_region 43 with (go_at_call 9; refine (hRg.out _).mono ?_; rintro e w20 ⟨rfl, hb20⟩; have D2 := D.grow hb20)
    have y0 := blk_cell D2.kB 0
    have q0 := blk_frozen D2.kB 0
    have y1 := blk_cell D2.kB 1
    have q1 := blk_frozen D2.kB 1
    have y2 := blk_cell D2.kB 2
    have q2 := blk_frozen D2.kB 2
    have y3 := blk_cell D2.kB 3
    have q3 := blk_frozen D2.kB 3
    have y4 := blk_cell D2.kB 4
    have q4 := blk_frozen D2.kB 4
    have y5 := blk_cell D2.kB 5
    have q5 := blk_frozen D2.kB 5
    have y6 := blk_cell D2.kB 6
    have q6 := blk_frozen D2.kB 6
    have y7 := blk_cell D2.kB 7
    have q7 := blk_frozen D2.kB 7
    have p0 := blk_cell D2.kA 0
    have p1 := blk_cell D2.kA 1
    have p2 := blk_cell D2.kA 2
    have p3 := blk_cell D2.kA 3
    have p4 := blk_cell D2.kA 4
    have p5 := blk_cell D2.kA 5
    have p6 := blk_cell D2.kA 6
    have p7 := blk_cell D2.kA 7
    go_wp2_with fail
    obtain ⟨W9, hW9, k9, hb9⟩ := Ret8 D2 rfl ⟨4, ⟨#[]⟩, ⟨#[]⟩, ⟨#[]⟩, 0, ⟨#[]⟩, ⟨#[]⟩, ⟨X.toArray⟩⟩
    simp only at hW9
    rw [← hW9]
    clear hW9
    exact bodyPost_ret (v := .tuple #[mv ⟨4, ⟨#[]⟩, ⟨#[]⟩, ⟨#[]⟩, 0, ⟨#[]⟩, ⟨#[]⟩, ⟨X.toArray⟩⟩, .bool true]) (by simp [results, Tryz.results13, go_sem, blk_cell k9 0, blk_cell k9 1, blk_cell k9 2, blk_cell k9 3, blk_cell k9 4, blk_cell k9 5, blk_cell k9 6, blk_cell k9 7, mv, mA]) rfl ⟨⟨⟨4, ⟨#[]⟩, ⟨#[]⟩, ⟨#[]⟩, 0, ⟨#[]⟩, ⟨#[]⟩, ⟨X.toArray⟩⟩, true, rfl, hsz, .inl ⟨rfl, hyes.out⟩⟩, hb9⟩
  have hx0 : (partC 101 s.data.toList).getD [] = [] := by
    cases hh : partC 101 s.data.toList with
    | none => rfl
    | some x => rw [hh] at hb1; cases hb1
  have hdm := h2 hb1
  rw [hb1, hx0] at hp1
  generalize (partC 118 s.data.toList).getD [] = Y at hp2 hd
  generalize (partC 118 s.data.toList).isSome = b2 at hp2 hdm
  have hsz : SzT ⟨4, ⟨#[]⟩, ⟨#[]⟩, ⟨#[]⟩, 0, ⟨#[]⟩, ⟨U.toArray⟩, ⟨#[]⟩⟩ := ⟨bz0, bz0, bz0, bz0, bzl zu, bz0⟩
  replace hp1 := Lib.hid hp1
  replace hp2 := Lib.hid hp2
  replace hd := Lib.hid hd
  replace hdm := Lib.hid hdm
  clear h1 h2 hb1 hx0
  cases b2
  case false =>
    cases b3
    case false =>
      have hno : RowKit.Hid (decM 4 s.data.toList = none) := Lib.hid hdm.out
      replace he := Lib.hid he
      go_enter Tryz.func13, Tryz.ntmps13
      go_upto_region 2 with fail
      have D := DR_new w #[.int .i64 0, .string ⟨#[]⟩, .string ⟨#[]⟩, .string ⟨#[]⟩, .int .i64 0, .string ⟨#[]⟩, .string ⟨#[]⟩, .string ⟨#[]⟩] #[.int .i64 4, .string ⟨#[]⟩, .string ⟨#[]⟩, .string ⟨#[]⟩, .int .i64 0, .string ⟨#[]⟩, .string ⟨#[]⟩, .string ⟨#[]⟩]
      refine gen_world fun W hW => ?_
      rw [← hW] at D
      clear hW
      obtain ⟨R, hR0⟩ : ∃ R, R = w.heap.size := ⟨_, rfl⟩
      obtain ⟨A, hA⟩ : ∃ A, A = w.heap.size + 1 := ⟨_, rfl⟩
      rw [← hA, ← hR0] at D
      rw [← hA, ← hR0]
      clear hA hR0
      go_upto_region 36 with (go_at_call 35; refine (hSp _).mono ?_; rintro e w1 ⟨⟨g, cap, rfl, HO⟩, hb1⟩)
      obtain ⟨hgw, cur, hkg, hcur⟩ := own_blk HO
      have hgA : A < g := Nat.lt_of_lt_of_le (blk_lt D.kA) hgw
      replace D := D.grow hb1
      clear HO hgw
      clear hkg hcur
      go_upto_region 39 with (go_at_call 36; with_reducible refine (hp1.out _).mono ?_; rintro e w1 ⟨rfl, hb2⟩; have Dn := D.grow hb2; have zf := blk_frozen Dn.kA 7; have xf := blk_cell Dn.kA 7)
      have Dm := Dn.set 7 (.string ⟨#[]⟩)
      refine gen_world fun V3 hV3 => ?_
      rw [← hV3] at Dm
      clear hV3 zf xf D Dn 
      have D : DR w R A V3 #[.int .i64 0, .string ⟨#[]⟩, .string ⟨#[]⟩, .string ⟨#[]⟩, .int .i64 0, .string ⟨#[]⟩, .string ⟨#[]⟩, .string ⟨#[]⟩] #[.int .i64 4, .string ⟨#[]⟩, .string ⟨#[]⟩, .string ⟨#[]⟩, .int .i64 0, .string ⟨#[]⟩, .string ⟨#[]⟩, .string ⟨#[]⟩] := Dm
      clear Dm
      go_upto_region 40 with (go_at_call 36; with_reducible refine (hp2.out _).mono ?_; rintro e w4 ⟨rfl, hb5⟩; have Dn := D.grow hb5)
      replace D := Dn
      clear Dn
      go_upto_region 41 with (go_at_call 37; with_reducible refine (hd.out _).mono ?_; rintro e w6 ⟨rfl, hb7⟩; have Dn := D.grow hb7; have zf := blk_frozen Dn.kA 6; have xf := blk_cell Dn.kA 6)
      have Dm := Dn.set 6 (.string ⟨U.toArray⟩)
      refine gen_world fun V8 hV8 => ?_
      rw [← hV8] at Dm
      clear hV8 zf xf D Dn 
      have D : DR w R A V8 #[.int .i64 0, .string ⟨#[]⟩, .string ⟨#[]⟩, .string ⟨#[]⟩, .int .i64 0, .string ⟨#[]⟩, .string ⟨#[]⟩, .string ⟨#[]⟩] #[.int .i64 4, .string ⟨#[]⟩, .string ⟨#[]⟩, .string ⟨#[]⟩, .int .i64 0, .string ⟨#[]⟩, .string ⟨U.toArray⟩, .string ⟨#[]⟩] := Dm
      clear Dm
      have y0 := blk_cell D.kB 0
      have q0 := blk_frozen D.kB 0
      have y1 := blk_cell D.kB 1
      have q1 := blk_frozen D.kB 1
      have y2 := blk_cell D.kB 2
      have q2 := blk_frozen D.kB 2
      have y3 := blk_cell D.kB 3
      have q3 := blk_frozen D.kB 3
      have y4 := blk_cell D.kB 4
      have q4 := blk_frozen D.kB 4
      have y5 := blk_cell D.kB 5
      have q5 := blk_frozen D.kB 5
      have y6 := blk_cell D.kB 6
      have q6 := blk_frozen D.kB 6
      have y7 := blk_cell D.kB 7
      have q7 := blk_frozen D.kB 7
      go_wp2_with fail
      obtain ⟨W9, hW9, k9, hb9⟩ := Ret8 D rfl noM
      simp only [noM] at hW9
      rw [← hW9]
      clear hW9
      exact bodyPost_ret (v := .tuple #[mv noM, .bool false]) (by simp [results, Tryz.results13, go_sem, blk_cell k9 0, blk_cell k9 1, blk_cell k9 2, blk_cell k9 3, blk_cell k9 4, blk_cell k9 5, blk_cell k9 6, blk_cell k9 7, mv, mA, noM]) rfl ⟨⟨noM, false, rfl, noM_sz, .inr ⟨rfl, rfl, hno.out⟩⟩, hb9⟩
    case true =>
      have hno : RowKit.Hid (decM 4 s.data.toList = none) := Lib.hid hdm.out
      replace he := Lib.hid he
      go_enter Tryz.func13, Tryz.ntmps13
      go_upto_region 2 with fail
      have D := DR_new w #[.int .i64 0, .string ⟨#[]⟩, .string ⟨#[]⟩, .string ⟨#[]⟩, .int .i64 0, .string ⟨#[]⟩, .string ⟨#[]⟩, .string ⟨#[]⟩] #[.int .i64 4, .string ⟨#[]⟩, .string ⟨#[]⟩, .string ⟨#[]⟩, .int .i64 0, .string ⟨#[]⟩, .string ⟨#[]⟩, .string ⟨#[]⟩]
      refine gen_world fun W hW => ?_
      rw [← hW] at D
      clear hW
      obtain ⟨R, hR0⟩ : ∃ R, R = w.heap.size := ⟨_, rfl⟩
      obtain ⟨A, hA⟩ : ∃ A, A = w.heap.size + 1 := ⟨_, rfl⟩
      rw [← hA, ← hR0] at D
      rw [← hA, ← hR0]
      clear hA hR0
      go_upto_region 36 with (go_at_call 35; refine (hSp _).mono ?_; rintro e w1 ⟨⟨g, cap, rfl, HO⟩, hb1⟩)
      obtain ⟨hgw, cur, hkg, hcur⟩ := own_blk HO
      have hgA : A < g := Nat.lt_of_lt_of_le (blk_lt D.kA) hgw
      replace D := D.grow hb1
      clear HO hgw
      clear hkg hcur
      go_upto_region 39 with (go_at_call 36; with_reducible refine (hp1.out _).mono ?_; rintro e w1 ⟨rfl, hb2⟩; have Dn := D.grow hb2; have zf := blk_frozen Dn.kA 7; have xf := blk_cell Dn.kA 7)
      have Dm := Dn.set 7 (.string ⟨#[]⟩)
      refine gen_world fun V3 hV3 => ?_
      rw [← hV3] at Dm
      clear hV3 zf xf D Dn 
      have D : DR w R A V3 #[.int .i64 0, .string ⟨#[]⟩, .string ⟨#[]⟩, .string ⟨#[]⟩, .int .i64 0, .string ⟨#[]⟩, .string ⟨#[]⟩, .string ⟨#[]⟩] #[.int .i64 4, .string ⟨#[]⟩, .string ⟨#[]⟩, .string ⟨#[]⟩, .int .i64 0, .string ⟨#[]⟩, .string ⟨#[]⟩, .string ⟨#[]⟩] := Dm
      clear Dm
      go_upto_region 40 with (go_at_call 36; with_reducible refine (hp2.out _).mono ?_; rintro e w4 ⟨rfl, hb5⟩; have Dn := D.grow hb5)
      replace D := Dn
      clear Dn
      go_upto_region 41 with (go_at_call 37; with_reducible refine (hd.out _).mono ?_; rintro e w6 ⟨rfl, hb7⟩; have Dn := D.grow hb7; have zf := blk_frozen Dn.kA 6; have xf := blk_cell Dn.kA 6)
      have Dm := Dn.set 6 (.string ⟨U.toArray⟩)
      refine gen_world fun V8 hV8 => ?_
      rw [← hV8] at Dm
      clear hV8 zf xf D Dn 
      have D : DR w R A V8 #[.int .i64 0, .string ⟨#[]⟩, .string ⟨#[]⟩, .string ⟨#[]⟩, .int .i64 0, .string ⟨#[]⟩, .string ⟨#[]⟩, .string ⟨#[]⟩] #[.int .i64 4, .string ⟨#[]⟩, .string ⟨#[]⟩, .string ⟨#[]⟩, .int .i64 0, .string ⟨#[]⟩, .string ⟨U.toArray⟩, .string ⟨#[]⟩] := Dm
      clear Dm
      have y0 := blk_cell D.kB 0
      have q0 := blk_frozen D.kB 0
      have y1 := blk_cell D.kB 1
      have q1 := blk_frozen D.kB 1
      have y2 := blk_cell D.kB 2
      have q2 := blk_frozen D.kB 2
      have y3 := blk_cell D.kB 3
      have q3 := blk_frozen D.kB 3
      have y4 := blk_cell D.kB 4
      have q4 := blk_frozen D.kB 4
      have y5 := blk_cell D.kB 5
      have q5 := blk_frozen D.kB 5
      have y6 := blk_cell D.kB 6
      have q6 := blk_frozen D.kB 6
      have y7 := blk_cell D.kB 7
      have q7 := blk_frozen D.kB 7
      go_wp2_with fail
      obtain ⟨W9, hW9, k9, hb9⟩ := Ret8 D rfl noM
      simp only [noM] at hW9
      rw [← hW9]
      clear hW9
      exact bodyPost_ret (v := .tuple #[mv noM, .bool false]) (by simp [results, Tryz.results13, go_sem, blk_cell k9 0, blk_cell k9 1, blk_cell k9 2, blk_cell k9 3, blk_cell k9 4, blk_cell k9 5, blk_cell k9 6, blk_cell k9 7, mv, mA, noM]) rfl ⟨⟨noM, false, rfl, noM_sz, .inr ⟨rfl, rfl, hno.out⟩⟩, hb9⟩
  case true =>
    cases b3
    case false =>
      have hno : RowKit.Hid (decM 4 s.data.toList = none) := Lib.hid hdm.out
      replace he := Lib.hid he
      go_enter Tryz.func13, Tryz.ntmps13
      go_upto_region 2 with fail
      have D := DR_new w #[.int .i64 0, .string ⟨#[]⟩, .string ⟨#[]⟩, .string ⟨#[]⟩, .int .i64 0, .string ⟨#[]⟩, .string ⟨#[]⟩, .string ⟨#[]⟩] #[.int .i64 4, .string ⟨#[]⟩, .string ⟨#[]⟩, .string ⟨#[]⟩, .int .i64 0, .string ⟨#[]⟩, .string ⟨#[]⟩, .string ⟨#[]⟩]
      refine gen_world fun W hW => ?_
      rw [← hW] at D
      clear hW
      obtain ⟨R, hR0⟩ : ∃ R, R = w.heap.size := ⟨_, rfl⟩
      obtain ⟨A, hA⟩ : ∃ A, A = w.heap.size + 1 := ⟨_, rfl⟩
      rw [← hA, ← hR0] at D
      rw [← hA, ← hR0]
      clear hA hR0
      go_upto_region 36 with (go_at_call 35; refine (hSp _).mono ?_; rintro e w1 ⟨⟨g, cap, rfl, HO⟩, hb1⟩)
      obtain ⟨hgw, cur, hkg, hcur⟩ := own_blk HO
      have hgA : A < g := Nat.lt_of_lt_of_le (blk_lt D.kA) hgw
      replace D := D.grow hb1
      clear HO hgw
      clear hkg hcur
      go_upto_region 39 with (go_at_call 36; with_reducible refine (hp1.out _).mono ?_; rintro e w1 ⟨rfl, hb2⟩; have Dn := D.grow hb2; have zf := blk_frozen Dn.kA 7; have xf := blk_cell Dn.kA 7)
      have Dm := Dn.set 7 (.string ⟨#[]⟩)
      refine gen_world fun V3 hV3 => ?_
      rw [← hV3] at Dm
      clear hV3 zf xf D Dn 
      have D : DR w R A V3 #[.int .i64 0, .string ⟨#[]⟩, .string ⟨#[]⟩, .string ⟨#[]⟩, .int .i64 0, .string ⟨#[]⟩, .string ⟨#[]⟩, .string ⟨#[]⟩] #[.int .i64 4, .string ⟨#[]⟩, .string ⟨#[]⟩, .string ⟨#[]⟩, .int .i64 0, .string ⟨#[]⟩, .string ⟨#[]⟩, .string ⟨#[]⟩] := Dm
      clear Dm
      go_upto_region 40 with (go_at_call 36; with_reducible refine (hp2.out _).mono ?_; rintro e w4 ⟨rfl, hb5⟩; have Dn := D.grow hb5)
      replace D := Dn
      clear Dn
      go_upto_region 41 with (go_at_call 37; with_reducible refine (hd.out _).mono ?_; rintro e w6 ⟨rfl, hb7⟩; have Dn := D.grow hb7; have zf := blk_frozen Dn.kA 6; have xf := blk_cell Dn.kA 6)
      have Dm := Dn.set 6 (.string ⟨U.toArray⟩)
      refine gen_world fun V8 hV8 => ?_
      rw [← hV8] at Dm
      clear hV8 zf xf D Dn 
      have D : DR w R A V8 #[.int .i64 0, .string ⟨#[]⟩, .string ⟨#[]⟩, .string ⟨#[]⟩, .int .i64 0, .string ⟨#[]⟩, .string ⟨#[]⟩, .string ⟨#[]⟩] #[.int .i64 4, .string ⟨#[]⟩, .string ⟨#[]⟩, .string ⟨#[]⟩, .int .i64 0, .string ⟨#[]⟩, .string ⟨U.toArray⟩, .string ⟨#[]⟩] := Dm
      clear Dm
      have y0 := blk_cell D.kB 0
      have q0 := blk_frozen D.kB 0
      have y1 := blk_cell D.kB 1
      have q1 := blk_frozen D.kB 1
      have y2 := blk_cell D.kB 2
      have q2 := blk_frozen D.kB 2
      have y3 := blk_cell D.kB 3
      have q3 := blk_frozen D.kB 3
      have y4 := blk_cell D.kB 4
      have q4 := blk_frozen D.kB 4
      have y5 := blk_cell D.kB 5
      have q5 := blk_frozen D.kB 5
      have y6 := blk_cell D.kB 6
      have q6 := blk_frozen D.kB 6
      have y7 := blk_cell D.kB 7
      have q7 := blk_frozen D.kB 7
      go_wp2_with fail
      obtain ⟨W9, hW9, k9, hb9⟩ := Ret8 D rfl noM
      simp only [noM] at hW9
      rw [← hW9]
      clear hW9
      exact bodyPost_ret (v := .tuple #[mv noM, .bool false]) (by simp [results, Tryz.results13, go_sem, blk_cell k9 0, blk_cell k9 1, blk_cell k9 2, blk_cell k9 3, blk_cell k9 4, blk_cell k9 5, blk_cell k9 6, blk_cell k9 7, mv, mA, noM]) rfl ⟨⟨noM, false, rfl, noM_sz, .inr ⟨rfl, rfl, hno.out⟩⟩, hb9⟩
    case true =>
      replace he := Lib.hid he
      go_enter Tryz.func13, Tryz.ntmps13
      go_upto_region 2 with fail
      have D := DR_new w #[.int .i64 0, .string ⟨#[]⟩, .string ⟨#[]⟩, .string ⟨#[]⟩, .int .i64 0, .string ⟨#[]⟩, .string ⟨#[]⟩, .string ⟨#[]⟩] #[.int .i64 4, .string ⟨#[]⟩, .string ⟨#[]⟩, .string ⟨#[]⟩, .int .i64 0, .string ⟨#[]⟩, .string ⟨#[]⟩, .string ⟨#[]⟩]
      refine gen_world fun W hW => ?_
      rw [← hW] at D
      clear hW
      obtain ⟨R, hR0⟩ : ∃ R, R = w.heap.size := ⟨_, rfl⟩
      obtain ⟨A, hA⟩ : ∃ A, A = w.heap.size + 1 := ⟨_, rfl⟩
      rw [← hA, ← hR0] at D
      rw [← hA, ← hR0]
      clear hA hR0
      go_upto_region 36 with (go_at_call 35; refine (hSp _).mono ?_; rintro e w1 ⟨⟨g, cap, rfl, HO⟩, hb1⟩)
      obtain ⟨hgw, cur, hkg, hcur⟩ := own_blk HO
      have hgA : A < g := Nat.lt_of_lt_of_le (blk_lt D.kA) hgw
      replace D := D.grow hb1
      clear HO hgw
      clear hkg hcur
      go_upto_region 39 with (go_at_call 36; with_reducible refine (hp1.out _).mono ?_; rintro e w1 ⟨rfl, hb2⟩; have Dn := D.grow hb2; have zf := blk_frozen Dn.kA 7; have xf := blk_cell Dn.kA 7)
      have Dm := Dn.set 7 (.string ⟨#[]⟩)
      refine gen_world fun V3 hV3 => ?_
      rw [← hV3] at Dm
      clear hV3 zf xf D Dn 
      have D : DR w R A V3 #[.int .i64 0, .string ⟨#[]⟩, .string ⟨#[]⟩, .string ⟨#[]⟩, .int .i64 0, .string ⟨#[]⟩, .string ⟨#[]⟩, .string ⟨#[]⟩] #[.int .i64 4, .string ⟨#[]⟩, .string ⟨#[]⟩, .string ⟨#[]⟩, .int .i64 0, .string ⟨#[]⟩, .string ⟨#[]⟩, .string ⟨#[]⟩] := Dm
      clear Dm
      go_upto_region 40 with (go_at_call 36; with_reducible refine (hp2.out _).mono ?_; rintro e w4 ⟨rfl, hb5⟩; have Dn := D.grow hb5)
      replace D := Dn
      clear Dn
      go_upto_region 41 with (go_at_call 37; with_reducible refine (hd.out _).mono ?_; rintro e w6 ⟨rfl, hb7⟩; have Dn := D.grow hb7; have zf := blk_frozen Dn.kA 6; have xf := blk_cell Dn.kA 6)
      have Dm := Dn.set 6 (.string ⟨U.toArray⟩)
      refine gen_world fun V8 hV8 => ?_
      rw [← hV8] at Dm
      clear hV8 zf xf D Dn 
      have D : DR w R A V8 #[.int .i64 0, .string ⟨#[]⟩, .string ⟨#[]⟩, .string ⟨#[]⟩, .int .i64 0, .string ⟨#[]⟩, .string ⟨#[]⟩, .string ⟨#[]⟩] #[.int .i64 4, .string ⟨#[]⟩, .string ⟨#[]⟩, .string ⟨#[]⟩, .int .i64 0, .string ⟨#[]⟩, .string ⟨U.toArray⟩, .string ⟨#[]⟩] := Dm
      clear Dm
      by_cases hr : rightM (toM ⟨4, ⟨#[]⟩, ⟨#[]⟩, ⟨#[]⟩, 0, ⟨#[]⟩, ⟨U.toArray⟩, ⟨#[]⟩⟩)
      case neg =>
        have hno : RowKit.Hid (decM 4 s.data.toList = none) := Lib.hid (hdm.out.trans (if_neg hr))
        have hRg := fun w => rRight_c ⟨4, ⟨#[]⟩, ⟨#[]⟩, ⟨#[]⟩, 0, ⟨#[]⟩, ⟨U.toArray⟩, ⟨#[]⟩⟩ hsz.big w
        rw [decide_eq_false hr] at hRg
        unfold mv at hRg
        replace hRg := Lib.hid hRg
        clear hr
        have x0 := blk_cell D.kA 0
        have x1 := blk_cell D.kA 1
        have x2 := blk_cell D.kA 2
        have x3 := blk_cell D.kA 3
        have x4 := blk_cell D.kA 4
        have x5 := blk_cell D.kA 5
        have x6 := blk_cell D.kA 6
        have x7 := blk_cell D.kA 7
        go_upto_region 42 with (go_at_call 9; refine (hRg.out _).mono ?_; rintro e w20 ⟨rfl, hb20⟩; have D2 := D.grow hb20)
        have y0 := blk_cell D2.kB 0
        have q0 := blk_frozen D2.kB 0
        have y1 := blk_cell D2.kB 1
        have q1 := blk_frozen D2.kB 1
        have y2 := blk_cell D2.kB 2
        have q2 := blk_frozen D2.kB 2
        have y3 := blk_cell D2.kB 3
        have q3 := blk_frozen D2.kB 3
        have y4 := blk_cell D2.kB 4
        have q4 := blk_frozen D2.kB 4
        have y5 := blk_cell D2.kB 5
        have q5 := blk_frozen D2.kB 5
        have y6 := blk_cell D2.kB 6
        have q6 := blk_frozen D2.kB 6
        have y7 := blk_cell D2.kB 7
        have q7 := blk_frozen D2.kB 7
        go_wp2_with fail
        obtain ⟨W9, hW9, k9, hb9⟩ := Ret8 D2 rfl noM
        simp only [noM] at hW9
        rw [← hW9]
        clear hW9
        exact bodyPost_ret (v := .tuple #[mv noM, .bool false]) (by simp [results, Tryz.results13, go_sem, blk_cell k9 0, blk_cell k9 1, blk_cell k9 2, blk_cell k9 3, blk_cell k9 4, blk_cell k9 5, blk_cell k9 6, blk_cell k9 7, mv, mA, noM]) rfl ⟨⟨noM, false, rfl, noM_sz, .inr ⟨rfl, rfl, hno.out⟩⟩, hb9⟩
      have hyes : RowKit.Hid (decM 4 s.data.toList = some (toM ⟨4, ⟨#[]⟩, ⟨#[]⟩, ⟨#[]⟩, 0, ⟨#[]⟩, ⟨U.toArray⟩, ⟨#[]⟩⟩)) := Lib.hid (hdm.out.trans (if_pos hr))
      have hRg := fun w => rRight_c ⟨4, ⟨#[]⟩, ⟨#[]⟩, ⟨#[]⟩, 0, ⟨#[]⟩, ⟨U.toArray⟩, ⟨#[]⟩⟩ hsz.big w
      rw [decide_eq_true hr] at hRg
      unfold mv at hRg
      replace hRg := Lib.hid hRg
      clear hr
      have x0 := blk_cell D.kA 0
      have x1 := blk_cell D.kA 1
      have x2 := blk_cell D.kA 2
      have x3 := blk_cell D.kA 3
      have x4 := blk_cell D.kA 4
      have x5 := blk_cell D.kA 5
      have x6 := blk_cell D.kA 6
      have x7 := blk_cell D.kA 7
      go_upto_region 43 with (go_at_call 9; refine (hRg.out _).mono ?_; rintro e w20 ⟨rfl, hb20⟩; have D2 := D.grow hb20)
      have y0 := blk_cell D2.kB 0
      have q0 := blk_frozen D2.kB 0
      have y1 := blk_cell D2.kB 1
      have q1 := blk_frozen D2.kB 1
      have y2 := blk_cell D2.kB 2
      have q2 := blk_frozen D2.kB 2
      have y3 := blk_cell D2.kB 3
      have q3 := blk_frozen D2.kB 3
      have y4 := blk_cell D2.kB 4
      have q4 := blk_frozen D2.kB 4
      have y5 := blk_cell D2.kB 5
      have q5 := blk_frozen D2.kB 5
      have y6 := blk_cell D2.kB 6
      have q6 := blk_frozen D2.kB 6
      have y7 := blk_cell D2.kB 7
      have q7 := blk_frozen D2.kB 7
      have p0 := blk_cell D2.kA 0
      have p1 := blk_cell D2.kA 1
      have p2 := blk_cell D2.kA 2
      have p3 := blk_cell D2.kA 3
      have p4 := blk_cell D2.kA 4
      have p5 := blk_cell D2.kA 5
      have p6 := blk_cell D2.kA 6
      have p7 := blk_cell D2.kA 7
      go_wp2_with fail
      obtain ⟨W9, hW9, k9, hb9⟩ := Ret8 D2 rfl ⟨4, ⟨#[]⟩, ⟨#[]⟩, ⟨#[]⟩, 0, ⟨#[]⟩, ⟨U.toArray⟩, ⟨#[]⟩⟩
      simp only at hW9
      rw [← hW9]
      clear hW9
      exact bodyPost_ret (v := .tuple #[mv ⟨4, ⟨#[]⟩, ⟨#[]⟩, ⟨#[]⟩, 0, ⟨#[]⟩, ⟨U.toArray⟩, ⟨#[]⟩⟩, .bool true]) (by simp [results, Tryz.results13, go_sem, blk_cell k9 0, blk_cell k9 1, blk_cell k9 2, blk_cell k9 3, blk_cell k9 4, blk_cell k9 5, blk_cell k9 6, blk_cell k9 7, mv, mA]) rfl ⟨⟨⟨4, ⟨#[]⟩, ⟨#[]⟩, ⟨#[]⟩, 0, ⟨#[]⟩, ⟨U.toArray⟩, ⟨#[]⟩⟩, true, rfl, hsz, .inl ⟨rfl, hyes.out⟩⟩, hb9⟩
set_option maxHeartbeats 8000000 in
theorem rDec_0 (k : Int) (h1 : ¬ k = 1) (h2 : ¬ k = 2) (h3 : ¬ k = 3) (h4 : ¬ k = 4) (s : ByteArray) (hs : s.size ≤ 1000) (w : World) (he : Env w) : Calls Tryz.prog 13 #[.int .i64 k, .string s] w fun e w' => RcM k s.data.toList e ∧ Below w.heap.size w w' := by
  have hSp := fun w => rSplit_c s 44 (by omega) w
  rw [show (((44 : UInt8).toNat : Nat) : Int) = 44 from rfl] at hSp
  unfold RcM
  generalize splitL 44 s.data.toList = PS at hSp
  have hno : RowKit.Hid (decM k s.data.toList = none) := Lib.hid (dm0 k _ h1 h2 h3 h4)
  have d1 : (k == 1) = false := beq_eq_false_iff_ne.2 h1
  have d2 : (k == 2) = false := beq_eq_false_iff_ne.2 h2
  have d3 : (k == 3) = false := beq_eq_false_iff_ne.2 h3
  have d4 : (k == 4) = false := beq_eq_false_iff_ne.2 h4
  have hrn : decide (rightM (toM ⟨k, ⟨#[]⟩, ⟨#[]⟩, ⟨#[]⟩, 0, ⟨#[]⟩, ⟨#[]⟩, ⟨#[]⟩⟩)) = false := decide_eq_false (by
    rintro (q | q | q | q)
    · exact h1 q.1
    · exact h2 q.1
    · exact h3 q.1
    · exact h4 q.1)
  have hRg := fun w => rRight_c ⟨k, ⟨#[]⟩, ⟨#[]⟩, ⟨#[]⟩, 0, ⟨#[]⟩, ⟨#[]⟩, ⟨#[]⟩⟩ (SzT_zero k).big w
  rw [hrn] at hRg
  unfold mv at hRg
  replace hRg := Lib.hid hRg
  clear hrn
  replace he := Lib.hid he
  go_enter Tryz.func13, Tryz.ntmps13
  go_upto_region 2 with fail
  have D := DR_new w #[.int .i64 0, .string ⟨#[]⟩, .string ⟨#[]⟩, .string ⟨#[]⟩, .int .i64 0, .string ⟨#[]⟩, .string ⟨#[]⟩, .string ⟨#[]⟩] #[.int .i64 k, .string ⟨#[]⟩, .string ⟨#[]⟩, .string ⟨#[]⟩, .int .i64 0, .string ⟨#[]⟩, .string ⟨#[]⟩, .string ⟨#[]⟩]
  refine gen_world fun W hW => ?_
  rw [← hW] at D
  clear hW
  obtain ⟨R, hR0⟩ : ∃ R, R = w.heap.size := ⟨_, rfl⟩
  obtain ⟨A, hA⟩ : ∃ A, A = w.heap.size + 1 := ⟨_, rfl⟩
  rw [← hA, ← hR0] at D
  rw [← hA, ← hR0]
  clear hA hR0
  go_upto_region 41 with (go_at_call 35; refine (hSp _).mono ?_; rintro e w1 ⟨⟨g, cap, rfl, HO⟩, hb1⟩)
  obtain ⟨hgw, cur, hkg, hcur⟩ := own_blk HO
  have hgA : A < g := Nat.lt_of_lt_of_le (blk_lt D.kA) hgw
  replace D := D.grow hb1
  clear HO hgw
  clear hkg hcur
  have x0 := blk_cell D.kA 0
  have x1 := blk_cell D.kA 1
  have x2 := blk_cell D.kA 2
  have x3 := blk_cell D.kA 3
  have x4 := blk_cell D.kA 4
  have x5 := blk_cell D.kA 5
  have x6 := blk_cell D.kA 6
  have x7 := blk_cell D.kA 7
  go_upto_region 42 with (go_at_call 9; refine (hRg.out _).mono ?_; rintro e w20 ⟨rfl, hb20⟩; have D2 := D.grow hb20)
  have y0 := blk_cell D2.kB 0
  have q0 := blk_frozen D2.kB 0
  have y1 := blk_cell D2.kB 1
  have q1 := blk_frozen D2.kB 1
  have y2 := blk_cell D2.kB 2
  have q2 := blk_frozen D2.kB 2
  have y3 := blk_cell D2.kB 3
  have q3 := blk_frozen D2.kB 3
  have y4 := blk_cell D2.kB 4
  have q4 := blk_frozen D2.kB 4
  have y5 := blk_cell D2.kB 5
  have q5 := blk_frozen D2.kB 5
  have y6 := blk_cell D2.kB 6
  have q6 := blk_frozen D2.kB 6
  have y7 := blk_cell D2.kB 7
  have q7 := blk_frozen D2.kB 7
  go_wp2_with fail
  obtain ⟨W9, hW9, k9, hb9⟩ := Ret8 D2 rfl noM
  simp only [noM] at hW9
  rw [← hW9]
  clear hW9
  exact bodyPost_ret (v := .tuple #[mv noM, .bool false]) (by simp [results, Tryz.results13, go_sem, blk_cell k9 0, blk_cell k9 1, blk_cell k9 2, blk_cell k9 3, blk_cell k9 4, blk_cell k9 5, blk_cell k9 6, blk_cell k9 7, mv, mA, noM]) rfl ⟨⟨noM, false, rfl, noM_sz, .inr ⟨rfl, rfl, hno.out⟩⟩, hb9⟩
theorem rDecode33_c (k : Int) (s : ByteArray) (hs : s.size ≤ 1000) (w : World) (he : Env w) : Calls Tryz.prog 13 #[.int .i64 k, .string s] w fun e w' => RcM k s.data.toList e ∧ Below w.heap.size w w' := by
  by_cases h1 : k = 1
  · subst h1; exact rDec_1 s hs w he
  by_cases h2 : k = 2
  · subst h2; exact rDec_2 s hs w he
  by_cases h3 : k = 3
  · subst h3; exact rDec_3 s hs w he
  by_cases h4 : k = 4
  · subst h4; exact rDec_4 s hs w he
  exact rDec_0 k h1 h2 h3 h4 s hs w he
end Go.Proofs.YtjigckibbjfkmaaGreatDoor

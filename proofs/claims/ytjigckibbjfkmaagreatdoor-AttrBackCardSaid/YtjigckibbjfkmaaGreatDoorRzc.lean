/- Reference 33: Decode, kind 2. -/
import Derived.Test.YtjigckibbjfkmaaGreatDoorRza
namespace Go.Proofs.YtjigckibbjfkmaaGreatDoor
open Go.RowKit
set_option maxRecDepth 100000
set_option linter.unusedSimpArgs false
set_option linter.unusedVariables false
set_option maxHeartbeats 8000000 in
theorem rDec_2 (s : ByteArray) (hs : s.size ≤ 1000) (w : World) (he : Env w) : Calls Tryz.prog 13 #[.int .i64 2, .string s] w fun e w' => RcM 2 s.data.toList e ∧ Below w.heap.size w w' := by
  have hSp := fun w => rSplit_c s 44 (by omega) w
  rw [show (((44 : UInt8).toNat : Nat) : Int) = 44 from rfl] at hSp
  have hpl := split_part 44 s.data.toList
  have hdl : s.data.toList.length ≤ 1000 := by rw [zlen]; omega
  have hn1 := dm2n s.data.toList
  have h1 := dm2 s.data.toList
  unfold RcM
  generalize splitL 44 s.data.toList = PS at hSp hpl hn1 h1
  by_cases h4 : PS.length = 3
  case neg =>
    have hno : RowKit.Hid (decM 2 s.data.toList = none) := Lib.hid (hn1 h4)
    have i4 : ((PS.length : Int) != 3) = true := bne_iff_ne.2 (by omega)
    have j4 : ¬ (PS.length : Int) = 3 := by omega
    clear h1 hn1 hpl
    replace he := Lib.hid he
    go_enter Tryz.func13, Tryz.ntmps13
    go_upto_region 2 with fail
    have D := DR_new w #[.int .i64 0, .string ⟨#[]⟩, .string ⟨#[]⟩, .string ⟨#[]⟩, .int .i64 0, .string ⟨#[]⟩, .string ⟨#[]⟩, .string ⟨#[]⟩] #[.int .i64 2, .string ⟨#[]⟩, .string ⟨#[]⟩, .string ⟨#[]⟩, .int .i64 0, .string ⟨#[]⟩, .string ⟨#[]⟩, .string ⟨#[]⟩]
    refine gen_world fun W hW => ?_
    rw [← hW] at D
    clear hW
    obtain ⟨R, hR0⟩ : ∃ R, R = w.heap.size := ⟨_, rfl⟩
    obtain ⟨A, hA⟩ : ∃ A, A = w.heap.size + 1 := ⟨_, rfl⟩
    rw [← hA, ← hR0] at D
    rw [← hA, ← hR0]
    clear hA hR0
    go_upto_region 16 with (go_at_call 35; refine (hSp _).mono ?_; rintro e w1 ⟨⟨g, cap, rfl, HO⟩, hb1⟩)
    obtain ⟨hgw, cur, hkg, hcur⟩ := own_blk HO
    have hgA : A < g := Nat.lt_of_lt_of_le (blk_lt D.kA) hgw
    replace D := D.grow hb1
    clear HO hgw
    have y0 := blk_cell D.kB 0
    have q0 := blk_frozen D.kB 0
    have y1 := blk_cell D.kB 1
    have q1 := blk_frozen D.kB 1
    have y2 := blk_cell D.kB 2
    have q2 := blk_frozen D.kB 2
    have y3 := blk_cell D.kB 3
    have q3 := blk_frozen D.kB 3
    have y4 := blk_cell D.kB 4
    have q4 := blk_frozen D.kB 4
    have y5 := blk_cell D.kB 5
    have q5 := blk_frozen D.kB 5
    have y6 := blk_cell D.kB 6
    have q6 := blk_frozen D.kB 6
    have y7 := blk_cell D.kB 7
    have q7 := blk_frozen D.kB 7
    go_wp2_with fail
    obtain ⟨W9, hW9, k9, hb9⟩ := Ret8 D rfl noM
    simp only [noM] at hW9
    rw [← hW9]
    clear hW9
    exact bodyPost_ret (v := .tuple #[mv noM, .bool false]) (by simp [results, Tryz.results13, go_sem, blk_cell k9 0, blk_cell k9 1, blk_cell k9 2, blk_cell k9 3, blk_cell k9 4, blk_cell k9 5, blk_cell k9 6, blk_cell k9 7, mv, mA, noM]) rfl ⟨⟨noM, false, rfl, noM_sz, .inr ⟨rfl, rfl, hno.out⟩⟩, hb9⟩
  obtain ⟨a, b, c, rfl⟩ : ∃ a b c, PS = [a, b, c] := by
    match PS, h4 with
    | [a, b, c], _ => exact ⟨a, b, c, rfl⟩
  clear h4
  simp only [List.length_cons, List.length_nil, List.map_cons, List.map_nil] at hSp
  have hdm := h1 a b c rfl
  have za := Nat.le_trans (hpl a (by simp)) hdl
  have zb := Nat.le_trans (hpl b (by simp)) hdl
  have zc := Nat.le_trans (hpl c (by simp)) hdl
  clear h1 hn1 hpl hdl
  have hp1 := fun w => rPart_c a 114 w
  have hp2 := fun w => rPart_c b 115 w
  have hp3 := fun w => rPart_c c 105 w
  have zx := Nat.le_trans (part_le 114 a) za
  have zy := Nat.le_trans (part_le 115 b) zb
  have hd := fun w => rDec_c ((partC 115 b).getD []) zy w
  have zu := Nat.le_trans (dec_le ((partC 115 b).getD [])) zy
  have hg := fun w => rDg_c ((partC 105 c).getD []) w
  generalize digN ((partC 105 c).getD []) = I at hg hdm
  generalize (decL ((partC 115 b).getD [])).getD [] = U at hd hdm zu
  generalize (decL ((partC 115 b).getD [])).isSome = b3 at hd hdm
  generalize (partC 114 a).getD [] = X at hp1 hdm zx
  generalize (partC 114 a).isSome = b1 at hp1 hdm
  generalize (partC 115 b).getD [] = Y at hp2 hd
  generalize (partC 115 b).isSome = b2 at hp2 hdm
  generalize (partC 105 c).getD [] = G at hp3 hg
  generalize (partC 105 c).isSome = b4 at hp3 hdm
  have hsz : SzT ⟨2, ⟨#[]⟩, ⟨X.toArray⟩, ⟨U.toArray⟩, I, ⟨#[]⟩, ⟨#[]⟩, ⟨#[]⟩⟩ := ⟨bz0, bzl zx, bzl zu, bz0, bz0, bz0⟩
  replace hp1 := Lib.hid hp1
  replace hp2 := Lib.hid hp2
  replace hp3 := Lib.hid hp3
  replace hd := Lib.hid hd
  replace hg := Lib.hid hg
  replace hdm := Lib.hid hdm
  cases b1
  case false =>
    cases b2
    case false =>
      cases b3
      case false =>
        cases b4
        case false =>
          have hno : RowKit.Hid (decM 2 s.data.toList = none) := Lib.hid hdm.out
          replace he := Lib.hid he
          go_enter Tryz.func13, Tryz.ntmps13
          go_upto_region 2 with fail
          have D := DR_new w #[.int .i64 0, .string ⟨#[]⟩, .string ⟨#[]⟩, .string ⟨#[]⟩, .int .i64 0, .string ⟨#[]⟩, .string ⟨#[]⟩, .string ⟨#[]⟩] #[.int .i64 2, .string ⟨#[]⟩, .string ⟨#[]⟩, .string ⟨#[]⟩, .int .i64 0, .string ⟨#[]⟩, .string ⟨#[]⟩, .string ⟨#[]⟩]
          refine gen_world fun W hW => ?_
          rw [← hW] at D
          clear hW
          obtain ⟨R, hR0⟩ : ∃ R, R = w.heap.size := ⟨_, rfl⟩
          obtain ⟨A, hA⟩ : ∃ A, A = w.heap.size + 1 := ⟨_, rfl⟩
          rw [← hA, ← hR0] at D
          rw [← hA, ← hR0]
          clear hA hR0
          go_upto_region 17 with (go_at_call 35; refine (hSp _).mono ?_; rintro e w1 ⟨⟨g, cap, rfl, HO⟩, hb1⟩)
          obtain ⟨hgw, cur, hkg, hcur⟩ := own_blk HO
          have hgA : A < g := Nat.lt_of_lt_of_le (blk_lt D.kA) hgw
          replace D := D.grow hb1
          clear HO hgw
          have l0 := (blk_cell hkg 0).trans (hcur 0 (.string ⟨a.toArray⟩) rfl)
          go_upto_region 19 with (go_at_call 36; with_reducible refine (hp1.out _).mono ?_; rintro e w1 ⟨rfl, hb2⟩; have Dn := D.grow hb2; have zf := blk_frozen Dn.kA 2; have xf := blk_cell Dn.kA 2)
          replace hkg := grow_blk hb2 hkg
          have Dm := Dn.set 2 (.string ⟨X.toArray⟩)
          refine gen_world fun V3 hV3 => ?_
          rw [← hV3] at Dm
          replace hkg : V3.heap[g]? = some (.cells cur 9 (0, 0)) := by rw [hV3]; exact blk_far hkg (by simp; omega) _
          clear hV3 zf xf D Dn l0
          have D : DR w R A V3 #[.int .i64 0, .string ⟨#[]⟩, .string ⟨#[]⟩, .string ⟨#[]⟩, .int .i64 0, .string ⟨#[]⟩, .string ⟨#[]⟩, .string ⟨#[]⟩] #[.int .i64 2, .string ⟨#[]⟩, .string ⟨X.toArray⟩, .string ⟨#[]⟩, .int .i64 0, .string ⟨#[]⟩, .string ⟨#[]⟩, .string ⟨#[]⟩] := Dm
          clear Dm
          have l1 := (blk_cell hkg 1).trans (hcur 1 (.string ⟨b.toArray⟩) rfl)
          go_upto_region 20 with (go_at_call 36; with_reducible refine (hp2.out _).mono ?_; rintro e w4 ⟨rfl, hb5⟩; have Dn := D.grow hb5)
          clear l1
          replace D := Dn
          clear Dn
          replace hkg := grow_blk hb5 hkg
          go_upto_region 22 with (go_at_call 37; with_reducible refine (hd.out _).mono ?_; rintro e w6 ⟨rfl, hb7⟩; have Dn := D.grow hb7; have zf := blk_frozen Dn.kA 3; have xf := blk_cell Dn.kA 3)
          replace hkg := grow_blk hb7 hkg
          have Dm := Dn.set 3 (.string ⟨U.toArray⟩)
          refine gen_world fun V8 hV8 => ?_
          rw [← hV8] at Dm
          replace hkg : V8.heap[g]? = some (.cells cur 9 (0, 0)) := by rw [hV8]; exact blk_far hkg (by simp; omega) _
          clear hV8 zf xf D Dn 
          have D : DR w R A V8 #[.int .i64 0, .string ⟨#[]⟩, .string ⟨#[]⟩, .string ⟨#[]⟩, .int .i64 0, .string ⟨#[]⟩, .string ⟨#[]⟩, .string ⟨#[]⟩] #[.int .i64 2, .string ⟨#[]⟩, .string ⟨X.toArray⟩, .string ⟨U.toArray⟩, .int .i64 0, .string ⟨#[]⟩, .string ⟨#[]⟩, .string ⟨#[]⟩] := Dm
          clear Dm
          have l2 := (blk_cell hkg 2).trans (hcur 2 (.string ⟨c.toArray⟩) rfl)
          go_upto_region 24 with (go_at_call 36; with_reducible refine (hp3.out _).mono ?_; rintro e w9 ⟨rfl, hb10⟩; have Dn := D.grow hb10)
          clear l2
          replace D := Dn
          clear Dn
          replace hkg := grow_blk hb10 hkg
          have zf := blk_frozen D.kA 4
          have xf := blk_cell D.kA 4
          go_upto_region 41 with (go_at_call 38; with_reducible refine (hg.out _).mono ?_; rintro e w11 ⟨rfl, rfl⟩; have Dn := D)
          have Dm := Dn.set 4 (.int .i64 I)
          refine gen_world fun V13 hV13 => ?_
          rw [← hV13] at Dm
          replace hkg : V13.heap[g]? = some (.cells cur 9 (0, 0)) := by rw [hV13]; exact blk_far hkg (by simp; omega) _
          clear hV13 zf xf D Dn 
          have D : DR w R A V13 #[.int .i64 0, .string ⟨#[]⟩, .string ⟨#[]⟩, .string ⟨#[]⟩, .int .i64 0, .string ⟨#[]⟩, .string ⟨#[]⟩, .string ⟨#[]⟩] #[.int .i64 2, .string ⟨#[]⟩, .string ⟨X.toArray⟩, .string ⟨U.toArray⟩, .int .i64 I, .string ⟨#[]⟩, .string ⟨#[]⟩, .string ⟨#[]⟩] := Dm
          clear Dm
          have y0 := blk_cell D.kB 0
          have q0 := blk_frozen D.kB 0
          have y1 := blk_cell D.kB 1
          have q1 := blk_frozen D.kB 1
          have y2 := blk_cell D.kB 2
          have q2 := blk_frozen D.kB 2
          have y3 := blk_cell D.kB 3
          have q3 := blk_frozen D.kB 3
          have y4 := blk_cell D.kB 4
          have q4 := blk_frozen D.kB 4
          have y5 := blk_cell D.kB 5
          have q5 := blk_frozen D.kB 5
          have y6 := blk_cell D.kB 6
          have q6 := blk_frozen D.kB 6
          have y7 := blk_cell D.kB 7
          have q7 := blk_frozen D.kB 7
          go_wp2_with fail
          obtain ⟨W9, hW9, k9, hb9⟩ := Ret8 D rfl noM
          simp only [noM] at hW9
          rw [← hW9]
          clear hW9
          exact bodyPost_ret (v := .tuple #[mv noM, .bool false]) (by simp [results, Tryz.results13, go_sem, blk_cell k9 0, blk_cell k9 1, blk_cell k9 2, blk_cell k9 3, blk_cell k9 4, blk_cell k9 5, blk_cell k9 6, blk_cell k9 7, mv, mA, noM]) rfl ⟨⟨noM, false, rfl, noM_sz, .inr ⟨rfl, rfl, hno.out⟩⟩, hb9⟩
        case true =>
          have hno : RowKit.Hid (decM 2 s.data.toList = none) := Lib.hid hdm.out
          replace he := Lib.hid he
          go_enter Tryz.func13, Tryz.ntmps13
          go_upto_region 2 with fail
          have D := DR_new w #[.int .i64 0, .string ⟨#[]⟩, .string ⟨#[]⟩, .string ⟨#[]⟩, .int .i64 0, .string ⟨#[]⟩, .string ⟨#[]⟩, .string ⟨#[]⟩] #[.int .i64 2, .string ⟨#[]⟩, .string ⟨#[]⟩, .string ⟨#[]⟩, .int .i64 0, .string ⟨#[]⟩, .string ⟨#[]⟩, .string ⟨#[]⟩]
          refine gen_world fun W hW => ?_
          rw [← hW] at D
          clear hW
          obtain ⟨R, hR0⟩ : ∃ R, R = w.heap.size := ⟨_, rfl⟩
          obtain ⟨A, hA⟩ : ∃ A, A = w.heap.size + 1 := ⟨_, rfl⟩
          rw [← hA, ← hR0] at D
          rw [← hA, ← hR0]
          clear hA hR0
          go_upto_region 17 with (go_at_call 35; refine (hSp _).mono ?_; rintro e w1 ⟨⟨g, cap, rfl, HO⟩, hb1⟩)
          obtain ⟨hgw, cur, hkg, hcur⟩ := own_blk HO
          have hgA : A < g := Nat.lt_of_lt_of_le (blk_lt D.kA) hgw
          replace D := D.grow hb1
          clear HO hgw
          have l0 := (blk_cell hkg 0).trans (hcur 0 (.string ⟨a.toArray⟩) rfl)
          go_upto_region 19 with (go_at_call 36; with_reducible refine (hp1.out _).mono ?_; rintro e w1 ⟨rfl, hb2⟩; have Dn := D.grow hb2; have zf := blk_frozen Dn.kA 2; have xf := blk_cell Dn.kA 2)
          replace hkg := grow_blk hb2 hkg
          have Dm := Dn.set 2 (.string ⟨X.toArray⟩)
          refine gen_world fun V3 hV3 => ?_
          rw [← hV3] at Dm
          replace hkg : V3.heap[g]? = some (.cells cur 9 (0, 0)) := by rw [hV3]; exact blk_far hkg (by simp; omega) _
          clear hV3 zf xf D Dn l0
          have D : DR w R A V3 #[.int .i64 0, .string ⟨#[]⟩, .string ⟨#[]⟩, .string ⟨#[]⟩, .int .i64 0, .string ⟨#[]⟩, .string ⟨#[]⟩, .string ⟨#[]⟩] #[.int .i64 2, .string ⟨#[]⟩, .string ⟨X.toArray⟩, .string ⟨#[]⟩, .int .i64 0, .string ⟨#[]⟩, .string ⟨#[]⟩, .string ⟨#[]⟩] := Dm
          clear Dm
          have l1 := (blk_cell hkg 1).trans (hcur 1 (.string ⟨b.toArray⟩) rfl)
          go_upto_region 20 with (go_at_call 36; with_reducible refine (hp2.out _).mono ?_; rintro e w4 ⟨rfl, hb5⟩; have Dn := D.grow hb5)
          clear l1
          replace D := Dn
          clear Dn
          replace hkg := grow_blk hb5 hkg
          go_upto_region 22 with (go_at_call 37; with_reducible refine (hd.out _).mono ?_; rintro e w6 ⟨rfl, hb7⟩; have Dn := D.grow hb7; have zf := blk_frozen Dn.kA 3; have xf := blk_cell Dn.kA 3)
          replace hkg := grow_blk hb7 hkg
          have Dm := Dn.set 3 (.string ⟨U.toArray⟩)
          refine gen_world fun V8 hV8 => ?_
          rw [← hV8] at Dm
          replace hkg : V8.heap[g]? = some (.cells cur 9 (0, 0)) := by rw [hV8]; exact blk_far hkg (by simp; omega) _
          clear hV8 zf xf D Dn 
          have D : DR w R A V8 #[.int .i64 0, .string ⟨#[]⟩, .string ⟨#[]⟩, .string ⟨#[]⟩, .int .i64 0, .string ⟨#[]⟩, .string ⟨#[]⟩, .string ⟨#[]⟩] #[.int .i64 2, .string ⟨#[]⟩, .string ⟨X.toArray⟩, .string ⟨U.toArray⟩, .int .i64 0, .string ⟨#[]⟩, .string ⟨#[]⟩, .string ⟨#[]⟩] := Dm
          clear Dm
          have l2 := (blk_cell hkg 2).trans (hcur 2 (.string ⟨c.toArray⟩) rfl)
          go_upto_region 24 with (go_at_call 36; with_reducible refine (hp3.out _).mono ?_; rintro e w9 ⟨rfl, hb10⟩; have Dn := D.grow hb10)
          clear l2
          replace D := Dn
          clear Dn
          replace hkg := grow_blk hb10 hkg
          have zf := blk_frozen D.kA 4
          have xf := blk_cell D.kA 4
          go_upto_region 41 with (go_at_call 38; with_reducible refine (hg.out _).mono ?_; rintro e w11 ⟨rfl, rfl⟩; have Dn := D)
          have Dm := Dn.set 4 (.int .i64 I)
          refine gen_world fun V13 hV13 => ?_
          rw [← hV13] at Dm
          replace hkg : V13.heap[g]? = some (.cells cur 9 (0, 0)) := by rw [hV13]; exact blk_far hkg (by simp; omega) _
          clear hV13 zf xf D Dn 
          have D : DR w R A V13 #[.int .i64 0, .string ⟨#[]⟩, .string ⟨#[]⟩, .string ⟨#[]⟩, .int .i64 0, .string ⟨#[]⟩, .string ⟨#[]⟩, .string ⟨#[]⟩] #[.int .i64 2, .string ⟨#[]⟩, .string ⟨X.toArray⟩, .string ⟨U.toArray⟩, .int .i64 I, .string ⟨#[]⟩, .string ⟨#[]⟩, .string ⟨#[]⟩] := Dm
          clear Dm
          have y0 := blk_cell D.kB 0
          have q0 := blk_frozen D.kB 0
          have y1 := blk_cell D.kB 1
          have q1 := blk_frozen D.kB 1
          have y2 := blk_cell D.kB 2
          have q2 := blk_frozen D.kB 2
          have y3 := blk_cell D.kB 3
          have q3 := blk_frozen D.kB 3
          have y4 := blk_cell D.kB 4
          have q4 := blk_frozen D.kB 4
          have y5 := blk_cell D.kB 5
          have q5 := blk_frozen D.kB 5
          have y6 := blk_cell D.kB 6
          have q6 := blk_frozen D.kB 6
          have y7 := blk_cell D.kB 7
          have q7 := blk_frozen D.kB 7
          go_wp2_with fail
          obtain ⟨W9, hW9, k9, hb9⟩ := Ret8 D rfl noM
          simp only [noM] at hW9
          rw [← hW9]
          clear hW9
          exact bodyPost_ret (v := .tuple #[mv noM, .bool false]) (by simp [results, Tryz.results13, go_sem, blk_cell k9 0, blk_cell k9 1, blk_cell k9 2, blk_cell k9 3, blk_cell k9 4, blk_cell k9 5, blk_cell k9 6, blk_cell k9 7, mv, mA, noM]) rfl ⟨⟨noM, false, rfl, noM_sz, .inr ⟨rfl, rfl, hno.out⟩⟩, hb9⟩
      case true =>
        cases b4
        case false =>
          have hno : RowKit.Hid (decM 2 s.data.toList = none) := Lib.hid hdm.out
          replace he := Lib.hid he
          go_enter Tryz.func13, Tryz.ntmps13
          go_upto_region 2 with fail
          have D := DR_new w #[.int .i64 0, .string ⟨#[]⟩, .string ⟨#[]⟩, .string ⟨#[]⟩, .int .i64 0, .string ⟨#[]⟩, .string ⟨#[]⟩, .string ⟨#[]⟩] #[.int .i64 2, .string ⟨#[]⟩, .string ⟨#[]⟩, .string ⟨#[]⟩, .int .i64 0, .string ⟨#[]⟩, .string ⟨#[]⟩, .string ⟨#[]⟩]
          refine gen_world fun W hW => ?_
          rw [← hW] at D
          clear hW
          obtain ⟨R, hR0⟩ : ∃ R, R = w.heap.size := ⟨_, rfl⟩
          obtain ⟨A, hA⟩ : ∃ A, A = w.heap.size + 1 := ⟨_, rfl⟩
          rw [← hA, ← hR0] at D
          rw [← hA, ← hR0]
          clear hA hR0
          go_upto_region 17 with (go_at_call 35; refine (hSp _).mono ?_; rintro e w1 ⟨⟨g, cap, rfl, HO⟩, hb1⟩)
          obtain ⟨hgw, cur, hkg, hcur⟩ := own_blk HO
          have hgA : A < g := Nat.lt_of_lt_of_le (blk_lt D.kA) hgw
          replace D := D.grow hb1
          clear HO hgw
          have l0 := (blk_cell hkg 0).trans (hcur 0 (.string ⟨a.toArray⟩) rfl)
          go_upto_region 19 with (go_at_call 36; with_reducible refine (hp1.out _).mono ?_; rintro e w1 ⟨rfl, hb2⟩; have Dn := D.grow hb2; have zf := blk_frozen Dn.kA 2; have xf := blk_cell Dn.kA 2)
          replace hkg := grow_blk hb2 hkg
          have Dm := Dn.set 2 (.string ⟨X.toArray⟩)
          refine gen_world fun V3 hV3 => ?_
          rw [← hV3] at Dm
          replace hkg : V3.heap[g]? = some (.cells cur 9 (0, 0)) := by rw [hV3]; exact blk_far hkg (by simp; omega) _
          clear hV3 zf xf D Dn l0
          have D : DR w R A V3 #[.int .i64 0, .string ⟨#[]⟩, .string ⟨#[]⟩, .string ⟨#[]⟩, .int .i64 0, .string ⟨#[]⟩, .string ⟨#[]⟩, .string ⟨#[]⟩] #[.int .i64 2, .string ⟨#[]⟩, .string ⟨X.toArray⟩, .string ⟨#[]⟩, .int .i64 0, .string ⟨#[]⟩, .string ⟨#[]⟩, .string ⟨#[]⟩] := Dm
          clear Dm
          have l1 := (blk_cell hkg 1).trans (hcur 1 (.string ⟨b.toArray⟩) rfl)
          go_upto_region 20 with (go_at_call 36; with_reducible refine (hp2.out _).mono ?_; rintro e w4 ⟨rfl, hb5⟩; have Dn := D.grow hb5)
          clear l1
          replace D := Dn
          clear Dn
          replace hkg := grow_blk hb5 hkg
          go_upto_region 22 with (go_at_call 37; with_reducible refine (hd.out _).mono ?_; rintro e w6 ⟨rfl, hb7⟩; have Dn := D.grow hb7; have zf := blk_frozen Dn.kA 3; have xf := blk_cell Dn.kA 3)
          replace hkg := grow_blk hb7 hkg
          have Dm := Dn.set 3 (.string ⟨U.toArray⟩)
          refine gen_world fun V8 hV8 => ?_
          rw [← hV8] at Dm
          replace hkg : V8.heap[g]? = some (.cells cur 9 (0, 0)) := by rw [hV8]; exact blk_far hkg (by simp; omega) _
          clear hV8 zf xf D Dn 
          have D : DR w R A V8 #[.int .i64 0, .string ⟨#[]⟩, .string ⟨#[]⟩, .string ⟨#[]⟩, .int .i64 0, .string ⟨#[]⟩, .string ⟨#[]⟩, .string ⟨#[]⟩] #[.int .i64 2, .string ⟨#[]⟩, .string ⟨X.toArray⟩, .string ⟨U.toArray⟩, .int .i64 0, .string ⟨#[]⟩, .string ⟨#[]⟩, .string ⟨#[]⟩] := Dm
          clear Dm
          have l2 := (blk_cell hkg 2).trans (hcur 2 (.string ⟨c.toArray⟩) rfl)
          go_upto_region 24 with (go_at_call 36; with_reducible refine (hp3.out _).mono ?_; rintro e w9 ⟨rfl, hb10⟩; have Dn := D.grow hb10)
          clear l2
          replace D := Dn
          clear Dn
          replace hkg := grow_blk hb10 hkg
          have zf := blk_frozen D.kA 4
          have xf := blk_cell D.kA 4
          go_upto_region 41 with (go_at_call 38; with_reducible refine (hg.out _).mono ?_; rintro e w11 ⟨rfl, rfl⟩; have Dn := D)
          have Dm := Dn.set 4 (.int .i64 I)
          refine gen_world fun V13 hV13 => ?_
          rw [← hV13] at Dm
          replace hkg : V13.heap[g]? = some (.cells cur 9 (0, 0)) := by rw [hV13]; exact blk_far hkg (by simp; omega) _
          clear hV13 zf xf D Dn 
          have D : DR w R A V13 #[.int .i64 0, .string ⟨#[]⟩, .string ⟨#[]⟩, .string ⟨#[]⟩, .int .i64 0, .string ⟨#[]⟩, .string ⟨#[]⟩, .string ⟨#[]⟩] #[.int .i64 2, .string ⟨#[]⟩, .string ⟨X.toArray⟩, .string ⟨U.toArray⟩, .int .i64 I, .string ⟨#[]⟩, .string ⟨#[]⟩, .string ⟨#[]⟩] := Dm
          clear Dm
          have y0 := blk_cell D.kB 0
          have q0 := blk_frozen D.kB 0
          have y1 := blk_cell D.kB 1
          have q1 := blk_frozen D.kB 1
          have y2 := blk_cell D.kB 2
          have q2 := blk_frozen D.kB 2
          have y3 := blk_cell D.kB 3
          have q3 := blk_frozen D.kB 3
          have y4 := blk_cell D.kB 4
          have q4 := blk_frozen D.kB 4
          have y5 := blk_cell D.kB 5
          have q5 := blk_frozen D.kB 5
          have y6 := blk_cell D.kB 6
          have q6 := blk_frozen D.kB 6
          have y7 := blk_cell D.kB 7
          have q7 := blk_frozen D.kB 7
          go_wp2_with fail
          obtain ⟨W9, hW9, k9, hb9⟩ := Ret8 D rfl noM
          simp only [noM] at hW9
          rw [← hW9]
          clear hW9
          exact bodyPost_ret (v := .tuple #[mv noM, .bool false]) (by simp [results, Tryz.results13, go_sem, blk_cell k9 0, blk_cell k9 1, blk_cell k9 2, blk_cell k9 3, blk_cell k9 4, blk_cell k9 5, blk_cell k9 6, blk_cell k9 7, mv, mA, noM]) rfl ⟨⟨noM, false, rfl, noM_sz, .inr ⟨rfl, rfl, hno.out⟩⟩, hb9⟩
        case true =>
          have hno : RowKit.Hid (decM 2 s.data.toList = none) := Lib.hid hdm.out
          replace he := Lib.hid he
          go_enter Tryz.func13, Tryz.ntmps13
          go_upto_region 2 with fail
          have D := DR_new w #[.int .i64 0, .string ⟨#[]⟩, .string ⟨#[]⟩, .string ⟨#[]⟩, .int .i64 0, .string ⟨#[]⟩, .string ⟨#[]⟩, .string ⟨#[]⟩] #[.int .i64 2, .string ⟨#[]⟩, .string ⟨#[]⟩, .string ⟨#[]⟩, .int .i64 0, .string ⟨#[]⟩, .string ⟨#[]⟩, .string ⟨#[]⟩]
          refine gen_world fun W hW => ?_
          rw [← hW] at D
          clear hW
          obtain ⟨R, hR0⟩ : ∃ R, R = w.heap.size := ⟨_, rfl⟩
          obtain ⟨A, hA⟩ : ∃ A, A = w.heap.size + 1 := ⟨_, rfl⟩
          rw [← hA, ← hR0] at D
          rw [← hA, ← hR0]
          clear hA hR0
          go_upto_region 17 with (go_at_call 35; refine (hSp _).mono ?_; rintro e w1 ⟨⟨g, cap, rfl, HO⟩, hb1⟩)
          obtain ⟨hgw, cur, hkg, hcur⟩ := own_blk HO
          have hgA : A < g := Nat.lt_of_lt_of_le (blk_lt D.kA) hgw
          replace D := D.grow hb1
          clear HO hgw
          have l0 := (blk_cell hkg 0).trans (hcur 0 (.string ⟨a.toArray⟩) rfl)
          go_upto_region 19 with (go_at_call 36; with_reducible refine (hp1.out _).mono ?_; rintro e w1 ⟨rfl, hb2⟩; have Dn := D.grow hb2; have zf := blk_frozen Dn.kA 2; have xf := blk_cell Dn.kA 2)
          replace hkg := grow_blk hb2 hkg
          have Dm := Dn.set 2 (.string ⟨X.toArray⟩)
          refine gen_world fun V3 hV3 => ?_
          rw [← hV3] at Dm
          replace hkg : V3.heap[g]? = some (.cells cur 9 (0, 0)) := by rw [hV3]; exact blk_far hkg (by simp; omega) _
          clear hV3 zf xf D Dn l0
          have D : DR w R A V3 #[.int .i64 0, .string ⟨#[]⟩, .string ⟨#[]⟩, .string ⟨#[]⟩, .int .i64 0, .string ⟨#[]⟩, .string ⟨#[]⟩, .string ⟨#[]⟩] #[.int .i64 2, .string ⟨#[]⟩, .string ⟨X.toArray⟩, .string ⟨#[]⟩, .int .i64 0, .string ⟨#[]⟩, .string ⟨#[]⟩, .string ⟨#[]⟩] := Dm
          clear Dm
          have l1 := (blk_cell hkg 1).trans (hcur 1 (.string ⟨b.toArray⟩) rfl)
          go_upto_region 20 with (go_at_call 36; with_reducible refine (hp2.out _).mono ?_; rintro e w4 ⟨rfl, hb5⟩; have Dn := D.grow hb5)
          clear l1
          replace D := Dn
          clear Dn
          replace hkg := grow_blk hb5 hkg
          go_upto_region 22 with (go_at_call 37; with_reducible refine (hd.out _).mono ?_; rintro e w6 ⟨rfl, hb7⟩; have Dn := D.grow hb7; have zf := blk_frozen Dn.kA 3; have xf := blk_cell Dn.kA 3)
          replace hkg := grow_blk hb7 hkg
          have Dm := Dn.set 3 (.string ⟨U.toArray⟩)
          refine gen_world fun V8 hV8 => ?_
          rw [← hV8] at Dm
          replace hkg : V8.heap[g]? = some (.cells cur 9 (0, 0)) := by rw [hV8]; exact blk_far hkg (by simp; omega) _
          clear hV8 zf xf D Dn 
          have D : DR w R A V8 #[.int .i64 0, .string ⟨#[]⟩, .string ⟨#[]⟩, .string ⟨#[]⟩, .int .i64 0, .string ⟨#[]⟩, .string ⟨#[]⟩, .string ⟨#[]⟩] #[.int .i64 2, .string ⟨#[]⟩, .string ⟨X.toArray⟩, .string ⟨U.toArray⟩, .int .i64 0, .string ⟨#[]⟩, .string ⟨#[]⟩, .string ⟨#[]⟩] := Dm
          clear Dm
          have l2 := (blk_cell hkg 2).trans (hcur 2 (.string ⟨c.toArray⟩) rfl)
          go_upto_region 24 with (go_at_call 36; with_reducible refine (hp3.out _).mono ?_; rintro e w9 ⟨rfl, hb10⟩; have Dn := D.grow hb10)
          clear l2
          replace D := Dn
          clear Dn
          replace hkg := grow_blk hb10 hkg
          have zf := blk_frozen D.kA 4
          have xf := blk_cell D.kA 4
          go_upto_region 41 with (go_at_call 38; with_reducible refine (hg.out _).mono ?_; rintro e w11 ⟨rfl, rfl⟩; have Dn := D)
          have Dm := Dn.set 4 (.int .i64 I)
          refine gen_world fun V13 hV13 => ?_
          rw [← hV13] at Dm
          replace hkg : V13.heap[g]? = some (.cells cur 9 (0, 0)) := by rw [hV13]; exact blk_far hkg (by simp; omega) _
          clear hV13 zf xf D Dn 
          have D : DR w R A V13 #[.int .i64 0, .string ⟨#[]⟩, .string ⟨#[]⟩, .string ⟨#[]⟩, .int .i64 0, .string ⟨#[]⟩, .string ⟨#[]⟩, .string ⟨#[]⟩] #[.int .i64 2, .string ⟨#[]⟩, .string ⟨X.toArray⟩, .string ⟨U.toArray⟩, .int .i64 I, .string ⟨#[]⟩, .string ⟨#[]⟩, .string ⟨#[]⟩] := Dm
          clear Dm
          have y0 := blk_cell D.kB 0
          have q0 := blk_frozen D.kB 0
          have y1 := blk_cell D.kB 1
          have q1 := blk_frozen D.kB 1
          have y2 := blk_cell D.kB 2
          have q2 := blk_frozen D.kB 2
          have y3 := blk_cell D.kB 3
          have q3 := blk_frozen D.kB 3
          have y4 := blk_cell D.kB 4
          have q4 := blk_frozen D.kB 4
          have y5 := blk_cell D.kB 5
          have q5 := blk_frozen D.kB 5
          have y6 := blk_cell D.kB 6
          have q6 := blk_frozen D.kB 6
          have y7 := blk_cell D.kB 7
          have q7 := blk_frozen D.kB 7
          go_wp2_with fail
          obtain ⟨W9, hW9, k9, hb9⟩ := Ret8 D rfl noM
          simp only [noM] at hW9
          rw [← hW9]
          clear hW9
          exact bodyPost_ret (v := .tuple #[mv noM, .bool false]) (by simp [results, Tryz.results13, go_sem, blk_cell k9 0, blk_cell k9 1, blk_cell k9 2, blk_cell k9 3, blk_cell k9 4, blk_cell k9 5, blk_cell k9 6, blk_cell k9 7, mv, mA, noM]) rfl ⟨⟨noM, false, rfl, noM_sz, .inr ⟨rfl, rfl, hno.out⟩⟩, hb9⟩
    case true =>
      cases b3
      case false =>
        cases b4
        case false =>
          have hno : RowKit.Hid (decM 2 s.data.toList = none) := Lib.hid hdm.out
          replace he := Lib.hid he
          go_enter Tryz.func13, Tryz.ntmps13
          go_upto_region 2 with fail
          have D := DR_new w #[.int .i64 0, .string ⟨#[]⟩, .string ⟨#[]⟩, .string ⟨#[]⟩, .int .i64 0, .string ⟨#[]⟩, .string ⟨#[]⟩, .string ⟨#[]⟩] #[.int .i64 2, .string ⟨#[]⟩, .string ⟨#[]⟩, .string ⟨#[]⟩, .int .i64 0, .string ⟨#[]⟩, .string ⟨#[]⟩, .string ⟨#[]⟩]
          refine gen_world fun W hW => ?_
          rw [← hW] at D
          clear hW
          obtain ⟨R, hR0⟩ : ∃ R, R = w.heap.size := ⟨_, rfl⟩
          obtain ⟨A, hA⟩ : ∃ A, A = w.heap.size + 1 := ⟨_, rfl⟩
          rw [← hA, ← hR0] at D
          rw [← hA, ← hR0]
          clear hA hR0
          go_upto_region 17 with (go_at_call 35; refine (hSp _).mono ?_; rintro e w1 ⟨⟨g, cap, rfl, HO⟩, hb1⟩)
          obtain ⟨hgw, cur, hkg, hcur⟩ := own_blk HO
          have hgA : A < g := Nat.lt_of_lt_of_le (blk_lt D.kA) hgw
          replace D := D.grow hb1
          clear HO hgw
          have l0 := (blk_cell hkg 0).trans (hcur 0 (.string ⟨a.toArray⟩) rfl)
          go_upto_region 19 with (go_at_call 36; with_reducible refine (hp1.out _).mono ?_; rintro e w1 ⟨rfl, hb2⟩; have Dn := D.grow hb2; have zf := blk_frozen Dn.kA 2; have xf := blk_cell Dn.kA 2)
          replace hkg := grow_blk hb2 hkg
          have Dm := Dn.set 2 (.string ⟨X.toArray⟩)
          refine gen_world fun V3 hV3 => ?_
          rw [← hV3] at Dm
          replace hkg : V3.heap[g]? = some (.cells cur 9 (0, 0)) := by rw [hV3]; exact blk_far hkg (by simp; omega) _
          clear hV3 zf xf D Dn l0
          have D : DR w R A V3 #[.int .i64 0, .string ⟨#[]⟩, .string ⟨#[]⟩, .string ⟨#[]⟩, .int .i64 0, .string ⟨#[]⟩, .string ⟨#[]⟩, .string ⟨#[]⟩] #[.int .i64 2, .string ⟨#[]⟩, .string ⟨X.toArray⟩, .string ⟨#[]⟩, .int .i64 0, .string ⟨#[]⟩, .string ⟨#[]⟩, .string ⟨#[]⟩] := Dm
          clear Dm
          have l1 := (blk_cell hkg 1).trans (hcur 1 (.string ⟨b.toArray⟩) rfl)
          go_upto_region 20 with (go_at_call 36; with_reducible refine (hp2.out _).mono ?_; rintro e w4 ⟨rfl, hb5⟩; have Dn := D.grow hb5)
          clear l1
          replace D := Dn
          clear Dn
          replace hkg := grow_blk hb5 hkg
          go_upto_region 22 with (go_at_call 37; with_reducible refine (hd.out _).mono ?_; rintro e w6 ⟨rfl, hb7⟩; have Dn := D.grow hb7; have zf := blk_frozen Dn.kA 3; have xf := blk_cell Dn.kA 3)
          replace hkg := grow_blk hb7 hkg
          have Dm := Dn.set 3 (.string ⟨U.toArray⟩)
          refine gen_world fun V8 hV8 => ?_
          rw [← hV8] at Dm
          replace hkg : V8.heap[g]? = some (.cells cur 9 (0, 0)) := by rw [hV8]; exact blk_far hkg (by simp; omega) _
          clear hV8 zf xf D Dn 
          have D : DR w R A V8 #[.int .i64 0, .string ⟨#[]⟩, .string ⟨#[]⟩, .string ⟨#[]⟩, .int .i64 0, .string ⟨#[]⟩, .string ⟨#[]⟩, .string ⟨#[]⟩] #[.int .i64 2, .string ⟨#[]⟩, .string ⟨X.toArray⟩, .string ⟨U.toArray⟩, .int .i64 0, .string ⟨#[]⟩, .string ⟨#[]⟩, .string ⟨#[]⟩] := Dm
          clear Dm
          have l2 := (blk_cell hkg 2).trans (hcur 2 (.string ⟨c.toArray⟩) rfl)
          go_upto_region 24 with (go_at_call 36; with_reducible refine (hp3.out _).mono ?_; rintro e w9 ⟨rfl, hb10⟩; have Dn := D.grow hb10)
          clear l2
          replace D := Dn
          clear Dn
          replace hkg := grow_blk hb10 hkg
          have zf := blk_frozen D.kA 4
          have xf := blk_cell D.kA 4
          go_upto_region 41 with (go_at_call 38; with_reducible refine (hg.out _).mono ?_; rintro e w11 ⟨rfl, rfl⟩; have Dn := D)
          have Dm := Dn.set 4 (.int .i64 I)
          refine gen_world fun V13 hV13 => ?_
          rw [← hV13] at Dm
          replace hkg : V13.heap[g]? = some (.cells cur 9 (0, 0)) := by rw [hV13]; exact blk_far hkg (by simp; omega) _
          clear hV13 zf xf D Dn 
          have D : DR w R A V13 #[.int .i64 0, .string ⟨#[]⟩, .string ⟨#[]⟩, .string ⟨#[]⟩, .int .i64 0, .string ⟨#[]⟩, .string ⟨#[]⟩, .string ⟨#[]⟩] #[.int .i64 2, .string ⟨#[]⟩, .string ⟨X.toArray⟩, .string ⟨U.toArray⟩, .int .i64 I, .string ⟨#[]⟩, .string ⟨#[]⟩, .string ⟨#[]⟩] := Dm
          clear Dm
          have y0 := blk_cell D.kB 0
          have q0 := blk_frozen D.kB 0
          have y1 := blk_cell D.kB 1
          have q1 := blk_frozen D.kB 1
          have y2 := blk_cell D.kB 2
          have q2 := blk_frozen D.kB 2
          have y3 := blk_cell D.kB 3
          have q3 := blk_frozen D.kB 3
          have y4 := blk_cell D.kB 4
          have q4 := blk_frozen D.kB 4
          have y5 := blk_cell D.kB 5
          have q5 := blk_frozen D.kB 5
          have y6 := blk_cell D.kB 6
          have q6 := blk_frozen D.kB 6
          have y7 := blk_cell D.kB 7
          have q7 := blk_frozen D.kB 7
          go_wp2_with fail
          obtain ⟨W9, hW9, k9, hb9⟩ := Ret8 D rfl noM
          simp only [noM] at hW9
          rw [← hW9]
          clear hW9
          exact bodyPost_ret (v := .tuple #[mv noM, .bool false]) (by simp [results, Tryz.results13, go_sem, blk_cell k9 0, blk_cell k9 1, blk_cell k9 2, blk_cell k9 3, blk_cell k9 4, blk_cell k9 5, blk_cell k9 6, blk_cell k9 7, mv, mA, noM]) rfl ⟨⟨noM, false, rfl, noM_sz, .inr ⟨rfl, rfl, hno.out⟩⟩, hb9⟩
        case true =>
          have hno : RowKit.Hid (decM 2 s.data.toList = none) := Lib.hid hdm.out
          replace he := Lib.hid he
          go_enter Tryz.func13, Tryz.ntmps13
          go_upto_region 2 with fail
          have D := DR_new w #[.int .i64 0, .string ⟨#[]⟩, .string ⟨#[]⟩, .string ⟨#[]⟩, .int .i64 0, .string ⟨#[]⟩, .string ⟨#[]⟩, .string ⟨#[]⟩] #[.int .i64 2, .string ⟨#[]⟩, .string ⟨#[]⟩, .string ⟨#[]⟩, .int .i64 0, .string ⟨#[]⟩, .string ⟨#[]⟩, .string ⟨#[]⟩]
          refine gen_world fun W hW => ?_
          rw [← hW] at D
          clear hW
          obtain ⟨R, hR0⟩ : ∃ R, R = w.heap.size := ⟨_, rfl⟩
          obtain ⟨A, hA⟩ : ∃ A, A = w.heap.size + 1 := ⟨_, rfl⟩
          rw [← hA, ← hR0] at D
          rw [← hA, ← hR0]
          clear hA hR0
          go_upto_region 17 with (go_at_call 35; refine (hSp _).mono ?_; rintro e w1 ⟨⟨g, cap, rfl, HO⟩, hb1⟩)
          obtain ⟨hgw, cur, hkg, hcur⟩ := own_blk HO
          have hgA : A < g := Nat.lt_of_lt_of_le (blk_lt D.kA) hgw
          replace D := D.grow hb1
          clear HO hgw
          have l0 := (blk_cell hkg 0).trans (hcur 0 (.string ⟨a.toArray⟩) rfl)
          go_upto_region 19 with (go_at_call 36; with_reducible refine (hp1.out _).mono ?_; rintro e w1 ⟨rfl, hb2⟩; have Dn := D.grow hb2; have zf := blk_frozen Dn.kA 2; have xf := blk_cell Dn.kA 2)
          replace hkg := grow_blk hb2 hkg
          have Dm := Dn.set 2 (.string ⟨X.toArray⟩)
          refine gen_world fun V3 hV3 => ?_
          rw [← hV3] at Dm
          replace hkg : V3.heap[g]? = some (.cells cur 9 (0, 0)) := by rw [hV3]; exact blk_far hkg (by simp; omega) _
          clear hV3 zf xf D Dn l0
          have D : DR w R A V3 #[.int .i64 0, .string ⟨#[]⟩, .string ⟨#[]⟩, .string ⟨#[]⟩, .int .i64 0, .string ⟨#[]⟩, .string ⟨#[]⟩, .string ⟨#[]⟩] #[.int .i64 2, .string ⟨#[]⟩, .string ⟨X.toArray⟩, .string ⟨#[]⟩, .int .i64 0, .string ⟨#[]⟩, .string ⟨#[]⟩, .string ⟨#[]⟩] := Dm
          clear Dm
          have l1 := (blk_cell hkg 1).trans (hcur 1 (.string ⟨b.toArray⟩) rfl)
          go_upto_region 20 with (go_at_call 36; with_reducible refine (hp2.out _).mono ?_; rintro e w4 ⟨rfl, hb5⟩; have Dn := D.grow hb5)
          clear l1
          replace D := Dn
          clear Dn
          replace hkg := grow_blk hb5 hkg
          go_upto_region 22 with (go_at_call 37; with_reducible refine (hd.out _).mono ?_; rintro e w6 ⟨rfl, hb7⟩; have Dn := D.grow hb7; have zf := blk_frozen Dn.kA 3; have xf := blk_cell Dn.kA 3)
          replace hkg := grow_blk hb7 hkg
          have Dm := Dn.set 3 (.string ⟨U.toArray⟩)
          refine gen_world fun V8 hV8 => ?_
          rw [← hV8] at Dm
          replace hkg : V8.heap[g]? = some (.cells cur 9 (0, 0)) := by rw [hV8]; exact blk_far hkg (by simp; omega) _
          clear hV8 zf xf D Dn 
          have D : DR w R A V8 #[.int .i64 0, .string ⟨#[]⟩, .string ⟨#[]⟩, .string ⟨#[]⟩, .int .i64 0, .string ⟨#[]⟩, .string ⟨#[]⟩, .string ⟨#[]⟩] #[.int .i64 2, .string ⟨#[]⟩, .string ⟨X.toArray⟩, .string ⟨U.toArray⟩, .int .i64 0, .string ⟨#[]⟩, .string ⟨#[]⟩, .string ⟨#[]⟩] := Dm
          clear Dm
          have l2 := (blk_cell hkg 2).trans (hcur 2 (.string ⟨c.toArray⟩) rfl)
          go_upto_region 24 with (go_at_call 36; with_reducible refine (hp3.out _).mono ?_; rintro e w9 ⟨rfl, hb10⟩; have Dn := D.grow hb10)
          clear l2
          replace D := Dn
          clear Dn
          replace hkg := grow_blk hb10 hkg
          have zf := blk_frozen D.kA 4
          have xf := blk_cell D.kA 4
          go_upto_region 41 with (go_at_call 38; with_reducible refine (hg.out _).mono ?_; rintro e w11 ⟨rfl, rfl⟩; have Dn := D)
          have Dm := Dn.set 4 (.int .i64 I)
          refine gen_world fun V13 hV13 => ?_
          rw [← hV13] at Dm
          replace hkg : V13.heap[g]? = some (.cells cur 9 (0, 0)) := by rw [hV13]; exact blk_far hkg (by simp; omega) _
          clear hV13 zf xf D Dn 
          have D : DR w R A V13 #[.int .i64 0, .string ⟨#[]⟩, .string ⟨#[]⟩, .string ⟨#[]⟩, .int .i64 0, .string ⟨#[]⟩, .string ⟨#[]⟩, .string ⟨#[]⟩] #[.int .i64 2, .string ⟨#[]⟩, .string ⟨X.toArray⟩, .string ⟨U.toArray⟩, .int .i64 I, .string ⟨#[]⟩, .string ⟨#[]⟩, .string ⟨#[]⟩] := Dm
          clear Dm
          have y0 := blk_cell D.kB 0
          have q0 := blk_frozen D.kB 0
          have y1 := blk_cell D.kB 1
          have q1 := blk_frozen D.kB 1
          have y2 := blk_cell D.kB 2
          have q2 := blk_frozen D.kB 2
          have y3 := blk_cell D.kB 3
          have q3 := blk_frozen D.kB 3
          have y4 := blk_cell D.kB 4
          have q4 := blk_frozen D.kB 4
          have y5 := blk_cell D.kB 5
          have q5 := blk_frozen D.kB 5
          have y6 := blk_cell D.kB 6
          have q6 := blk_frozen D.kB 6
          have y7 := blk_cell D.kB 7
          have q7 := blk_frozen D.kB 7
          go_wp2_with fail
          obtain ⟨W9, hW9, k9, hb9⟩ := Ret8 D rfl noM
          simp only [noM] at hW9
          rw [← hW9]
          clear hW9
          exact bodyPost_ret (v := .tuple #[mv noM, .bool false]) (by simp [results, Tryz.results13, go_sem, blk_cell k9 0, blk_cell k9 1, blk_cell k9 2, blk_cell k9 3, blk_cell k9 4, blk_cell k9 5, blk_cell k9 6, blk_cell k9 7, mv, mA, noM]) rfl ⟨⟨noM, false, rfl, noM_sz, .inr ⟨rfl, rfl, hno.out⟩⟩, hb9⟩
      case true =>
        cases b4
        case false =>
          have hno : RowKit.Hid (decM 2 s.data.toList = none) := Lib.hid hdm.out
          replace he := Lib.hid he
          go_enter Tryz.func13, Tryz.ntmps13
          go_upto_region 2 with fail
          have D := DR_new w #[.int .i64 0, .string ⟨#[]⟩, .string ⟨#[]⟩, .string ⟨#[]⟩, .int .i64 0, .string ⟨#[]⟩, .string ⟨#[]⟩, .string ⟨#[]⟩] #[.int .i64 2, .string ⟨#[]⟩, .string ⟨#[]⟩, .string ⟨#[]⟩, .int .i64 0, .string ⟨#[]⟩, .string ⟨#[]⟩, .string ⟨#[]⟩]
          refine gen_world fun W hW => ?_
          rw [← hW] at D
          clear hW
          obtain ⟨R, hR0⟩ : ∃ R, R = w.heap.size := ⟨_, rfl⟩
          obtain ⟨A, hA⟩ : ∃ A, A = w.heap.size + 1 := ⟨_, rfl⟩
          rw [← hA, ← hR0] at D
          rw [← hA, ← hR0]
          clear hA hR0
          go_upto_region 17 with (go_at_call 35; refine (hSp _).mono ?_; rintro e w1 ⟨⟨g, cap, rfl, HO⟩, hb1⟩)
          obtain ⟨hgw, cur, hkg, hcur⟩ := own_blk HO
          have hgA : A < g := Nat.lt_of_lt_of_le (blk_lt D.kA) hgw
          replace D := D.grow hb1
          clear HO hgw
          have l0 := (blk_cell hkg 0).trans (hcur 0 (.string ⟨a.toArray⟩) rfl)
          go_upto_region 19 with (go_at_call 36; with_reducible refine (hp1.out _).mono ?_; rintro e w1 ⟨rfl, hb2⟩; have Dn := D.grow hb2; have zf := blk_frozen Dn.kA 2; have xf := blk_cell Dn.kA 2)
          replace hkg := grow_blk hb2 hkg
          have Dm := Dn.set 2 (.string ⟨X.toArray⟩)
          refine gen_world fun V3 hV3 => ?_
          rw [← hV3] at Dm
          replace hkg : V3.heap[g]? = some (.cells cur 9 (0, 0)) := by rw [hV3]; exact blk_far hkg (by simp; omega) _
          clear hV3 zf xf D Dn l0
          have D : DR w R A V3 #[.int .i64 0, .string ⟨#[]⟩, .string ⟨#[]⟩, .string ⟨#[]⟩, .int .i64 0, .string ⟨#[]⟩, .string ⟨#[]⟩, .string ⟨#[]⟩] #[.int .i64 2, .string ⟨#[]⟩, .string ⟨X.toArray⟩, .string ⟨#[]⟩, .int .i64 0, .string ⟨#[]⟩, .string ⟨#[]⟩, .string ⟨#[]⟩] := Dm
          clear Dm
          have l1 := (blk_cell hkg 1).trans (hcur 1 (.string ⟨b.toArray⟩) rfl)
          go_upto_region 20 with (go_at_call 36; with_reducible refine (hp2.out _).mono ?_; rintro e w4 ⟨rfl, hb5⟩; have Dn := D.grow hb5)
          clear l1
          replace D := Dn
          clear Dn
          replace hkg := grow_blk hb5 hkg
          go_upto_region 22 with (go_at_call 37; with_reducible refine (hd.out _).mono ?_; rintro e w6 ⟨rfl, hb7⟩; have Dn := D.grow hb7; have zf := blk_frozen Dn.kA 3; have xf := blk_cell Dn.kA 3)
          replace hkg := grow_blk hb7 hkg
          have Dm := Dn.set 3 (.string ⟨U.toArray⟩)
          refine gen_world fun V8 hV8 => ?_
          rw [← hV8] at Dm
          replace hkg : V8.heap[g]? = some (.cells cur 9 (0, 0)) := by rw [hV8]; exact blk_far hkg (by simp; omega) _
          clear hV8 zf xf D Dn 
          have D : DR w R A V8 #[.int .i64 0, .string ⟨#[]⟩, .string ⟨#[]⟩, .string ⟨#[]⟩, .int .i64 0, .string ⟨#[]⟩, .string ⟨#[]⟩, .string ⟨#[]⟩] #[.int .i64 2, .string ⟨#[]⟩, .string ⟨X.toArray⟩, .string ⟨U.toArray⟩, .int .i64 0, .string ⟨#[]⟩, .string ⟨#[]⟩, .string ⟨#[]⟩] := Dm
          clear Dm
          have l2 := (blk_cell hkg 2).trans (hcur 2 (.string ⟨c.toArray⟩) rfl)
          go_upto_region 24 with (go_at_call 36; with_reducible refine (hp3.out _).mono ?_; rintro e w9 ⟨rfl, hb10⟩; have Dn := D.grow hb10)
          clear l2
          replace D := Dn
          clear Dn
          replace hkg := grow_blk hb10 hkg
          have zf := blk_frozen D.kA 4
          have xf := blk_cell D.kA 4
          go_upto_region 41 with (go_at_call 38; with_reducible refine (hg.out _).mono ?_; rintro e w11 ⟨rfl, rfl⟩; have Dn := D)
          have Dm := Dn.set 4 (.int .i64 I)
          refine gen_world fun V13 hV13 => ?_
          rw [← hV13] at Dm
          replace hkg : V13.heap[g]? = some (.cells cur 9 (0, 0)) := by rw [hV13]; exact blk_far hkg (by simp; omega) _
          clear hV13 zf xf D Dn 
          have D : DR w R A V13 #[.int .i64 0, .string ⟨#[]⟩, .string ⟨#[]⟩, .string ⟨#[]⟩, .int .i64 0, .string ⟨#[]⟩, .string ⟨#[]⟩, .string ⟨#[]⟩] #[.int .i64 2, .string ⟨#[]⟩, .string ⟨X.toArray⟩, .string ⟨U.toArray⟩, .int .i64 I, .string ⟨#[]⟩, .string ⟨#[]⟩, .string ⟨#[]⟩] := Dm
          clear Dm
          have y0 := blk_cell D.kB 0
          have q0 := blk_frozen D.kB 0
          have y1 := blk_cell D.kB 1
          have q1 := blk_frozen D.kB 1
          have y2 := blk_cell D.kB 2
          have q2 := blk_frozen D.kB 2
          have y3 := blk_cell D.kB 3
          have q3 := blk_frozen D.kB 3
          have y4 := blk_cell D.kB 4
          have q4 := blk_frozen D.kB 4
          have y5 := blk_cell D.kB 5
          have q5 := blk_frozen D.kB 5
          have y6 := blk_cell D.kB 6
          have q6 := blk_frozen D.kB 6
          have y7 := blk_cell D.kB 7
          have q7 := blk_frozen D.kB 7
          go_wp2_with fail
          obtain ⟨W9, hW9, k9, hb9⟩ := Ret8 D rfl noM
          simp only [noM] at hW9
          rw [← hW9]
          clear hW9
          exact bodyPost_ret (v := .tuple #[mv noM, .bool false]) (by simp [results, Tryz.results13, go_sem, blk_cell k9 0, blk_cell k9 1, blk_cell k9 2, blk_cell k9 3, blk_cell k9 4, blk_cell k9 5, blk_cell k9 6, blk_cell k9 7, mv, mA, noM]) rfl ⟨⟨noM, false, rfl, noM_sz, .inr ⟨rfl, rfl, hno.out⟩⟩, hb9⟩
        case true =>
          have hno : RowKit.Hid (decM 2 s.data.toList = none) := Lib.hid hdm.out
          replace he := Lib.hid he
          go_enter Tryz.func13, Tryz.ntmps13
          go_upto_region 2 with fail
          have D := DR_new w #[.int .i64 0, .string ⟨#[]⟩, .string ⟨#[]⟩, .string ⟨#[]⟩, .int .i64 0, .string ⟨#[]⟩, .string ⟨#[]⟩, .string ⟨#[]⟩] #[.int .i64 2, .string ⟨#[]⟩, .string ⟨#[]⟩, .string ⟨#[]⟩, .int .i64 0, .string ⟨#[]⟩, .string ⟨#[]⟩, .string ⟨#[]⟩]
          refine gen_world fun W hW => ?_
          rw [← hW] at D
          clear hW
          obtain ⟨R, hR0⟩ : ∃ R, R = w.heap.size := ⟨_, rfl⟩
          obtain ⟨A, hA⟩ : ∃ A, A = w.heap.size + 1 := ⟨_, rfl⟩
          rw [← hA, ← hR0] at D
          rw [← hA, ← hR0]
          clear hA hR0
          go_upto_region 17 with (go_at_call 35; refine (hSp _).mono ?_; rintro e w1 ⟨⟨g, cap, rfl, HO⟩, hb1⟩)
          obtain ⟨hgw, cur, hkg, hcur⟩ := own_blk HO
          have hgA : A < g := Nat.lt_of_lt_of_le (blk_lt D.kA) hgw
          replace D := D.grow hb1
          clear HO hgw
          have l0 := (blk_cell hkg 0).trans (hcur 0 (.string ⟨a.toArray⟩) rfl)
          go_upto_region 19 with (go_at_call 36; with_reducible refine (hp1.out _).mono ?_; rintro e w1 ⟨rfl, hb2⟩; have Dn := D.grow hb2; have zf := blk_frozen Dn.kA 2; have xf := blk_cell Dn.kA 2)
          replace hkg := grow_blk hb2 hkg
          have Dm := Dn.set 2 (.string ⟨X.toArray⟩)
          refine gen_world fun V3 hV3 => ?_
          rw [← hV3] at Dm
          replace hkg : V3.heap[g]? = some (.cells cur 9 (0, 0)) := by rw [hV3]; exact blk_far hkg (by simp; omega) _
          clear hV3 zf xf D Dn l0
          have D : DR w R A V3 #[.int .i64 0, .string ⟨#[]⟩, .string ⟨#[]⟩, .string ⟨#[]⟩, .int .i64 0, .string ⟨#[]⟩, .string ⟨#[]⟩, .string ⟨#[]⟩] #[.int .i64 2, .string ⟨#[]⟩, .string ⟨X.toArray⟩, .string ⟨#[]⟩, .int .i64 0, .string ⟨#[]⟩, .string ⟨#[]⟩, .string ⟨#[]⟩] := Dm
          clear Dm
          have l1 := (blk_cell hkg 1).trans (hcur 1 (.string ⟨b.toArray⟩) rfl)
          go_upto_region 20 with (go_at_call 36; with_reducible refine (hp2.out _).mono ?_; rintro e w4 ⟨rfl, hb5⟩; have Dn := D.grow hb5)
          clear l1
          replace D := Dn
          clear Dn
          replace hkg := grow_blk hb5 hkg
          go_upto_region 22 with (go_at_call 37; with_reducible refine (hd.out _).mono ?_; rintro e w6 ⟨rfl, hb7⟩; have Dn := D.grow hb7; have zf := blk_frozen Dn.kA 3; have xf := blk_cell Dn.kA 3)
          replace hkg := grow_blk hb7 hkg
          have Dm := Dn.set 3 (.string ⟨U.toArray⟩)
          refine gen_world fun V8 hV8 => ?_
          rw [← hV8] at Dm
          replace hkg : V8.heap[g]? = some (.cells cur 9 (0, 0)) := by rw [hV8]; exact blk_far hkg (by simp; omega) _
          clear hV8 zf xf D Dn 
          have D : DR w R A V8 #[.int .i64 0, .string ⟨#[]⟩, .string ⟨#[]⟩, .string ⟨#[]⟩, .int .i64 0, .string ⟨#[]⟩, .string ⟨#[]⟩, .string ⟨#[]⟩] #[.int .i64 2, .string ⟨#[]⟩, .string ⟨X.toArray⟩, .string ⟨U.toArray⟩, .int .i64 0, .string ⟨#[]⟩, .string ⟨#[]⟩, .string ⟨#[]⟩] := Dm
          clear Dm
          have l2 := (blk_cell hkg 2).trans (hcur 2 (.string ⟨c.toArray⟩) rfl)
          go_upto_region 24 with (go_at_call 36; with_reducible refine (hp3.out _).mono ?_; rintro e w9 ⟨rfl, hb10⟩; have Dn := D.grow hb10)
          clear l2
          replace D := Dn
          clear Dn
          replace hkg := grow_blk hb10 hkg
          have zf := blk_frozen D.kA 4
          have xf := blk_cell D.kA 4
          go_upto_region 41 with (go_at_call 38; with_reducible refine (hg.out _).mono ?_; rintro e w11 ⟨rfl, rfl⟩; have Dn := D)
          have Dm := Dn.set 4 (.int .i64 I)
          refine gen_world fun V13 hV13 => ?_
          rw [← hV13] at Dm
          replace hkg : V13.heap[g]? = some (.cells cur 9 (0, 0)) := by rw [hV13]; exact blk_far hkg (by simp; omega) _
          clear hV13 zf xf D Dn 
          have D : DR w R A V13 #[.int .i64 0, .string ⟨#[]⟩, .string ⟨#[]⟩, .string ⟨#[]⟩, .int .i64 0, .string ⟨#[]⟩, .string ⟨#[]⟩, .string ⟨#[]⟩] #[.int .i64 2, .string ⟨#[]⟩, .string ⟨X.toArray⟩, .string ⟨U.toArray⟩, .int .i64 I, .string ⟨#[]⟩, .string ⟨#[]⟩, .string ⟨#[]⟩] := Dm
          clear Dm
          have y0 := blk_cell D.kB 0
          have q0 := blk_frozen D.kB 0
          have y1 := blk_cell D.kB 1
          have q1 := blk_frozen D.kB 1
          have y2 := blk_cell D.kB 2
          have q2 := blk_frozen D.kB 2
          have y3 := blk_cell D.kB 3
          have q3 := blk_frozen D.kB 3
          have y4 := blk_cell D.kB 4
          have q4 := blk_frozen D.kB 4
          have y5 := blk_cell D.kB 5
          have q5 := blk_frozen D.kB 5
          have y6 := blk_cell D.kB 6
          have q6 := blk_frozen D.kB 6
          have y7 := blk_cell D.kB 7
          have q7 := blk_frozen D.kB 7
          go_wp2_with fail
          obtain ⟨W9, hW9, k9, hb9⟩ := Ret8 D rfl noM
          simp only [noM] at hW9
          rw [← hW9]
          clear hW9
          exact bodyPost_ret (v := .tuple #[mv noM, .bool false]) (by simp [results, Tryz.results13, go_sem, blk_cell k9 0, blk_cell k9 1, blk_cell k9 2, blk_cell k9 3, blk_cell k9 4, blk_cell k9 5, blk_cell k9 6, blk_cell k9 7, mv, mA, noM]) rfl ⟨⟨noM, false, rfl, noM_sz, .inr ⟨rfl, rfl, hno.out⟩⟩, hb9⟩
  case true =>
    cases b2
    case false =>
      cases b3
      case false =>
        cases b4
        case false =>
          have hno : RowKit.Hid (decM 2 s.data.toList = none) := Lib.hid hdm.out
          replace he := Lib.hid he
          go_enter Tryz.func13, Tryz.ntmps13
          go_upto_region 2 with fail
          have D := DR_new w #[.int .i64 0, .string ⟨#[]⟩, .string ⟨#[]⟩, .string ⟨#[]⟩, .int .i64 0, .string ⟨#[]⟩, .string ⟨#[]⟩, .string ⟨#[]⟩] #[.int .i64 2, .string ⟨#[]⟩, .string ⟨#[]⟩, .string ⟨#[]⟩, .int .i64 0, .string ⟨#[]⟩, .string ⟨#[]⟩, .string ⟨#[]⟩]
          refine gen_world fun W hW => ?_
          rw [← hW] at D
          clear hW
          obtain ⟨R, hR0⟩ : ∃ R, R = w.heap.size := ⟨_, rfl⟩
          obtain ⟨A, hA⟩ : ∃ A, A = w.heap.size + 1 := ⟨_, rfl⟩
          rw [← hA, ← hR0] at D
          rw [← hA, ← hR0]
          clear hA hR0
          go_upto_region 17 with (go_at_call 35; refine (hSp _).mono ?_; rintro e w1 ⟨⟨g, cap, rfl, HO⟩, hb1⟩)
          obtain ⟨hgw, cur, hkg, hcur⟩ := own_blk HO
          have hgA : A < g := Nat.lt_of_lt_of_le (blk_lt D.kA) hgw
          replace D := D.grow hb1
          clear HO hgw
          have l0 := (blk_cell hkg 0).trans (hcur 0 (.string ⟨a.toArray⟩) rfl)
          go_upto_region 19 with (go_at_call 36; with_reducible refine (hp1.out _).mono ?_; rintro e w1 ⟨rfl, hb2⟩; have Dn := D.grow hb2; have zf := blk_frozen Dn.kA 2; have xf := blk_cell Dn.kA 2)
          replace hkg := grow_blk hb2 hkg
          have Dm := Dn.set 2 (.string ⟨X.toArray⟩)
          refine gen_world fun V3 hV3 => ?_
          rw [← hV3] at Dm
          replace hkg : V3.heap[g]? = some (.cells cur 9 (0, 0)) := by rw [hV3]; exact blk_far hkg (by simp; omega) _
          clear hV3 zf xf D Dn l0
          have D : DR w R A V3 #[.int .i64 0, .string ⟨#[]⟩, .string ⟨#[]⟩, .string ⟨#[]⟩, .int .i64 0, .string ⟨#[]⟩, .string ⟨#[]⟩, .string ⟨#[]⟩] #[.int .i64 2, .string ⟨#[]⟩, .string ⟨X.toArray⟩, .string ⟨#[]⟩, .int .i64 0, .string ⟨#[]⟩, .string ⟨#[]⟩, .string ⟨#[]⟩] := Dm
          clear Dm
          have l1 := (blk_cell hkg 1).trans (hcur 1 (.string ⟨b.toArray⟩) rfl)
          go_upto_region 20 with (go_at_call 36; with_reducible refine (hp2.out _).mono ?_; rintro e w4 ⟨rfl, hb5⟩; have Dn := D.grow hb5)
          clear l1
          replace D := Dn
          clear Dn
          replace hkg := grow_blk hb5 hkg
          go_upto_region 22 with (go_at_call 37; with_reducible refine (hd.out _).mono ?_; rintro e w6 ⟨rfl, hb7⟩; have Dn := D.grow hb7; have zf := blk_frozen Dn.kA 3; have xf := blk_cell Dn.kA 3)
          replace hkg := grow_blk hb7 hkg
          have Dm := Dn.set 3 (.string ⟨U.toArray⟩)
          refine gen_world fun V8 hV8 => ?_
          rw [← hV8] at Dm
          replace hkg : V8.heap[g]? = some (.cells cur 9 (0, 0)) := by rw [hV8]; exact blk_far hkg (by simp; omega) _
          clear hV8 zf xf D Dn 
          have D : DR w R A V8 #[.int .i64 0, .string ⟨#[]⟩, .string ⟨#[]⟩, .string ⟨#[]⟩, .int .i64 0, .string ⟨#[]⟩, .string ⟨#[]⟩, .string ⟨#[]⟩] #[.int .i64 2, .string ⟨#[]⟩, .string ⟨X.toArray⟩, .string ⟨U.toArray⟩, .int .i64 0, .string ⟨#[]⟩, .string ⟨#[]⟩, .string ⟨#[]⟩] := Dm
          clear Dm
          have l2 := (blk_cell hkg 2).trans (hcur 2 (.string ⟨c.toArray⟩) rfl)
          go_upto_region 24 with (go_at_call 36; with_reducible refine (hp3.out _).mono ?_; rintro e w9 ⟨rfl, hb10⟩; have Dn := D.grow hb10)
          clear l2
          replace D := Dn
          clear Dn
          replace hkg := grow_blk hb10 hkg
          have zf := blk_frozen D.kA 4
          have xf := blk_cell D.kA 4
          go_upto_region 41 with (go_at_call 38; with_reducible refine (hg.out _).mono ?_; rintro e w11 ⟨rfl, rfl⟩; have Dn := D)
          have Dm := Dn.set 4 (.int .i64 I)
          refine gen_world fun V13 hV13 => ?_
          rw [← hV13] at Dm
          replace hkg : V13.heap[g]? = some (.cells cur 9 (0, 0)) := by rw [hV13]; exact blk_far hkg (by simp; omega) _
          clear hV13 zf xf D Dn 
          have D : DR w R A V13 #[.int .i64 0, .string ⟨#[]⟩, .string ⟨#[]⟩, .string ⟨#[]⟩, .int .i64 0, .string ⟨#[]⟩, .string ⟨#[]⟩, .string ⟨#[]⟩] #[.int .i64 2, .string ⟨#[]⟩, .string ⟨X.toArray⟩, .string ⟨U.toArray⟩, .int .i64 I, .string ⟨#[]⟩, .string ⟨#[]⟩, .string ⟨#[]⟩] := Dm
          clear Dm
          have y0 := blk_cell D.kB 0
          have q0 := blk_frozen D.kB 0
          have y1 := blk_cell D.kB 1
          have q1 := blk_frozen D.kB 1
          have y2 := blk_cell D.kB 2
          have q2 := blk_frozen D.kB 2
          have y3 := blk_cell D.kB 3
          have q3 := blk_frozen D.kB 3
          have y4 := blk_cell D.kB 4
          have q4 := blk_frozen D.kB 4
          have y5 := blk_cell D.kB 5
          have q5 := blk_frozen D.kB 5
          have y6 := blk_cell D.kB 6
          have q6 := blk_frozen D.kB 6
          have y7 := blk_cell D.kB 7
          have q7 := blk_frozen D.kB 7
          go_wp2_with fail
          obtain ⟨W9, hW9, k9, hb9⟩ := Ret8 D rfl noM
          simp only [noM] at hW9
          rw [← hW9]
          clear hW9
          exact bodyPost_ret (v := .tuple #[mv noM, .bool false]) (by simp [results, Tryz.results13, go_sem, blk_cell k9 0, blk_cell k9 1, blk_cell k9 2, blk_cell k9 3, blk_cell k9 4, blk_cell k9 5, blk_cell k9 6, blk_cell k9 7, mv, mA, noM]) rfl ⟨⟨noM, false, rfl, noM_sz, .inr ⟨rfl, rfl, hno.out⟩⟩, hb9⟩
        case true =>
          have hno : RowKit.Hid (decM 2 s.data.toList = none) := Lib.hid hdm.out
          replace he := Lib.hid he
          go_enter Tryz.func13, Tryz.ntmps13
          go_upto_region 2 with fail
          have D := DR_new w #[.int .i64 0, .string ⟨#[]⟩, .string ⟨#[]⟩, .string ⟨#[]⟩, .int .i64 0, .string ⟨#[]⟩, .string ⟨#[]⟩, .string ⟨#[]⟩] #[.int .i64 2, .string ⟨#[]⟩, .string ⟨#[]⟩, .string ⟨#[]⟩, .int .i64 0, .string ⟨#[]⟩, .string ⟨#[]⟩, .string ⟨#[]⟩]
          refine gen_world fun W hW => ?_
          rw [← hW] at D
          clear hW
          obtain ⟨R, hR0⟩ : ∃ R, R = w.heap.size := ⟨_, rfl⟩
          obtain ⟨A, hA⟩ : ∃ A, A = w.heap.size + 1 := ⟨_, rfl⟩
          rw [← hA, ← hR0] at D
          rw [← hA, ← hR0]
          clear hA hR0
          go_upto_region 17 with (go_at_call 35; refine (hSp _).mono ?_; rintro e w1 ⟨⟨g, cap, rfl, HO⟩, hb1⟩)
          obtain ⟨hgw, cur, hkg, hcur⟩ := own_blk HO
          have hgA : A < g := Nat.lt_of_lt_of_le (blk_lt D.kA) hgw
          replace D := D.grow hb1
          clear HO hgw
          have l0 := (blk_cell hkg 0).trans (hcur 0 (.string ⟨a.toArray⟩) rfl)
          go_upto_region 19 with (go_at_call 36; with_reducible refine (hp1.out _).mono ?_; rintro e w1 ⟨rfl, hb2⟩; have Dn := D.grow hb2; have zf := blk_frozen Dn.kA 2; have xf := blk_cell Dn.kA 2)
          replace hkg := grow_blk hb2 hkg
          have Dm := Dn.set 2 (.string ⟨X.toArray⟩)
          refine gen_world fun V3 hV3 => ?_
          rw [← hV3] at Dm
          replace hkg : V3.heap[g]? = some (.cells cur 9 (0, 0)) := by rw [hV3]; exact blk_far hkg (by simp; omega) _
          clear hV3 zf xf D Dn l0
          have D : DR w R A V3 #[.int .i64 0, .string ⟨#[]⟩, .string ⟨#[]⟩, .string ⟨#[]⟩, .int .i64 0, .string ⟨#[]⟩, .string ⟨#[]⟩, .string ⟨#[]⟩] #[.int .i64 2, .string ⟨#[]⟩, .string ⟨X.toArray⟩, .string ⟨#[]⟩, .int .i64 0, .string ⟨#[]⟩, .string ⟨#[]⟩, .string ⟨#[]⟩] := Dm
          clear Dm
          have l1 := (blk_cell hkg 1).trans (hcur 1 (.string ⟨b.toArray⟩) rfl)
          go_upto_region 20 with (go_at_call 36; with_reducible refine (hp2.out _).mono ?_; rintro e w4 ⟨rfl, hb5⟩; have Dn := D.grow hb5)
          clear l1
          replace D := Dn
          clear Dn
          replace hkg := grow_blk hb5 hkg
          go_upto_region 22 with (go_at_call 37; with_reducible refine (hd.out _).mono ?_; rintro e w6 ⟨rfl, hb7⟩; have Dn := D.grow hb7; have zf := blk_frozen Dn.kA 3; have xf := blk_cell Dn.kA 3)
          replace hkg := grow_blk hb7 hkg
          have Dm := Dn.set 3 (.string ⟨U.toArray⟩)
          refine gen_world fun V8 hV8 => ?_
          rw [← hV8] at Dm
          replace hkg : V8.heap[g]? = some (.cells cur 9 (0, 0)) := by rw [hV8]; exact blk_far hkg (by simp; omega) _
          clear hV8 zf xf D Dn 
          have D : DR w R A V8 #[.int .i64 0, .string ⟨#[]⟩, .string ⟨#[]⟩, .string ⟨#[]⟩, .int .i64 0, .string ⟨#[]⟩, .string ⟨#[]⟩, .string ⟨#[]⟩] #[.int .i64 2, .string ⟨#[]⟩, .string ⟨X.toArray⟩, .string ⟨U.toArray⟩, .int .i64 0, .string ⟨#[]⟩, .string ⟨#[]⟩, .string ⟨#[]⟩] := Dm
          clear Dm
          have l2 := (blk_cell hkg 2).trans (hcur 2 (.string ⟨c.toArray⟩) rfl)
          go_upto_region 24 with (go_at_call 36; with_reducible refine (hp3.out _).mono ?_; rintro e w9 ⟨rfl, hb10⟩; have Dn := D.grow hb10)
          clear l2
          replace D := Dn
          clear Dn
          replace hkg := grow_blk hb10 hkg
          have zf := blk_frozen D.kA 4
          have xf := blk_cell D.kA 4
          go_upto_region 41 with (go_at_call 38; with_reducible refine (hg.out _).mono ?_; rintro e w11 ⟨rfl, rfl⟩; have Dn := D)
          have Dm := Dn.set 4 (.int .i64 I)
          refine gen_world fun V13 hV13 => ?_
          rw [← hV13] at Dm
          replace hkg : V13.heap[g]? = some (.cells cur 9 (0, 0)) := by rw [hV13]; exact blk_far hkg (by simp; omega) _
          clear hV13 zf xf D Dn 
          have D : DR w R A V13 #[.int .i64 0, .string ⟨#[]⟩, .string ⟨#[]⟩, .string ⟨#[]⟩, .int .i64 0, .string ⟨#[]⟩, .string ⟨#[]⟩, .string ⟨#[]⟩] #[.int .i64 2, .string ⟨#[]⟩, .string ⟨X.toArray⟩, .string ⟨U.toArray⟩, .int .i64 I, .string ⟨#[]⟩, .string ⟨#[]⟩, .string ⟨#[]⟩] := Dm
          clear Dm
          have y0 := blk_cell D.kB 0
          have q0 := blk_frozen D.kB 0
          have y1 := blk_cell D.kB 1
          have q1 := blk_frozen D.kB 1
          have y2 := blk_cell D.kB 2
          have q2 := blk_frozen D.kB 2
          have y3 := blk_cell D.kB 3
          have q3 := blk_frozen D.kB 3
          have y4 := blk_cell D.kB 4
          have q4 := blk_frozen D.kB 4
          have y5 := blk_cell D.kB 5
          have q5 := blk_frozen D.kB 5
          have y6 := blk_cell D.kB 6
          have q6 := blk_frozen D.kB 6
          have y7 := blk_cell D.kB 7
          have q7 := blk_frozen D.kB 7
          go_wp2_with fail
          obtain ⟨W9, hW9, k9, hb9⟩ := Ret8 D rfl noM
          simp only [noM] at hW9
          rw [← hW9]
          clear hW9
          exact bodyPost_ret (v := .tuple #[mv noM, .bool false]) (by simp [results, Tryz.results13, go_sem, blk_cell k9 0, blk_cell k9 1, blk_cell k9 2, blk_cell k9 3, blk_cell k9 4, blk_cell k9 5, blk_cell k9 6, blk_cell k9 7, mv, mA, noM]) rfl ⟨⟨noM, false, rfl, noM_sz, .inr ⟨rfl, rfl, hno.out⟩⟩, hb9⟩
      case true =>
        cases b4
        case false =>
          have hno : RowKit.Hid (decM 2 s.data.toList = none) := Lib.hid hdm.out
          replace he := Lib.hid he
          go_enter Tryz.func13, Tryz.ntmps13
          go_upto_region 2 with fail
          have D := DR_new w #[.int .i64 0, .string ⟨#[]⟩, .string ⟨#[]⟩, .string ⟨#[]⟩, .int .i64 0, .string ⟨#[]⟩, .string ⟨#[]⟩, .string ⟨#[]⟩] #[.int .i64 2, .string ⟨#[]⟩, .string ⟨#[]⟩, .string ⟨#[]⟩, .int .i64 0, .string ⟨#[]⟩, .string ⟨#[]⟩, .string ⟨#[]⟩]
          refine gen_world fun W hW => ?_
          rw [← hW] at D
          clear hW
          obtain ⟨R, hR0⟩ : ∃ R, R = w.heap.size := ⟨_, rfl⟩
          obtain ⟨A, hA⟩ : ∃ A, A = w.heap.size + 1 := ⟨_, rfl⟩
          rw [← hA, ← hR0] at D
          rw [← hA, ← hR0]
          clear hA hR0
          go_upto_region 17 with (go_at_call 35; refine (hSp _).mono ?_; rintro e w1 ⟨⟨g, cap, rfl, HO⟩, hb1⟩)
          obtain ⟨hgw, cur, hkg, hcur⟩ := own_blk HO
          have hgA : A < g := Nat.lt_of_lt_of_le (blk_lt D.kA) hgw
          replace D := D.grow hb1
          clear HO hgw
          have l0 := (blk_cell hkg 0).trans (hcur 0 (.string ⟨a.toArray⟩) rfl)
          go_upto_region 19 with (go_at_call 36; with_reducible refine (hp1.out _).mono ?_; rintro e w1 ⟨rfl, hb2⟩; have Dn := D.grow hb2; have zf := blk_frozen Dn.kA 2; have xf := blk_cell Dn.kA 2)
          replace hkg := grow_blk hb2 hkg
          have Dm := Dn.set 2 (.string ⟨X.toArray⟩)
          refine gen_world fun V3 hV3 => ?_
          rw [← hV3] at Dm
          replace hkg : V3.heap[g]? = some (.cells cur 9 (0, 0)) := by rw [hV3]; exact blk_far hkg (by simp; omega) _
          clear hV3 zf xf D Dn l0
          have D : DR w R A V3 #[.int .i64 0, .string ⟨#[]⟩, .string ⟨#[]⟩, .string ⟨#[]⟩, .int .i64 0, .string ⟨#[]⟩, .string ⟨#[]⟩, .string ⟨#[]⟩] #[.int .i64 2, .string ⟨#[]⟩, .string ⟨X.toArray⟩, .string ⟨#[]⟩, .int .i64 0, .string ⟨#[]⟩, .string ⟨#[]⟩, .string ⟨#[]⟩] := Dm
          clear Dm
          have l1 := (blk_cell hkg 1).trans (hcur 1 (.string ⟨b.toArray⟩) rfl)
          go_upto_region 20 with (go_at_call 36; with_reducible refine (hp2.out _).mono ?_; rintro e w4 ⟨rfl, hb5⟩; have Dn := D.grow hb5)
          clear l1
          replace D := Dn
          clear Dn
          replace hkg := grow_blk hb5 hkg
          go_upto_region 22 with (go_at_call 37; with_reducible refine (hd.out _).mono ?_; rintro e w6 ⟨rfl, hb7⟩; have Dn := D.grow hb7; have zf := blk_frozen Dn.kA 3; have xf := blk_cell Dn.kA 3)
          replace hkg := grow_blk hb7 hkg
          have Dm := Dn.set 3 (.string ⟨U.toArray⟩)
          refine gen_world fun V8 hV8 => ?_
          rw [← hV8] at Dm
          replace hkg : V8.heap[g]? = some (.cells cur 9 (0, 0)) := by rw [hV8]; exact blk_far hkg (by simp; omega) _
          clear hV8 zf xf D Dn 
          have D : DR w R A V8 #[.int .i64 0, .string ⟨#[]⟩, .string ⟨#[]⟩, .string ⟨#[]⟩, .int .i64 0, .string ⟨#[]⟩, .string ⟨#[]⟩, .string ⟨#[]⟩] #[.int .i64 2, .string ⟨#[]⟩, .string ⟨X.toArray⟩, .string ⟨U.toArray⟩, .int .i64 0, .string ⟨#[]⟩, .string ⟨#[]⟩, .string ⟨#[]⟩] := Dm
          clear Dm
          have l2 := (blk_cell hkg 2).trans (hcur 2 (.string ⟨c.toArray⟩) rfl)
          go_upto_region 24 with (go_at_call 36; with_reducible refine (hp3.out _).mono ?_; rintro e w9 ⟨rfl, hb10⟩; have Dn := D.grow hb10)
          clear l2
          replace D := Dn
          clear Dn
          replace hkg := grow_blk hb10 hkg
          have zf := blk_frozen D.kA 4
          have xf := blk_cell D.kA 4
          go_upto_region 41 with (go_at_call 38; with_reducible refine (hg.out _).mono ?_; rintro e w11 ⟨rfl, rfl⟩; have Dn := D)
          have Dm := Dn.set 4 (.int .i64 I)
          refine gen_world fun V13 hV13 => ?_
          rw [← hV13] at Dm
          replace hkg : V13.heap[g]? = some (.cells cur 9 (0, 0)) := by rw [hV13]; exact blk_far hkg (by simp; omega) _
          clear hV13 zf xf D Dn 
          have D : DR w R A V13 #[.int .i64 0, .string ⟨#[]⟩, .string ⟨#[]⟩, .string ⟨#[]⟩, .int .i64 0, .string ⟨#[]⟩, .string ⟨#[]⟩, .string ⟨#[]⟩] #[.int .i64 2, .string ⟨#[]⟩, .string ⟨X.toArray⟩, .string ⟨U.toArray⟩, .int .i64 I, .string ⟨#[]⟩, .string ⟨#[]⟩, .string ⟨#[]⟩] := Dm
          clear Dm
          have y0 := blk_cell D.kB 0
          have q0 := blk_frozen D.kB 0
          have y1 := blk_cell D.kB 1
          have q1 := blk_frozen D.kB 1
          have y2 := blk_cell D.kB 2
          have q2 := blk_frozen D.kB 2
          have y3 := blk_cell D.kB 3
          have q3 := blk_frozen D.kB 3
          have y4 := blk_cell D.kB 4
          have q4 := blk_frozen D.kB 4
          have y5 := blk_cell D.kB 5
          have q5 := blk_frozen D.kB 5
          have y6 := blk_cell D.kB 6
          have q6 := blk_frozen D.kB 6
          have y7 := blk_cell D.kB 7
          have q7 := blk_frozen D.kB 7
          go_wp2_with fail
          obtain ⟨W9, hW9, k9, hb9⟩ := Ret8 D rfl noM
          simp only [noM] at hW9
          rw [← hW9]
          clear hW9
          exact bodyPost_ret (v := .tuple #[mv noM, .bool false]) (by simp [results, Tryz.results13, go_sem, blk_cell k9 0, blk_cell k9 1, blk_cell k9 2, blk_cell k9 3, blk_cell k9 4, blk_cell k9 5, blk_cell k9 6, blk_cell k9 7, mv, mA, noM]) rfl ⟨⟨noM, false, rfl, noM_sz, .inr ⟨rfl, rfl, hno.out⟩⟩, hb9⟩
        case true =>
          have hno : RowKit.Hid (decM 2 s.data.toList = none) := Lib.hid hdm.out
          replace he := Lib.hid he
          go_enter Tryz.func13, Tryz.ntmps13
          go_upto_region 2 with fail
          have D := DR_new w #[.int .i64 0, .string ⟨#[]⟩, .string ⟨#[]⟩, .string ⟨#[]⟩, .int .i64 0, .string ⟨#[]⟩, .string ⟨#[]⟩, .string ⟨#[]⟩] #[.int .i64 2, .string ⟨#[]⟩, .string ⟨#[]⟩, .string ⟨#[]⟩, .int .i64 0, .string ⟨#[]⟩, .string ⟨#[]⟩, .string ⟨#[]⟩]
          refine gen_world fun W hW => ?_
          rw [← hW] at D
          clear hW
          obtain ⟨R, hR0⟩ : ∃ R, R = w.heap.size := ⟨_, rfl⟩
          obtain ⟨A, hA⟩ : ∃ A, A = w.heap.size + 1 := ⟨_, rfl⟩
          rw [← hA, ← hR0] at D
          rw [← hA, ← hR0]
          clear hA hR0
          go_upto_region 17 with (go_at_call 35; refine (hSp _).mono ?_; rintro e w1 ⟨⟨g, cap, rfl, HO⟩, hb1⟩)
          obtain ⟨hgw, cur, hkg, hcur⟩ := own_blk HO
          have hgA : A < g := Nat.lt_of_lt_of_le (blk_lt D.kA) hgw
          replace D := D.grow hb1
          clear HO hgw
          have l0 := (blk_cell hkg 0).trans (hcur 0 (.string ⟨a.toArray⟩) rfl)
          go_upto_region 19 with (go_at_call 36; with_reducible refine (hp1.out _).mono ?_; rintro e w1 ⟨rfl, hb2⟩; have Dn := D.grow hb2; have zf := blk_frozen Dn.kA 2; have xf := blk_cell Dn.kA 2)
          replace hkg := grow_blk hb2 hkg
          have Dm := Dn.set 2 (.string ⟨X.toArray⟩)
          refine gen_world fun V3 hV3 => ?_
          rw [← hV3] at Dm
          replace hkg : V3.heap[g]? = some (.cells cur 9 (0, 0)) := by rw [hV3]; exact blk_far hkg (by simp; omega) _
          clear hV3 zf xf D Dn l0
          have D : DR w R A V3 #[.int .i64 0, .string ⟨#[]⟩, .string ⟨#[]⟩, .string ⟨#[]⟩, .int .i64 0, .string ⟨#[]⟩, .string ⟨#[]⟩, .string ⟨#[]⟩] #[.int .i64 2, .string ⟨#[]⟩, .string ⟨X.toArray⟩, .string ⟨#[]⟩, .int .i64 0, .string ⟨#[]⟩, .string ⟨#[]⟩, .string ⟨#[]⟩] := Dm
          clear Dm
          have l1 := (blk_cell hkg 1).trans (hcur 1 (.string ⟨b.toArray⟩) rfl)
          go_upto_region 20 with (go_at_call 36; with_reducible refine (hp2.out _).mono ?_; rintro e w4 ⟨rfl, hb5⟩; have Dn := D.grow hb5)
          clear l1
          replace D := Dn
          clear Dn
          replace hkg := grow_blk hb5 hkg
          go_upto_region 22 with (go_at_call 37; with_reducible refine (hd.out _).mono ?_; rintro e w6 ⟨rfl, hb7⟩; have Dn := D.grow hb7; have zf := blk_frozen Dn.kA 3; have xf := blk_cell Dn.kA 3)
          replace hkg := grow_blk hb7 hkg
          have Dm := Dn.set 3 (.string ⟨U.toArray⟩)
          refine gen_world fun V8 hV8 => ?_
          rw [← hV8] at Dm
          replace hkg : V8.heap[g]? = some (.cells cur 9 (0, 0)) := by rw [hV8]; exact blk_far hkg (by simp; omega) _
          clear hV8 zf xf D Dn 
          have D : DR w R A V8 #[.int .i64 0, .string ⟨#[]⟩, .string ⟨#[]⟩, .string ⟨#[]⟩, .int .i64 0, .string ⟨#[]⟩, .string ⟨#[]⟩, .string ⟨#[]⟩] #[.int .i64 2, .string ⟨#[]⟩, .string ⟨X.toArray⟩, .string ⟨U.toArray⟩, .int .i64 0, .string ⟨#[]⟩, .string ⟨#[]⟩, .string ⟨#[]⟩] := Dm
          clear Dm
          have l2 := (blk_cell hkg 2).trans (hcur 2 (.string ⟨c.toArray⟩) rfl)
          go_upto_region 24 with (go_at_call 36; with_reducible refine (hp3.out _).mono ?_; rintro e w9 ⟨rfl, hb10⟩; have Dn := D.grow hb10)
          clear l2
          replace D := Dn
          clear Dn
          replace hkg := grow_blk hb10 hkg
          have zf := blk_frozen D.kA 4
          have xf := blk_cell D.kA 4
          go_upto_region 41 with (go_at_call 38; with_reducible refine (hg.out _).mono ?_; rintro e w11 ⟨rfl, rfl⟩; have Dn := D)
          have Dm := Dn.set 4 (.int .i64 I)
          refine gen_world fun V13 hV13 => ?_
          rw [← hV13] at Dm
          replace hkg : V13.heap[g]? = some (.cells cur 9 (0, 0)) := by rw [hV13]; exact blk_far hkg (by simp; omega) _
          clear hV13 zf xf D Dn 
          have D : DR w R A V13 #[.int .i64 0, .string ⟨#[]⟩, .string ⟨#[]⟩, .string ⟨#[]⟩, .int .i64 0, .string ⟨#[]⟩, .string ⟨#[]⟩, .string ⟨#[]⟩] #[.int .i64 2, .string ⟨#[]⟩, .string ⟨X.toArray⟩, .string ⟨U.toArray⟩, .int .i64 I, .string ⟨#[]⟩, .string ⟨#[]⟩, .string ⟨#[]⟩] := Dm
          clear Dm
          have y0 := blk_cell D.kB 0
          have q0 := blk_frozen D.kB 0
          have y1 := blk_cell D.kB 1
          have q1 := blk_frozen D.kB 1
          have y2 := blk_cell D.kB 2
          have q2 := blk_frozen D.kB 2
          have y3 := blk_cell D.kB 3
          have q3 := blk_frozen D.kB 3
          have y4 := blk_cell D.kB 4
          have q4 := blk_frozen D.kB 4
          have y5 := blk_cell D.kB 5
          have q5 := blk_frozen D.kB 5
          have y6 := blk_cell D.kB 6
          have q6 := blk_frozen D.kB 6
          have y7 := blk_cell D.kB 7
          have q7 := blk_frozen D.kB 7
          go_wp2_with fail
          obtain ⟨W9, hW9, k9, hb9⟩ := Ret8 D rfl noM
          simp only [noM] at hW9
          rw [← hW9]
          clear hW9
          exact bodyPost_ret (v := .tuple #[mv noM, .bool false]) (by simp [results, Tryz.results13, go_sem, blk_cell k9 0, blk_cell k9 1, blk_cell k9 2, blk_cell k9 3, blk_cell k9 4, blk_cell k9 5, blk_cell k9 6, blk_cell k9 7, mv, mA, noM]) rfl ⟨⟨noM, false, rfl, noM_sz, .inr ⟨rfl, rfl, hno.out⟩⟩, hb9⟩
    case true =>
      cases b3
      case false =>
        cases b4
        case false =>
          have hno : RowKit.Hid (decM 2 s.data.toList = none) := Lib.hid hdm.out
          replace he := Lib.hid he
          go_enter Tryz.func13, Tryz.ntmps13
          go_upto_region 2 with fail
          have D := DR_new w #[.int .i64 0, .string ⟨#[]⟩, .string ⟨#[]⟩, .string ⟨#[]⟩, .int .i64 0, .string ⟨#[]⟩, .string ⟨#[]⟩, .string ⟨#[]⟩] #[.int .i64 2, .string ⟨#[]⟩, .string ⟨#[]⟩, .string ⟨#[]⟩, .int .i64 0, .string ⟨#[]⟩, .string ⟨#[]⟩, .string ⟨#[]⟩]
          refine gen_world fun W hW => ?_
          rw [← hW] at D
          clear hW
          obtain ⟨R, hR0⟩ : ∃ R, R = w.heap.size := ⟨_, rfl⟩
          obtain ⟨A, hA⟩ : ∃ A, A = w.heap.size + 1 := ⟨_, rfl⟩
          rw [← hA, ← hR0] at D
          rw [← hA, ← hR0]
          clear hA hR0
          go_upto_region 17 with (go_at_call 35; refine (hSp _).mono ?_; rintro e w1 ⟨⟨g, cap, rfl, HO⟩, hb1⟩)
          obtain ⟨hgw, cur, hkg, hcur⟩ := own_blk HO
          have hgA : A < g := Nat.lt_of_lt_of_le (blk_lt D.kA) hgw
          replace D := D.grow hb1
          clear HO hgw
          have l0 := (blk_cell hkg 0).trans (hcur 0 (.string ⟨a.toArray⟩) rfl)
          go_upto_region 19 with (go_at_call 36; with_reducible refine (hp1.out _).mono ?_; rintro e w1 ⟨rfl, hb2⟩; have Dn := D.grow hb2; have zf := blk_frozen Dn.kA 2; have xf := blk_cell Dn.kA 2)
          replace hkg := grow_blk hb2 hkg
          have Dm := Dn.set 2 (.string ⟨X.toArray⟩)
          refine gen_world fun V3 hV3 => ?_
          rw [← hV3] at Dm
          replace hkg : V3.heap[g]? = some (.cells cur 9 (0, 0)) := by rw [hV3]; exact blk_far hkg (by simp; omega) _
          clear hV3 zf xf D Dn l0
          have D : DR w R A V3 #[.int .i64 0, .string ⟨#[]⟩, .string ⟨#[]⟩, .string ⟨#[]⟩, .int .i64 0, .string ⟨#[]⟩, .string ⟨#[]⟩, .string ⟨#[]⟩] #[.int .i64 2, .string ⟨#[]⟩, .string ⟨X.toArray⟩, .string ⟨#[]⟩, .int .i64 0, .string ⟨#[]⟩, .string ⟨#[]⟩, .string ⟨#[]⟩] := Dm
          clear Dm
          have l1 := (blk_cell hkg 1).trans (hcur 1 (.string ⟨b.toArray⟩) rfl)
          go_upto_region 20 with (go_at_call 36; with_reducible refine (hp2.out _).mono ?_; rintro e w4 ⟨rfl, hb5⟩; have Dn := D.grow hb5)
          clear l1
          replace D := Dn
          clear Dn
          replace hkg := grow_blk hb5 hkg
          go_upto_region 22 with (go_at_call 37; with_reducible refine (hd.out _).mono ?_; rintro e w6 ⟨rfl, hb7⟩; have Dn := D.grow hb7; have zf := blk_frozen Dn.kA 3; have xf := blk_cell Dn.kA 3)
          replace hkg := grow_blk hb7 hkg
          have Dm := Dn.set 3 (.string ⟨U.toArray⟩)
          refine gen_world fun V8 hV8 => ?_
          rw [← hV8] at Dm
          replace hkg : V8.heap[g]? = some (.cells cur 9 (0, 0)) := by rw [hV8]; exact blk_far hkg (by simp; omega) _
          clear hV8 zf xf D Dn 
          have D : DR w R A V8 #[.int .i64 0, .string ⟨#[]⟩, .string ⟨#[]⟩, .string ⟨#[]⟩, .int .i64 0, .string ⟨#[]⟩, .string ⟨#[]⟩, .string ⟨#[]⟩] #[.int .i64 2, .string ⟨#[]⟩, .string ⟨X.toArray⟩, .string ⟨U.toArray⟩, .int .i64 0, .string ⟨#[]⟩, .string ⟨#[]⟩, .string ⟨#[]⟩] := Dm
          clear Dm
          have l2 := (blk_cell hkg 2).trans (hcur 2 (.string ⟨c.toArray⟩) rfl)
          go_upto_region 24 with (go_at_call 36; with_reducible refine (hp3.out _).mono ?_; rintro e w9 ⟨rfl, hb10⟩; have Dn := D.grow hb10)
          clear l2
          replace D := Dn
          clear Dn
          replace hkg := grow_blk hb10 hkg
          have zf := blk_frozen D.kA 4
          have xf := blk_cell D.kA 4
          go_upto_region 41 with (go_at_call 38; with_reducible refine (hg.out _).mono ?_; rintro e w11 ⟨rfl, rfl⟩; have Dn := D)
          have Dm := Dn.set 4 (.int .i64 I)
          refine gen_world fun V13 hV13 => ?_
          rw [← hV13] at Dm
          replace hkg : V13.heap[g]? = some (.cells cur 9 (0, 0)) := by rw [hV13]; exact blk_far hkg (by simp; omega) _
          clear hV13 zf xf D Dn 
          have D : DR w R A V13 #[.int .i64 0, .string ⟨#[]⟩, .string ⟨#[]⟩, .string ⟨#[]⟩, .int .i64 0, .string ⟨#[]⟩, .string ⟨#[]⟩, .string ⟨#[]⟩] #[.int .i64 2, .string ⟨#[]⟩, .string ⟨X.toArray⟩, .string ⟨U.toArray⟩, .int .i64 I, .string ⟨#[]⟩, .string ⟨#[]⟩, .string ⟨#[]⟩] := Dm
          clear Dm
          have y0 := blk_cell D.kB 0
          have q0 := blk_frozen D.kB 0
          have y1 := blk_cell D.kB 1
          have q1 := blk_frozen D.kB 1
          have y2 := blk_cell D.kB 2
          have q2 := blk_frozen D.kB 2
          have y3 := blk_cell D.kB 3
          have q3 := blk_frozen D.kB 3
          have y4 := blk_cell D.kB 4
          have q4 := blk_frozen D.kB 4
          have y5 := blk_cell D.kB 5
          have q5 := blk_frozen D.kB 5
          have y6 := blk_cell D.kB 6
          have q6 := blk_frozen D.kB 6
          have y7 := blk_cell D.kB 7
          have q7 := blk_frozen D.kB 7
          go_wp2_with fail
          obtain ⟨W9, hW9, k9, hb9⟩ := Ret8 D rfl noM
          simp only [noM] at hW9
          rw [← hW9]
          clear hW9
          exact bodyPost_ret (v := .tuple #[mv noM, .bool false]) (by simp [results, Tryz.results13, go_sem, blk_cell k9 0, blk_cell k9 1, blk_cell k9 2, blk_cell k9 3, blk_cell k9 4, blk_cell k9 5, blk_cell k9 6, blk_cell k9 7, mv, mA, noM]) rfl ⟨⟨noM, false, rfl, noM_sz, .inr ⟨rfl, rfl, hno.out⟩⟩, hb9⟩
        case true =>
          have hno : RowKit.Hid (decM 2 s.data.toList = none) := Lib.hid hdm.out
          replace he := Lib.hid he
          go_enter Tryz.func13, Tryz.ntmps13
          go_upto_region 2 with fail
          have D := DR_new w #[.int .i64 0, .string ⟨#[]⟩, .string ⟨#[]⟩, .string ⟨#[]⟩, .int .i64 0, .string ⟨#[]⟩, .string ⟨#[]⟩, .string ⟨#[]⟩] #[.int .i64 2, .string ⟨#[]⟩, .string ⟨#[]⟩, .string ⟨#[]⟩, .int .i64 0, .string ⟨#[]⟩, .string ⟨#[]⟩, .string ⟨#[]⟩]
          refine gen_world fun W hW => ?_
          rw [← hW] at D
          clear hW
          obtain ⟨R, hR0⟩ : ∃ R, R = w.heap.size := ⟨_, rfl⟩
          obtain ⟨A, hA⟩ : ∃ A, A = w.heap.size + 1 := ⟨_, rfl⟩
          rw [← hA, ← hR0] at D
          rw [← hA, ← hR0]
          clear hA hR0
          go_upto_region 17 with (go_at_call 35; refine (hSp _).mono ?_; rintro e w1 ⟨⟨g, cap, rfl, HO⟩, hb1⟩)
          obtain ⟨hgw, cur, hkg, hcur⟩ := own_blk HO
          have hgA : A < g := Nat.lt_of_lt_of_le (blk_lt D.kA) hgw
          replace D := D.grow hb1
          clear HO hgw
          have l0 := (blk_cell hkg 0).trans (hcur 0 (.string ⟨a.toArray⟩) rfl)
          go_upto_region 19 with (go_at_call 36; with_reducible refine (hp1.out _).mono ?_; rintro e w1 ⟨rfl, hb2⟩; have Dn := D.grow hb2; have zf := blk_frozen Dn.kA 2; have xf := blk_cell Dn.kA 2)
          replace hkg := grow_blk hb2 hkg
          have Dm := Dn.set 2 (.string ⟨X.toArray⟩)
          refine gen_world fun V3 hV3 => ?_
          rw [← hV3] at Dm
          replace hkg : V3.heap[g]? = some (.cells cur 9 (0, 0)) := by rw [hV3]; exact blk_far hkg (by simp; omega) _
          clear hV3 zf xf D Dn l0
          have D : DR w R A V3 #[.int .i64 0, .string ⟨#[]⟩, .string ⟨#[]⟩, .string ⟨#[]⟩, .int .i64 0, .string ⟨#[]⟩, .string ⟨#[]⟩, .string ⟨#[]⟩] #[.int .i64 2, .string ⟨#[]⟩, .string ⟨X.toArray⟩, .string ⟨#[]⟩, .int .i64 0, .string ⟨#[]⟩, .string ⟨#[]⟩, .string ⟨#[]⟩] := Dm
          clear Dm
          have l1 := (blk_cell hkg 1).trans (hcur 1 (.string ⟨b.toArray⟩) rfl)
          go_upto_region 20 with (go_at_call 36; with_reducible refine (hp2.out _).mono ?_; rintro e w4 ⟨rfl, hb5⟩; have Dn := D.grow hb5)
          clear l1
          replace D := Dn
          clear Dn
          replace hkg := grow_blk hb5 hkg
          go_upto_region 22 with (go_at_call 37; with_reducible refine (hd.out _).mono ?_; rintro e w6 ⟨rfl, hb7⟩; have Dn := D.grow hb7; have zf := blk_frozen Dn.kA 3; have xf := blk_cell Dn.kA 3)
          replace hkg := grow_blk hb7 hkg
          have Dm := Dn.set 3 (.string ⟨U.toArray⟩)
          refine gen_world fun V8 hV8 => ?_
          rw [← hV8] at Dm
          replace hkg : V8.heap[g]? = some (.cells cur 9 (0, 0)) := by rw [hV8]; exact blk_far hkg (by simp; omega) _
          clear hV8 zf xf D Dn 
          have D : DR w R A V8 #[.int .i64 0, .string ⟨#[]⟩, .string ⟨#[]⟩, .string ⟨#[]⟩, .int .i64 0, .string ⟨#[]⟩, .string ⟨#[]⟩, .string ⟨#[]⟩] #[.int .i64 2, .string ⟨#[]⟩, .string ⟨X.toArray⟩, .string ⟨U.toArray⟩, .int .i64 0, .string ⟨#[]⟩, .string ⟨#[]⟩, .string ⟨#[]⟩] := Dm
          clear Dm
          have l2 := (blk_cell hkg 2).trans (hcur 2 (.string ⟨c.toArray⟩) rfl)
          go_upto_region 24 with (go_at_call 36; with_reducible refine (hp3.out _).mono ?_; rintro e w9 ⟨rfl, hb10⟩; have Dn := D.grow hb10)
          clear l2
          replace D := Dn
          clear Dn
          replace hkg := grow_blk hb10 hkg
          have zf := blk_frozen D.kA 4
          have xf := blk_cell D.kA 4
          go_upto_region 41 with (go_at_call 38; with_reducible refine (hg.out _).mono ?_; rintro e w11 ⟨rfl, rfl⟩; have Dn := D)
          have Dm := Dn.set 4 (.int .i64 I)
          refine gen_world fun V13 hV13 => ?_
          rw [← hV13] at Dm
          replace hkg : V13.heap[g]? = some (.cells cur 9 (0, 0)) := by rw [hV13]; exact blk_far hkg (by simp; omega) _
          clear hV13 zf xf D Dn 
          have D : DR w R A V13 #[.int .i64 0, .string ⟨#[]⟩, .string ⟨#[]⟩, .string ⟨#[]⟩, .int .i64 0, .string ⟨#[]⟩, .string ⟨#[]⟩, .string ⟨#[]⟩] #[.int .i64 2, .string ⟨#[]⟩, .string ⟨X.toArray⟩, .string ⟨U.toArray⟩, .int .i64 I, .string ⟨#[]⟩, .string ⟨#[]⟩, .string ⟨#[]⟩] := Dm
          clear Dm
          have y0 := blk_cell D.kB 0
          have q0 := blk_frozen D.kB 0
          have y1 := blk_cell D.kB 1
          have q1 := blk_frozen D.kB 1
          have y2 := blk_cell D.kB 2
          have q2 := blk_frozen D.kB 2
          have y3 := blk_cell D.kB 3
          have q3 := blk_frozen D.kB 3
          have y4 := blk_cell D.kB 4
          have q4 := blk_frozen D.kB 4
          have y5 := blk_cell D.kB 5
          have q5 := blk_frozen D.kB 5
          have y6 := blk_cell D.kB 6
          have q6 := blk_frozen D.kB 6
          have y7 := blk_cell D.kB 7
          have q7 := blk_frozen D.kB 7
          go_wp2_with fail
          obtain ⟨W9, hW9, k9, hb9⟩ := Ret8 D rfl noM
          simp only [noM] at hW9
          rw [← hW9]
          clear hW9
          exact bodyPost_ret (v := .tuple #[mv noM, .bool false]) (by simp [results, Tryz.results13, go_sem, blk_cell k9 0, blk_cell k9 1, blk_cell k9 2, blk_cell k9 3, blk_cell k9 4, blk_cell k9 5, blk_cell k9 6, blk_cell k9 7, mv, mA, noM]) rfl ⟨⟨noM, false, rfl, noM_sz, .inr ⟨rfl, rfl, hno.out⟩⟩, hb9⟩
      case true =>
        cases b4
        case false =>
          have hno : RowKit.Hid (decM 2 s.data.toList = none) := Lib.hid hdm.out
          replace he := Lib.hid he
          go_enter Tryz.func13, Tryz.ntmps13
          go_upto_region 2 with fail
          have D := DR_new w #[.int .i64 0, .string ⟨#[]⟩, .string ⟨#[]⟩, .string ⟨#[]⟩, .int .i64 0, .string ⟨#[]⟩, .string ⟨#[]⟩, .string ⟨#[]⟩] #[.int .i64 2, .string ⟨#[]⟩, .string ⟨#[]⟩, .string ⟨#[]⟩, .int .i64 0, .string ⟨#[]⟩, .string ⟨#[]⟩, .string ⟨#[]⟩]
          refine gen_world fun W hW => ?_
          rw [← hW] at D
          clear hW
          obtain ⟨R, hR0⟩ : ∃ R, R = w.heap.size := ⟨_, rfl⟩
          obtain ⟨A, hA⟩ : ∃ A, A = w.heap.size + 1 := ⟨_, rfl⟩
          rw [← hA, ← hR0] at D
          rw [← hA, ← hR0]
          clear hA hR0
          go_upto_region 17 with (go_at_call 35; refine (hSp _).mono ?_; rintro e w1 ⟨⟨g, cap, rfl, HO⟩, hb1⟩)
          obtain ⟨hgw, cur, hkg, hcur⟩ := own_blk HO
          have hgA : A < g := Nat.lt_of_lt_of_le (blk_lt D.kA) hgw
          replace D := D.grow hb1
          clear HO hgw
          have l0 := (blk_cell hkg 0).trans (hcur 0 (.string ⟨a.toArray⟩) rfl)
          go_upto_region 19 with (go_at_call 36; with_reducible refine (hp1.out _).mono ?_; rintro e w1 ⟨rfl, hb2⟩; have Dn := D.grow hb2; have zf := blk_frozen Dn.kA 2; have xf := blk_cell Dn.kA 2)
          replace hkg := grow_blk hb2 hkg
          have Dm := Dn.set 2 (.string ⟨X.toArray⟩)
          refine gen_world fun V3 hV3 => ?_
          rw [← hV3] at Dm
          replace hkg : V3.heap[g]? = some (.cells cur 9 (0, 0)) := by rw [hV3]; exact blk_far hkg (by simp; omega) _
          clear hV3 zf xf D Dn l0
          have D : DR w R A V3 #[.int .i64 0, .string ⟨#[]⟩, .string ⟨#[]⟩, .string ⟨#[]⟩, .int .i64 0, .string ⟨#[]⟩, .string ⟨#[]⟩, .string ⟨#[]⟩] #[.int .i64 2, .string ⟨#[]⟩, .string ⟨X.toArray⟩, .string ⟨#[]⟩, .int .i64 0, .string ⟨#[]⟩, .string ⟨#[]⟩, .string ⟨#[]⟩] := Dm
          clear Dm
          have l1 := (blk_cell hkg 1).trans (hcur 1 (.string ⟨b.toArray⟩) rfl)
          go_upto_region 20 with (go_at_call 36; with_reducible refine (hp2.out _).mono ?_; rintro e w4 ⟨rfl, hb5⟩; have Dn := D.grow hb5)
          clear l1
          replace D := Dn
          clear Dn
          replace hkg := grow_blk hb5 hkg
          go_upto_region 22 with (go_at_call 37; with_reducible refine (hd.out _).mono ?_; rintro e w6 ⟨rfl, hb7⟩; have Dn := D.grow hb7; have zf := blk_frozen Dn.kA 3; have xf := blk_cell Dn.kA 3)
          replace hkg := grow_blk hb7 hkg
          have Dm := Dn.set 3 (.string ⟨U.toArray⟩)
          refine gen_world fun V8 hV8 => ?_
          rw [← hV8] at Dm
          replace hkg : V8.heap[g]? = some (.cells cur 9 (0, 0)) := by rw [hV8]; exact blk_far hkg (by simp; omega) _
          clear hV8 zf xf D Dn 
          have D : DR w R A V8 #[.int .i64 0, .string ⟨#[]⟩, .string ⟨#[]⟩, .string ⟨#[]⟩, .int .i64 0, .string ⟨#[]⟩, .string ⟨#[]⟩, .string ⟨#[]⟩] #[.int .i64 2, .string ⟨#[]⟩, .string ⟨X.toArray⟩, .string ⟨U.toArray⟩, .int .i64 0, .string ⟨#[]⟩, .string ⟨#[]⟩, .string ⟨#[]⟩] := Dm
          clear Dm
          have l2 := (blk_cell hkg 2).trans (hcur 2 (.string ⟨c.toArray⟩) rfl)
          go_upto_region 24 with (go_at_call 36; with_reducible refine (hp3.out _).mono ?_; rintro e w9 ⟨rfl, hb10⟩; have Dn := D.grow hb10)
          clear l2
          replace D := Dn
          clear Dn
          replace hkg := grow_blk hb10 hkg
          have zf := blk_frozen D.kA 4
          have xf := blk_cell D.kA 4
          go_upto_region 41 with (go_at_call 38; with_reducible refine (hg.out _).mono ?_; rintro e w11 ⟨rfl, rfl⟩; have Dn := D)
          have Dm := Dn.set 4 (.int .i64 I)
          refine gen_world fun V13 hV13 => ?_
          rw [← hV13] at Dm
          replace hkg : V13.heap[g]? = some (.cells cur 9 (0, 0)) := by rw [hV13]; exact blk_far hkg (by simp; omega) _
          clear hV13 zf xf D Dn 
          have D : DR w R A V13 #[.int .i64 0, .string ⟨#[]⟩, .string ⟨#[]⟩, .string ⟨#[]⟩, .int .i64 0, .string ⟨#[]⟩, .string ⟨#[]⟩, .string ⟨#[]⟩] #[.int .i64 2, .string ⟨#[]⟩, .string ⟨X.toArray⟩, .string ⟨U.toArray⟩, .int .i64 I, .string ⟨#[]⟩, .string ⟨#[]⟩, .string ⟨#[]⟩] := Dm
          clear Dm
          have y0 := blk_cell D.kB 0
          have q0 := blk_frozen D.kB 0
          have y1 := blk_cell D.kB 1
          have q1 := blk_frozen D.kB 1
          have y2 := blk_cell D.kB 2
          have q2 := blk_frozen D.kB 2
          have y3 := blk_cell D.kB 3
          have q3 := blk_frozen D.kB 3
          have y4 := blk_cell D.kB 4
          have q4 := blk_frozen D.kB 4
          have y5 := blk_cell D.kB 5
          have q5 := blk_frozen D.kB 5
          have y6 := blk_cell D.kB 6
          have q6 := blk_frozen D.kB 6
          have y7 := blk_cell D.kB 7
          have q7 := blk_frozen D.kB 7
          go_wp2_with fail
          obtain ⟨W9, hW9, k9, hb9⟩ := Ret8 D rfl noM
          simp only [noM] at hW9
          rw [← hW9]
          clear hW9
          exact bodyPost_ret (v := .tuple #[mv noM, .bool false]) (by simp [results, Tryz.results13, go_sem, blk_cell k9 0, blk_cell k9 1, blk_cell k9 2, blk_cell k9 3, blk_cell k9 4, blk_cell k9 5, blk_cell k9 6, blk_cell k9 7, mv, mA, noM]) rfl ⟨⟨noM, false, rfl, noM_sz, .inr ⟨rfl, rfl, hno.out⟩⟩, hb9⟩
        case true =>
          replace he := Lib.hid he
          go_enter Tryz.func13, Tryz.ntmps13
          go_upto_region 2 with fail
          have D := DR_new w #[.int .i64 0, .string ⟨#[]⟩, .string ⟨#[]⟩, .string ⟨#[]⟩, .int .i64 0, .string ⟨#[]⟩, .string ⟨#[]⟩, .string ⟨#[]⟩] #[.int .i64 2, .string ⟨#[]⟩, .string ⟨#[]⟩, .string ⟨#[]⟩, .int .i64 0, .string ⟨#[]⟩, .string ⟨#[]⟩, .string ⟨#[]⟩]
          refine gen_world fun W hW => ?_
          rw [← hW] at D
          clear hW
          obtain ⟨R, hR0⟩ : ∃ R, R = w.heap.size := ⟨_, rfl⟩
          obtain ⟨A, hA⟩ : ∃ A, A = w.heap.size + 1 := ⟨_, rfl⟩
          rw [← hA, ← hR0] at D
          rw [← hA, ← hR0]
          clear hA hR0
          go_upto_region 17 with (go_at_call 35; refine (hSp _).mono ?_; rintro e w1 ⟨⟨g, cap, rfl, HO⟩, hb1⟩)
          obtain ⟨hgw, cur, hkg, hcur⟩ := own_blk HO
          have hgA : A < g := Nat.lt_of_lt_of_le (blk_lt D.kA) hgw
          replace D := D.grow hb1
          clear HO hgw
          have l0 := (blk_cell hkg 0).trans (hcur 0 (.string ⟨a.toArray⟩) rfl)
          go_upto_region 19 with (go_at_call 36; with_reducible refine (hp1.out _).mono ?_; rintro e w1 ⟨rfl, hb2⟩; have Dn := D.grow hb2; have zf := blk_frozen Dn.kA 2; have xf := blk_cell Dn.kA 2)
          replace hkg := grow_blk hb2 hkg
          have Dm := Dn.set 2 (.string ⟨X.toArray⟩)
          refine gen_world fun V3 hV3 => ?_
          rw [← hV3] at Dm
          replace hkg : V3.heap[g]? = some (.cells cur 9 (0, 0)) := by rw [hV3]; exact blk_far hkg (by simp; omega) _
          clear hV3 zf xf D Dn l0
          have D : DR w R A V3 #[.int .i64 0, .string ⟨#[]⟩, .string ⟨#[]⟩, .string ⟨#[]⟩, .int .i64 0, .string ⟨#[]⟩, .string ⟨#[]⟩, .string ⟨#[]⟩] #[.int .i64 2, .string ⟨#[]⟩, .string ⟨X.toArray⟩, .string ⟨#[]⟩, .int .i64 0, .string ⟨#[]⟩, .string ⟨#[]⟩, .string ⟨#[]⟩] := Dm
          clear Dm
          have l1 := (blk_cell hkg 1).trans (hcur 1 (.string ⟨b.toArray⟩) rfl)
          go_upto_region 20 with (go_at_call 36; with_reducible refine (hp2.out _).mono ?_; rintro e w4 ⟨rfl, hb5⟩; have Dn := D.grow hb5)
          clear l1
          replace D := Dn
          clear Dn
          replace hkg := grow_blk hb5 hkg
          go_upto_region 22 with (go_at_call 37; with_reducible refine (hd.out _).mono ?_; rintro e w6 ⟨rfl, hb7⟩; have Dn := D.grow hb7; have zf := blk_frozen Dn.kA 3; have xf := blk_cell Dn.kA 3)
          replace hkg := grow_blk hb7 hkg
          have Dm := Dn.set 3 (.string ⟨U.toArray⟩)
          refine gen_world fun V8 hV8 => ?_
          rw [← hV8] at Dm
          replace hkg : V8.heap[g]? = some (.cells cur 9 (0, 0)) := by rw [hV8]; exact blk_far hkg (by simp; omega) _
          clear hV8 zf xf D Dn 
          have D : DR w R A V8 #[.int .i64 0, .string ⟨#[]⟩, .string ⟨#[]⟩, .string ⟨#[]⟩, .int .i64 0, .string ⟨#[]⟩, .string ⟨#[]⟩, .string ⟨#[]⟩] #[.int .i64 2, .string ⟨#[]⟩, .string ⟨X.toArray⟩, .string ⟨U.toArray⟩, .int .i64 0, .string ⟨#[]⟩, .string ⟨#[]⟩, .string ⟨#[]⟩] := Dm
          clear Dm
          have l2 := (blk_cell hkg 2).trans (hcur 2 (.string ⟨c.toArray⟩) rfl)
          go_upto_region 24 with (go_at_call 36; with_reducible refine (hp3.out _).mono ?_; rintro e w9 ⟨rfl, hb10⟩; have Dn := D.grow hb10)
          clear l2
          replace D := Dn
          clear Dn
          replace hkg := grow_blk hb10 hkg
          have zf := blk_frozen D.kA 4
          have xf := blk_cell D.kA 4
          go_upto_region 41 with (go_at_call 38; with_reducible refine (hg.out _).mono ?_; rintro e w11 ⟨rfl, rfl⟩; have Dn := D)
          have Dm := Dn.set 4 (.int .i64 I)
          refine gen_world fun V13 hV13 => ?_
          rw [← hV13] at Dm
          replace hkg : V13.heap[g]? = some (.cells cur 9 (0, 0)) := by rw [hV13]; exact blk_far hkg (by simp; omega) _
          clear hV13 zf xf D Dn 
          have D : DR w R A V13 #[.int .i64 0, .string ⟨#[]⟩, .string ⟨#[]⟩, .string ⟨#[]⟩, .int .i64 0, .string ⟨#[]⟩, .string ⟨#[]⟩, .string ⟨#[]⟩] #[.int .i64 2, .string ⟨#[]⟩, .string ⟨X.toArray⟩, .string ⟨U.toArray⟩, .int .i64 I, .string ⟨#[]⟩, .string ⟨#[]⟩, .string ⟨#[]⟩] := Dm
          clear Dm
          by_cases hr : rightM (toM ⟨2, ⟨#[]⟩, ⟨X.toArray⟩, ⟨U.toArray⟩, I, ⟨#[]⟩, ⟨#[]⟩, ⟨#[]⟩⟩)
          case neg =>
            have hno : RowKit.Hid (decM 2 s.data.toList = none) := Lib.hid (hdm.out.trans (if_neg hr))
            have hRg := fun w => rRight_c ⟨2, ⟨#[]⟩, ⟨X.toArray⟩, ⟨U.toArray⟩, I, ⟨#[]⟩, ⟨#[]⟩, ⟨#[]⟩⟩ hsz.big w
            rw [decide_eq_false hr] at hRg
            unfold mv at hRg
            replace hRg := Lib.hid hRg
            clear hr
            have x0 := blk_cell D.kA 0
            have x1 := blk_cell D.kA 1
            have x2 := blk_cell D.kA 2
            have x3 := blk_cell D.kA 3
            have x4 := blk_cell D.kA 4
            have x5 := blk_cell D.kA 5
            have x6 := blk_cell D.kA 6
            have x7 := blk_cell D.kA 7
            go_upto_region 42 with (go_at_call 9; refine (hRg.out _).mono ?_; rintro e w20 ⟨rfl, hb20⟩; have D2 := D.grow hb20)
            have y0 := blk_cell D2.kB 0
            have q0 := blk_frozen D2.kB 0
            have y1 := blk_cell D2.kB 1
            have q1 := blk_frozen D2.kB 1
            have y2 := blk_cell D2.kB 2
            have q2 := blk_frozen D2.kB 2
            have y3 := blk_cell D2.kB 3
            have q3 := blk_frozen D2.kB 3
            have y4 := blk_cell D2.kB 4
            have q4 := blk_frozen D2.kB 4
            have y5 := blk_cell D2.kB 5
            have q5 := blk_frozen D2.kB 5
            have y6 := blk_cell D2.kB 6
            have q6 := blk_frozen D2.kB 6
            have y7 := blk_cell D2.kB 7
            have q7 := blk_frozen D2.kB 7
            go_wp2_with fail
            obtain ⟨W9, hW9, k9, hb9⟩ := Ret8 D2 rfl noM
            simp only [noM] at hW9
            rw [← hW9]
            clear hW9
            exact bodyPost_ret (v := .tuple #[mv noM, .bool false]) (by simp [results, Tryz.results13, go_sem, blk_cell k9 0, blk_cell k9 1, blk_cell k9 2, blk_cell k9 3, blk_cell k9 4, blk_cell k9 5, blk_cell k9 6, blk_cell k9 7, mv, mA, noM]) rfl ⟨⟨noM, false, rfl, noM_sz, .inr ⟨rfl, rfl, hno.out⟩⟩, hb9⟩
          have hyes : RowKit.Hid (decM 2 s.data.toList = some (toM ⟨2, ⟨#[]⟩, ⟨X.toArray⟩, ⟨U.toArray⟩, I, ⟨#[]⟩, ⟨#[]⟩, ⟨#[]⟩⟩)) := Lib.hid (hdm.out.trans (if_pos hr))
          have hRg := fun w => rRight_c ⟨2, ⟨#[]⟩, ⟨X.toArray⟩, ⟨U.toArray⟩, I, ⟨#[]⟩, ⟨#[]⟩, ⟨#[]⟩⟩ hsz.big w
          rw [decide_eq_true hr] at hRg
          unfold mv at hRg
          replace hRg := Lib.hid hRg
          clear hr
          have x0 := blk_cell D.kA 0
          have x1 := blk_cell D.kA 1
          have x2 := blk_cell D.kA 2
          have x3 := blk_cell D.kA 3
          have x4 := blk_cell D.kA 4
          have x5 := blk_cell D.kA 5
          have x6 := blk_cell D.kA 6
          have x7 := blk_cell D.kA 7
          go_upto_region 43 with (go_at_call 9; refine (hRg.out _).mono ?_; rintro e w20 ⟨rfl, hb20⟩; have D2 := D.grow hb20)
          have y0 := blk_cell D2.kB 0
          have q0 := blk_frozen D2.kB 0
          have y1 := blk_cell D2.kB 1
          have q1 := blk_frozen D2.kB 1
          have y2 := blk_cell D2.kB 2
          have q2 := blk_frozen D2.kB 2
          have y3 := blk_cell D2.kB 3
          have q3 := blk_frozen D2.kB 3
          have y4 := blk_cell D2.kB 4
          have q4 := blk_frozen D2.kB 4
          have y5 := blk_cell D2.kB 5
          have q5 := blk_frozen D2.kB 5
          have y6 := blk_cell D2.kB 6
          have q6 := blk_frozen D2.kB 6
          have y7 := blk_cell D2.kB 7
          have q7 := blk_frozen D2.kB 7
          have p0 := blk_cell D2.kA 0
          have p1 := blk_cell D2.kA 1
          have p2 := blk_cell D2.kA 2
          have p3 := blk_cell D2.kA 3
          have p4 := blk_cell D2.kA 4
          have p5 := blk_cell D2.kA 5
          have p6 := blk_cell D2.kA 6
          have p7 := blk_cell D2.kA 7
          go_wp2_with fail
          obtain ⟨W9, hW9, k9, hb9⟩ := Ret8 D2 rfl ⟨2, ⟨#[]⟩, ⟨X.toArray⟩, ⟨U.toArray⟩, I, ⟨#[]⟩, ⟨#[]⟩, ⟨#[]⟩⟩
          simp only at hW9
          rw [← hW9]
          clear hW9
          exact bodyPost_ret (v := .tuple #[mv ⟨2, ⟨#[]⟩, ⟨X.toArray⟩, ⟨U.toArray⟩, I, ⟨#[]⟩, ⟨#[]⟩, ⟨#[]⟩⟩, .bool true]) (by simp [results, Tryz.results13, go_sem, blk_cell k9 0, blk_cell k9 1, blk_cell k9 2, blk_cell k9 3, blk_cell k9 4, blk_cell k9 5, blk_cell k9 6, blk_cell k9 7, mv, mA]) rfl ⟨⟨⟨2, ⟨#[]⟩, ⟨X.toArray⟩, ⟨U.toArray⟩, I, ⟨#[]⟩, ⟨#[]⟩, ⟨#[]⟩⟩, true, rfl, hsz, .inl ⟨rfl, hyes.out⟩⟩, hb9⟩
end Go.Proofs.YtjigckibbjfkmaaGreatDoor

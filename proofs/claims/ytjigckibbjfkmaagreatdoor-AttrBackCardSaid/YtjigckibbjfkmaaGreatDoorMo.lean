/- attr.Decode. -/
import Derived.Test.YtjigckibbjfkmaaGreatDoorMk
import Derived.Test.YtjigckibbjfkmaaGreatDoorMl
import Derived.Test.YtjigckibbjfkmaaGreatDoorMn
namespace Go.Proofs.YtjigckibbjfkmaaGreatDoor
open Go.RowKit
set_option maxRecDepth 100000
set_option linter.unusedSimpArgs false
set_option linter.unusedVariables false
theorem read_c (k : Int) (s : ByteArray) (hs : s.size ≤ 1000) (w : World) (he : Env w) : Calls Tryz.prog 34 #[.int .i64 k, .string s] w fun e w' => RdM k s.data.toList e ∧ Below w.heap.size w w' := by
  by_cases h1 : k = 1
  · subst h1; exact read_1 s hs w he
  by_cases h2 : k = 2
  · subst h2; exact read_2 s hs w he
  by_cases h3 : k = 3
  · subst h3; exact read_3 s hs w he
  exact read_0 k h1 h2 h3 s hs w he
/-- What Decode answers. -/
def DcM (k : Int) (l : List UInt8) (e : Ending) : Prop := ∃ (x : MsgS) (c : Int), e = .returned (.tuple #[mv x, .int .i64 c]) ∧ SzT x ∧ ((c = 0 ∧ decM k l = some (toM x)) ∨ (c = 4 ∧ x = noM ∧ decM k l = none))
theorem noM_sz : SzT noM := SzT_zero 0
/-- A message is written whole. -/
theorem Set8 {w W : World} {B A : Nat} {a b : Array Value} (h : DR w B A W a b) (hb : b = mA noM) (m : MsgS) : ∃ W3, W3 = (((((((W.setCell ⟨A, 0, none⟩ (.int .i64 m.k)).setCell ⟨A, 1, none⟩ (.string m.u)).setCell ⟨A, 2, none⟩ (.string m.n)).setCell ⟨A, 3, none⟩ (.string m.s)).setCell ⟨A, 4, none⟩ (.int .i64 m.i)).setCell ⟨A, 5, none⟩ (.string m.p)).setCell ⟨A, 6, none⟩ (.string m.g)).setCell ⟨A, 7, none⟩ (.string m.f) ∧ DR w B A W3 a (mA m) := by
  subst hb
  refine ⟨_, rfl, ?_⟩
  have h1 := h.set 0 (.int .i64 m.k)
  rw [mset0] at h1
  have h2 := h1.set 1 (.string m.u)
  rw [mset1] at h2
  have h3 := h2.set 2 (.string m.n)
  rw [mset2] at h3
  have h4 := h3.set 3 (.string m.s)
  rw [mset3] at h4
  have h5 := h4.set 4 (.int .i64 m.i)
  rw [mset4] at h5
  have h6 := h5.set 5 (.string m.p)
  rw [mset5] at h6
  have h7 := h6.set 6 (.string m.g)
  rw [mset6] at h7
  have h8 := h7.set 7 (.string m.f)
  rw [mset7] at h8
  exact h8
theorem DR_two (w W : World) (a b : Array Value) (B : Nat) (hB : W.heap[B]? = some (.cells a 23 (0, 0))) (hb : Below w.heap.size w W) (hBw : w.heap.size ≤ B) : DR w B W.heap.size (W.alloc (.cells b 23)) a b :=
  ⟨blk_alloc hB _, blk_new _ _, bl_alloc hb _, hBw, blk_lt hB⟩
set_option maxHeartbeats 8000000 in
theorem aDecode_c (k : Int) (s : ByteArray) (hs : s.size ≤ 1000) (w : World) (he : Env w) : Calls Tryz.prog 12 #[.int .i64 k, .string s] w fun e w' => DcM k s.data.toList e ∧ Below w.heap.size w w' := by
  have hRd := fun w he => read_c k s hs w he
  have hPD := prog_dec k s.data.toList
  unfold progM at hPD
  unfold DcM
  replace hRd := Lib.hid hRd
  replace hPD := Lib.hid hPD
  replace he := Lib.hid he
  go_enter Tryz.func12, Tryz.ntmps12
  go_upto_region 1 with fail
  have hR0 : (w.alloc (.cells #[.int .i64 0, .string ⟨#[]⟩, .string ⟨#[]⟩, .string ⟨#[]⟩, .int .i64 0, .string ⟨#[]⟩, .string ⟨#[]⟩, .string ⟨#[]⟩] 23)).heap[w.heap.size]? = some (.cells (mA noM) 23 (0, 0)) := blk_new _ _
  have hb0 : Below w.heap.size w (w.alloc (.cells #[.int .i64 0, .string ⟨#[]⟩, .string ⟨#[]⟩, .string ⟨#[]⟩, .int .i64 0, .string ⟨#[]⟩, .string ⟨#[]⟩, .string ⟨#[]⟩] 23)) := bl_alloc (Below.refl _ _) _
  refine gen_world fun W hW => ?_
  rw [← hW] at hR0 hb0
  clear hW
  have he0 := Lib.hid (he.out.below hb0)
  obtain ⟨R, hRq⟩ : ∃ R, R = w.heap.size := ⟨_, rfl⟩
  have hRw : w.heap.size ≤ R := by omega
  rw [← hRq] at hR0
  rw [← hRq]
  clear hRq
  go_upto_region 2 with (go_at_call 34; refine (hRd.out _ he0.out).mono ?_; rintro e w1 ⟨⟨⟨mk, mu, mn, ms, mi, mp, mg, mf⟩, b, rfl, hsz, hcase⟩, hb1⟩; unfold mv; have D := DR_two w w1 (mA noM) (mA ⟨mk, mu, mn, ms, mi, mp, mg, mf⟩) R (grow_blk hb1 hR0) (bl_call hb1 hb0) hRw)
  refine gen_world fun W4 hW4 => ?_
  have D3 : DR w R w1.heap.size W4 #[.int .i64 0, .string ⟨#[]⟩, .string ⟨#[]⟩, .string ⟨#[]⟩, .int .i64 0, .string ⟨#[]⟩, .string ⟨#[]⟩, .string ⟨#[]⟩] (mA ⟨mk, mu, mn, ms, mi, mp, mg, mf⟩) := by rw [hW4]; exact D
  clear hW4 D
  obtain ⟨A, hA⟩ : ∃ A, A = w1.heap.size := ⟨_, rfl⟩
  rw [← hA] at D3
  rw [← hA]
  clear hA
  have he3 := Lib.hid (he.out.below D3.hW)
  have hRg := fun w he => Right_c ⟨mk, mu, mn, ms, mi, mp, mg, mf⟩ hsz.big w he
  obtain ⟨m, hm⟩ : ∃ m : MsgS, m = ⟨mk, mu, mn, ms, mi, mp, mg, mf⟩ := ⟨_, rfl⟩
  rw [← hm] at hsz hcase D3 hRg
  have hmv : mv m = .agg #[.int .i64 mk, .string mu, .string mn, .string ms, .int .i64 mi, .string mp, .string mg, .string mf] := by rw [hm]; rfl
  have hmA : mA m = #[.int .i64 mk, .string mu, .string mn, .string ms, .int .i64 mi, .string mp, .string mg, .string mf] := by rw [hm]; rfl
  have hmf : mk = m.k ∧ mu = m.u ∧ mn = m.n ∧ ms = m.s ∧ mi = m.i ∧ mp = m.p ∧ mg = m.g ∧ mf = m.f := by rw [hm]; exact ⟨rfl, rfl, rfl, rfl, rfl, rfl, rfl, rfl⟩
  clear hm
  replace hmf := Lib.hid hmf
  rcases hcase with ⟨rfl, hrd⟩ | ⟨rfl, hrd⟩
  case inr =>
    have hno : RowKit.Hid (decM k s.data.toList = none) := Lib.hid (by have h := hPD.out; rw [hrd] at h; exact h.symm)
    clear hrd hPD hRg hsz
    have x0 := blk_cell D3.kA 0
    have x1 := blk_cell D3.kA 1
    have x2 := blk_cell D3.kA 2
    have x3 := blk_cell D3.kA 3
    have x4 := blk_cell D3.kA 4
    have x5 := blk_cell D3.kA 5
    have x6 := blk_cell D3.kA 6
    have x7 := blk_cell D3.kA 7
    rw [hmA] at x0 x1 x2 x3 x4 x5 x6 x7
    have y0 := blk_cell D3.kB 0
    have q0 := blk_frozen D3.kB 0
    have y1 := blk_cell D3.kB 1
    have q1 := blk_frozen D3.kB 1
    have y2 := blk_cell D3.kB 2
    have q2 := blk_frozen D3.kB 2
    have y3 := blk_cell D3.kB 3
    have q3 := blk_frozen D3.kB 3
    have y4 := blk_cell D3.kB 4
    have q4 := blk_frozen D3.kB 4
    have y5 := blk_cell D3.kB 5
    have q5 := blk_frozen D3.kB 5
    have y6 := blk_cell D3.kB 6
    have q6 := blk_frozen D3.kB 6
    have y7 := blk_cell D3.kB 7
    have q7 := blk_frozen D3.kB 7
    go_wp2_with fail
    obtain ⟨W9, hW9, k9, hb9⟩ := Ret8 D3 rfl noM
    simp only [noM] at hW9
    rw [← hW9]
    clear hW9
    exact bodyPost_ret (v := .tuple #[mv noM, .int .i64 4]) (by simp [results, Tryz.results12, go_sem, blk_cell k9 0, blk_cell k9 1, blk_cell k9 2, blk_cell k9 3, blk_cell k9 4, blk_cell k9 5, blk_cell k9 6, blk_cell k9 7, mv, mA, noM]) rfl ⟨⟨noM, 4, rfl, noM_sz, .inr ⟨rfl, rfl, hno.out⟩⟩, hb9⟩
  by_cases hr : rightM (toM m)
  case neg =>
    have hno : RowKit.Hid (decM k s.data.toList = none) := Lib.hid (by have h := hPD.out; rw [hrd] at h; rw [← h]; exact if_neg (fun q => hr q.1))
    rw [decide_eq_false hr, hmv] at hRg
    replace hRg := Lib.hid hRg
    clear hrd hPD hsz hr
    have x0 := blk_cell D3.kA 0
    have x1 := blk_cell D3.kA 1
    have x2 := blk_cell D3.kA 2
    have x3 := blk_cell D3.kA 3
    have x4 := blk_cell D3.kA 4
    have x5 := blk_cell D3.kA 5
    have x6 := blk_cell D3.kA 6
    have x7 := blk_cell D3.kA 7
    rw [hmA] at x0 x1 x2 x3 x4 x5 x6 x7
    go_upto_region 3 with (go_at_call 10; refine (hRg.out _ he3.out).mono ?_; rintro e w5 ⟨rfl, hb5⟩; have D5 := D3.grow hb5)
    have y0 := blk_cell D5.kB 0
    have q0 := blk_frozen D5.kB 0
    have y1 := blk_cell D5.kB 1
    have q1 := blk_frozen D5.kB 1
    have y2 := blk_cell D5.kB 2
    have q2 := blk_frozen D5.kB 2
    have y3 := blk_cell D5.kB 3
    have q3 := blk_frozen D5.kB 3
    have y4 := blk_cell D5.kB 4
    have q4 := blk_frozen D5.kB 4
    have y5 := blk_cell D5.kB 5
    have q5 := blk_frozen D5.kB 5
    have y6 := blk_cell D5.kB 6
    have q6 := blk_frozen D5.kB 6
    have y7 := blk_cell D5.kB 7
    have q7 := blk_frozen D5.kB 7
    go_wp2_with fail
    obtain ⟨W9, hW9, k9, hb9⟩ := Ret8 D5 rfl noM
    simp only [noM] at hW9
    rw [← hW9]
    clear hW9
    exact bodyPost_ret (v := .tuple #[mv noM, .int .i64 4]) (by simp [results, Tryz.results12, go_sem, blk_cell k9 0, blk_cell k9 1, blk_cell k9 2, blk_cell k9 3, blk_cell k9 4, blk_cell k9 5, blk_cell k9 6, blk_cell k9 7, mv, mA, noM]) rfl ⟨⟨noM, 4, rfl, noM_sz, .inr ⟨rfl, rfl, hno.out⟩⟩, hb9⟩
  have hT := fun w he => aText_c m hsz (right_iter hr) w he
  by_cases ht : txS m = s
  case neg =>
    have hno : RowKit.Hid (decM k s.data.toList = none) := Lib.hid (by
      have h := hPD.out
      rw [hrd] at h
      rw [← h]
      refine if_neg (fun q => ht ?_)
      unfold txS
      rw [q.2, Lib.mk_data])
    have d1 := differ_s ht
    have d2 : ¬ (txS m).toList = s.toList := beq_eq_false_iff_ne.1 d1
    rw [decide_eq_true hr, hmv] at hRg
    rw [hmv] at hT
    generalize txS m = T at hT d1 d2
    replace hRg := Lib.hid hRg
    replace hT := Lib.hid hT
    clear hrd hPD hsz hr ht
    have x0 := blk_cell D3.kA 0
    have x1 := blk_cell D3.kA 1
    have x2 := blk_cell D3.kA 2
    have x3 := blk_cell D3.kA 3
    have x4 := blk_cell D3.kA 4
    have x5 := blk_cell D3.kA 5
    have x6 := blk_cell D3.kA 6
    have x7 := blk_cell D3.kA 7
    rw [hmA] at x0 x1 x2 x3 x4 x5 x6 x7
    go_upto_region 3 with (first | (go_at_call 10; refine (hRg.out _ he3.out).mono ?_; rintro e w5 ⟨rfl, hb5⟩; have D5 := D3.grow hb5; have he5 := Lib.hid (he.out.below D5.hW); have g0 := blk_cell D5.kA 0; have g1 := blk_cell D5.kA 1; have g2 := blk_cell D5.kA 2; have g3 := blk_cell D5.kA 3; have g4 := blk_cell D5.kA 4; have g5 := blk_cell D5.kA 5; have g6 := blk_cell D5.kA 6; have g7 := blk_cell D5.kA 7; rw [hmA] at g0 g1 g2 g3 g4 g5 g6 g7) | (go_at_call 21; refine (hT.out _ he5.out).mono ?_; rintro e w6 ⟨rfl, hb6⟩; have D6 := D5.grow hb6))
    have y0 := blk_cell D6.kB 0
    have q0 := blk_frozen D6.kB 0
    have y1 := blk_cell D6.kB 1
    have q1 := blk_frozen D6.kB 1
    have y2 := blk_cell D6.kB 2
    have q2 := blk_frozen D6.kB 2
    have y3 := blk_cell D6.kB 3
    have q3 := blk_frozen D6.kB 3
    have y4 := blk_cell D6.kB 4
    have q4 := blk_frozen D6.kB 4
    have y5 := blk_cell D6.kB 5
    have q5 := blk_frozen D6.kB 5
    have y6 := blk_cell D6.kB 6
    have q6 := blk_frozen D6.kB 6
    have y7 := blk_cell D6.kB 7
    have q7 := blk_frozen D6.kB 7
    go_wp2_with fail
    obtain ⟨W9, hW9, k9, hb9⟩ := Ret8 D6 rfl noM
    simp only [noM] at hW9
    rw [← hW9]
    clear hW9
    exact bodyPost_ret (v := .tuple #[mv noM, .int .i64 4]) (by simp [results, Tryz.results12, go_sem, blk_cell k9 0, blk_cell k9 1, blk_cell k9 2, blk_cell k9 3, blk_cell k9 4, blk_cell k9 5, blk_cell k9 6, blk_cell k9 7, mv, mA, noM]) rfl ⟨⟨noM, 4, rfl, noM_sz, .inr ⟨rfl, rfl, hno.out⟩⟩, hb9⟩
  have hyes : RowKit.Hid (decM k s.data.toList = some (toM m)) := Lib.hid (by
    have h := hPD.out
    rw [hrd] at h
    rw [← h]
    refine if_pos ⟨hr, ?_⟩
    have := congrArg (fun b : ByteArray => b.data.toList) ht
    simpa [txS] using this)
  have d1 := same_s (rfl : s = s)
  rw [decide_eq_true hr, hmv] at hRg
  rw [hmv, ht] at hT
  replace hRg := Lib.hid hRg
  replace hT := Lib.hid hT
  clear hrd hPD hr ht
  have x0 := blk_cell D3.kA 0
  have x1 := blk_cell D3.kA 1
  have x2 := blk_cell D3.kA 2
  have x3 := blk_cell D3.kA 3
  have x4 := blk_cell D3.kA 4
  have x5 := blk_cell D3.kA 5
  have x6 := blk_cell D3.kA 6
  have x7 := blk_cell D3.kA 7
  rw [hmA] at x0 x1 x2 x3 x4 x5 x6 x7
  go_upto_region 4 with (first | (go_at_call 10; refine (hRg.out _ he3.out).mono ?_; rintro e w5 ⟨rfl, hb5⟩; have D5 := D3.grow hb5; have he5 := Lib.hid (he.out.below D5.hW); have g0 := blk_cell D5.kA 0; have g1 := blk_cell D5.kA 1; have g2 := blk_cell D5.kA 2; have g3 := blk_cell D5.kA 3; have g4 := blk_cell D5.kA 4; have g5 := blk_cell D5.kA 5; have g6 := blk_cell D5.kA 6; have g7 := blk_cell D5.kA 7; rw [hmA] at g0 g1 g2 g3 g4 g5 g6 g7) | (go_at_call 21; refine (hT.out _ he5.out).mono ?_; rintro e w6 ⟨rfl, hb6⟩; have D6 := D5.grow hb6))
  have y0 := blk_cell D6.kB 0
  have q0 := blk_frozen D6.kB 0
  have y1 := blk_cell D6.kB 1
  have q1 := blk_frozen D6.kB 1
  have y2 := blk_cell D6.kB 2
  have q2 := blk_frozen D6.kB 2
  have y3 := blk_cell D6.kB 3
  have q3 := blk_frozen D6.kB 3
  have y4 := blk_cell D6.kB 4
  have q4 := blk_frozen D6.kB 4
  have y5 := blk_cell D6.kB 5
  have q5 := blk_frozen D6.kB 5
  have y6 := blk_cell D6.kB 6
  have q6 := blk_frozen D6.kB 6
  have y7 := blk_cell D6.kB 7
  have q7 := blk_frozen D6.kB 7
  have p0 := blk_cell D6.kA 0
  have p1 := blk_cell D6.kA 1
  have p2 := blk_cell D6.kA 2
  have p3 := blk_cell D6.kA 3
  have p4 := blk_cell D6.kA 4
  have p5 := blk_cell D6.kA 5
  have p6 := blk_cell D6.kA 6
  have p7 := blk_cell D6.kA 7
  rw [hmA] at p0 p1 p2 p3 p4 p5 p6 p7
  go_wp2_with fail
  obtain ⟨W9, hW9, k9, hb9⟩ := Ret8 D6 rfl m
  obtain ⟨e0, e1, e2, e3, e4, e5, e6, e7⟩ := hmf.out
  rw [← e0, ← e1, ← e2, ← e3, ← e4, ← e5, ← e6, ← e7] at hW9
  rw [← hW9]
  clear hW9
  rw [hmA] at k9
  exact bodyPost_ret (v := .tuple #[mv m, .int .i64 0]) (by rw [hmv]; simp [results, Tryz.results12, go_sem, blk_cell k9 0, blk_cell k9 1, blk_cell k9 2, blk_cell k9 3, blk_cell k9 4, blk_cell k9 5, blk_cell k9 6, blk_cell k9 7]) rfl ⟨⟨m, 0, rfl, hsz, .inl ⟨rfl, hyes.out⟩⟩, hb9⟩
end Go.Proofs.YtjigckibbjfkmaaGreatDoor

/- Law 33: AttrAny, AttrBack. -/
import Derived.Test.YtjigckibbjfkmaaGreatDoorZt
import Derived.Test.YtjigckibbjfkmaaGreatDoorRze
namespace Go.Proofs.YtjigckibbjfkmaaGreatDoor
open Go.RowKit
set_option maxRecDepth 100000
set_option linter.unusedSimpArgs false
set_option linter.unusedVariables false
def ofM (m : Msg) : MsgS := ⟨m.k, ⟨m.u.toArray⟩, ⟨m.n.toArray⟩, ⟨m.s.toArray⟩, m.i, ⟨m.p.toArray⟩, ⟨m.g.toArray⟩, ⟨m.f.toArray⟩⟩
theorem to_of (m : Msg) : toM (ofM m) = m := rfl
theorem non_le {l : List UInt8} (hl : nonceOk l = true) : l.length ≤ 200 := by
  unfold nonceOk at hl
  simp only [Bool.and_eq_true, decide_eq_true_eq] at hl
  exact hl.2.2
theorem nam_le {l : List UInt8} (hl : nameOk l = true) : l.length ≤ 200 := by
  unfold nameOk at hl
  simp only [Bool.and_eq_true, decide_eq_true_eq] at hl
  exact hl.1.2.2
theorem fai_le {l : List UInt8} (hl : failOk l = true) : l.length ≤ 100 := by
  rw [failOk_is] at hl
  simp only [Bool.and_eq_true, decide_eq_true_eq] at hl
  exact hl.2.2
theorem nil_le {s : ByteArray} (h : s.data.toList = []) : s.size ≤ 2000 := by
  rw [← zlen, h]; exact Nat.zero_le _
theorem len_le {s : ByteArray} {n : Nat} (h : s.data.toList.length ≤ n) (hn : n ≤ 2000) : s.size ≤ 2000 := by
  rw [zlen] at h; omega
theorem right_sz (m : MsgS) (h : rightM (toM m)) : SzT m := by
  obtain ⟨k, u, n, s, i, p, g, f⟩ := m
  rcases h with q | q | q | q
  · obtain ⟨_, q2, _, q4, q5, q6, q7, q8⟩ := q
    exact ⟨len_le (nam_le q7) (by decide), len_le (non_le q8) (by decide), nil_le q2, nil_le q4, nil_le q5, nil_le q6⟩
  · obtain ⟨_, q2, q3, q4, q5, q6, q7, _⟩ := q
    exact ⟨nil_le q2, len_le (non_le q6) (by decide), len_le q7.2 (by decide), nil_le q3, nil_le q4, nil_le q5⟩
  · obtain ⟨_, q2, q3, _, q5, q6, q7, q8⟩ := q
    exact ⟨nil_le q2, len_le (non_le q7) (by decide), nil_le q3, len_le (Nat.le_of_eq q8) (by decide), nil_le q5, nil_le q6⟩
  · obtain ⟨_, q2, q3, q4, _, q6, q7⟩ := q
    rcases q7 with ⟨q8, q9⟩ | ⟨q8, q9⟩
    · exact ⟨nil_le q2, nil_le q3, nil_le q4, nil_le q6, len_le (Nat.le_of_eq q8) (by decide), nil_le q9⟩
    · exact ⟨nil_le q2, nil_le q3, nil_le q4, nil_le q6, nil_le q8, len_le (fai_le q9) (by decide)⟩
set_option maxHeartbeats 8000000 in
theorem AttrAny_c (s : ByteArray) (k : Int) (hs : s.size ≤ 140737488355328) (w : World) (he : Env w) : Calls Tryz.prog 4 #[.string s, .int .i64 k] w fun e w' => e = .returned (.bool true) ∧ Below w.heap.size w w' := by
  have hA := fun w he => awake33_c w he
  replace hA := Lib.hid hA
  by_cases h4 : s.size ≤ 700
  case neg =>
    have h4I : 700 < (s.size : Int) := by omega
    replace he := Lib.hid he
    go_enter Tryz.func4, Tryz.ntmps4
    go_wp2_with (go_at_call 6; refine (hA.out _ he.out).mono ?_; rintro e w5 ⟨rfl, hb5⟩)
    exact bodyPost_ret (v := .bool true) (by simp [results, Tryz.results4, go_sem]) rfl ⟨rfl, hb5⟩
  have h4I : ¬ 700 < (s.size : Int) := by omega
  have hD := fun w he => aDecode_c k s (by omega) w he
  have hR := fun w he => rDecode33_c k s (by omega) w he
  cases hd : decM k s.data.toList with
  | none =>
    have hD2 : ∀ w, Env w → Calls Tryz.prog 12 #[.int .i64 k, .string s] w fun e w' => e = .returned (.tuple #[.agg #[.int .i64 0, .string ⟨#[]⟩, .string ⟨#[]⟩, .string ⟨#[]⟩, .int .i64 0, .string ⟨#[]⟩, .string ⟨#[]⟩, .string ⟨#[]⟩], .int .i64 4]) ∧ Below w.heap.size w w' := by
      intro w he
      refine (hD w he).mono ?_
      rintro e w' ⟨⟨x, c, rfl, _, hc⟩, hb⟩
      rw [hd] at hc
      rcases hc with ⟨_, hx⟩ | ⟨rfl, rfl, _⟩
      · cases hx
      · exact ⟨rfl, hb⟩
    have hR2 : ∀ w, Env w → Calls Tryz.prog 13 #[.int .i64 k, .string s] w fun e w' => e = .returned (.tuple #[.agg #[.int .i64 0, .string ⟨#[]⟩, .string ⟨#[]⟩, .string ⟨#[]⟩, .int .i64 0, .string ⟨#[]⟩, .string ⟨#[]⟩, .string ⟨#[]⟩], .bool false]) ∧ Below w.heap.size w w' := by
      intro w he
      refine (hR w he).mono ?_
      rintro e w' ⟨⟨x, c, rfl, _, hc⟩, hb⟩
      rw [hd] at hc
      rcases hc with ⟨_, hx⟩ | ⟨rfl, rfl, _⟩
      · cases hx
      · exact ⟨rfl, hb⟩
    clear hD hR hd
    replace he := Lib.hid he
    replace hD2 := Lib.hid hD2
    replace hR2 := Lib.hid hR2
    go_enter Tryz.func4, Tryz.ntmps4
    go_upto_region 5 with (go_at_call 6; refine (hA.out _ he.out).mono ?_; rintro e w1 ⟨rfl, HB⟩; have he1 := Lib.hid (he.out.below HB))
    go_upto_region 6 with (go_at_call 12; refine (hD2.out _ he1.out).mono ?_; rintro e w2 ⟨rfl, hb2⟩; have kN := blk_new w2 (.cells #[.int .i64 0, .string ⟨#[]⟩, .string ⟨#[]⟩, .string ⟨#[]⟩, .int .i64 0, .string ⟨#[]⟩, .string ⟨#[]⟩, .string ⟨#[]⟩] 23); have HB2 := bl_alloc (bl_call hb2 HB) (.cells #[.int .i64 0, .string ⟨#[]⟩, .string ⟨#[]⟩, .string ⟨#[]⟩, .int .i64 0, .string ⟨#[]⟩, .string ⟨#[]⟩, .string ⟨#[]⟩] 23))
    refine gen_world fun W2 hW2 => ?_
    rw [← hW2] at kN HB2
    clear hW2
    obtain ⟨A, hA2⟩ : ∃ A, A = w2.heap.size := ⟨_, rfl⟩
    rw [← hA2] at kN
    rw [← hA2]
    clear hA2 hb2 HB he1
    have he2 := Lib.hid (he.out.below HB2)
    go_upto_region 7 with (go_at_call 13; refine (hR2.out _ he2.out).mono ?_; rintro e w3 ⟨rfl, hb3⟩; have kA := grow_blk hb3 kN; have kR := blk_new w3 (.cells #[.int .i64 0, .string ⟨#[]⟩, .string ⟨#[]⟩, .string ⟨#[]⟩, .int .i64 0, .string ⟨#[]⟩, .string ⟨#[]⟩, .string ⟨#[]⟩] 23); have HB3 := bl_alloc (bl_call hb3 HB2) (.cells #[.int .i64 0, .string ⟨#[]⟩, .string ⟨#[]⟩, .string ⟨#[]⟩, .int .i64 0, .string ⟨#[]⟩, .string ⟨#[]⟩, .string ⟨#[]⟩] 23); have kA2 := blk_alloc kA (.cells #[.int .i64 0, .string ⟨#[]⟩, .string ⟨#[]⟩, .string ⟨#[]⟩, .int .i64 0, .string ⟨#[]⟩, .string ⟨#[]⟩, .string ⟨#[]⟩] 23))
    refine gen_world fun W3 hW3 => ?_
    rw [← hW3] at kR HB3 kA2
    clear hW3
    obtain ⟨R, hR2⟩ : ∃ R, R = w3.heap.size := ⟨_, rfl⟩
    rw [← hR2] at kR
    rw [← hR2]
    clear hR2 hb3 HB2 he2 kA kN
    have he3 := Lib.hid (he.out.below HB3)
    have x0 := blk_cell kA2 0
    have y0 := blk_cell kR 0
    have x1 := blk_cell kA2 1
    have y1 := blk_cell kR 1
    have x2 := blk_cell kA2 2
    have y2 := blk_cell kR 2
    have x3 := blk_cell kA2 3
    have y3 := blk_cell kR 3
    have x4 := blk_cell kA2 4
    have y4 := blk_cell kR 4
    have x5 := blk_cell kA2 5
    have y5 := blk_cell kR 5
    have x6 := blk_cell kA2 6
    have y6 := blk_cell kR 6
    have x7 := blk_cell kA2 7
    have y7 := blk_cell kR 7
    go_wp2_with fail
    exact bodyPost_ret (v := .bool true) (by simp [results, Tryz.results4, go_sem]) rfl ⟨rfl, HB3⟩
  | some M =>
    obtain ⟨hr, ht, hk⟩ := decM_right _ _ _ hd
    obtain ⟨x, hx⟩ : ∃ x : MsgS, M = toM x := ⟨ofM M, (to_of M).symm⟩
    subst hx
    have hxz := right_sz x hr
    have hD2 : ∀ w, Env w → Calls Tryz.prog 12 #[.int .i64 k, .string s] w fun e w' => e = .returned (.tuple #[mv x, .int .i64 0]) ∧ Below w.heap.size w w' := by
      intro w he
      refine (hD w he).mono ?_
      rintro e w' ⟨⟨y, c, rfl, _, hc⟩, hb⟩
      rw [hd] at hc
      rcases hc with ⟨rfl, hx⟩ | ⟨_, _, hx⟩
      · rw [toM_inj (Option.some.inj hx)]; exact ⟨rfl, hb⟩
      · cases hx
    have hR2 : ∀ w, Env w → Calls Tryz.prog 13 #[.int .i64 k, .string s] w fun e w' => e = .returned (.tuple #[mv x, .bool true]) ∧ Below w.heap.size w w' := by
      intro w he
      refine (hR w he).mono ?_
      rintro e w' ⟨⟨y, c, rfl, _, hc⟩, hb⟩
      rw [hd] at hc
      rcases hc with ⟨rfl, hx⟩ | ⟨_, _, hx⟩
      · rw [toM_inj (Option.some.inj hx)]; exact ⟨rfl, hb⟩
      · cases hx
    have hE := fun w he => aEncode_c x hxz w he
    have hV : encV x = .tuple #[.string s, .int .i64 0] := by
      unfold encV
      rw [if_pos hr]
      unfold txS
      rw [ht, Lib.mk_data]
    rw [hV] at hE
    clear hD hR hd hr ht hk hV hxz
    obtain ⟨xk, xu, xn, xs, xi, xp, xg, xf⟩ := x
    unfold mv at hD2 hR2 hE
    simp only at hD2 hR2 hE
    replace he := Lib.hid he
    replace hD2 := Lib.hid hD2
    replace hR2 := Lib.hid hR2
    replace hE := Lib.hid hE
    go_enter Tryz.func4, Tryz.ntmps4
    go_upto_region 5 with (go_at_call 6; refine (hA.out _ he.out).mono ?_; rintro e w1 ⟨rfl, HB⟩; have he1 := Lib.hid (he.out.below HB))
    go_upto_region 6 with (go_at_call 12; refine (hD2.out _ he1.out).mono ?_; rintro e w2 ⟨rfl, hb2⟩; have kN := blk_new w2 (.cells #[.int .i64 xk, .string xu, .string xn, .string xs, .int .i64 xi, .string xp, .string xg, .string xf] 23); have HB2 := bl_alloc (bl_call hb2 HB) (.cells #[.int .i64 xk, .string xu, .string xn, .string xs, .int .i64 xi, .string xp, .string xg, .string xf] 23))
    refine gen_world fun W2 hW2 => ?_
    rw [← hW2] at kN HB2
    clear hW2
    obtain ⟨A, hA2⟩ : ∃ A, A = w2.heap.size := ⟨_, rfl⟩
    rw [← hA2] at kN
    rw [← hA2]
    clear hA2 hb2 HB he1
    have he2 := Lib.hid (he.out.below HB2)
    go_upto_region 7 with (go_at_call 13; refine (hR2.out _ he2.out).mono ?_; rintro e w3 ⟨rfl, hb3⟩; have kA := grow_blk hb3 kN; have kR := blk_new w3 (.cells #[.int .i64 xk, .string xu, .string xn, .string xs, .int .i64 xi, .string xp, .string xg, .string xf] 23); have HB3 := bl_alloc (bl_call hb3 HB2) (.cells #[.int .i64 xk, .string xu, .string xn, .string xs, .int .i64 xi, .string xp, .string xg, .string xf] 23); have kA2 := blk_alloc kA (.cells #[.int .i64 xk, .string xu, .string xn, .string xs, .int .i64 xi, .string xp, .string xg, .string xf] 23))
    refine gen_world fun W3 hW3 => ?_
    rw [← hW3] at kR HB3 kA2
    clear hW3
    obtain ⟨R, hR2⟩ : ∃ R, R = w3.heap.size := ⟨_, rfl⟩
    rw [← hR2] at kR
    rw [← hR2]
    clear hR2 hb3 HB2 he2 kA kN
    have he3 := Lib.hid (he.out.below HB3)
    have x0 := blk_cell kA2 0
    have y0 := blk_cell kR 0
    have x1 := blk_cell kA2 1
    have y1 := blk_cell kR 1
    have x2 := blk_cell kA2 2
    have y2 := blk_cell kR 2
    have x3 := blk_cell kA2 3
    have y3 := blk_cell kR 3
    have x4 := blk_cell kA2 4
    have y4 := blk_cell kR 4
    have x5 := blk_cell kA2 5
    have y5 := blk_cell kR 5
    have x6 := blk_cell kA2 6
    have y6 := blk_cell kR 6
    have x7 := blk_cell kA2 7
    have y7 := blk_cell kR 7
    go_upto_region 10 with (go_at_call 8; refine (hE.out _ he3.out).mono ?_; rintro e w4 ⟨rfl, hb4⟩; have kA3 := grow_blk hb4 kA2; have kR3 := grow_blk hb4 kR; have HB4 := bl_call hb4 HB3)
    have g0 := blk_cell kA3 0
    have h0 := blk_cell kR3 0
    have g1 := blk_cell kA3 1
    have h1 := blk_cell kR3 1
    have g2 := blk_cell kA3 2
    have h2 := blk_cell kR3 2
    have g3 := blk_cell kA3 3
    have h3 := blk_cell kR3 3
    have g4 := blk_cell kA3 4
    have h4 := blk_cell kR3 4
    have g5 := blk_cell kA3 5
    have h5 := blk_cell kR3 5
    have g6 := blk_cell kA3 6
    have h6 := blk_cell kR3 6
    have g7 := blk_cell kA3 7
    have h7 := blk_cell kR3 7
    go_wp2_with fail
    exact bodyPost_ret (v := .bool true) (by simp [results, Tryz.results4, go_sem]) rfl ⟨rfl, HB4⟩
def shortB (m : MsgS) : Bool := decide (m.u.size + m.n.size + m.s.size ≤ 700 ∧ m.p.size ≤ 100 ∧ m.g.size ≤ 100 ∧ m.f.size ≤ 200)
theorem short_sz (m : MsgS) (h : shortB m = true) : SzT m := by
  have := of_decide_eq_true h
  exact ⟨by omega, by omega, by omega, by omega, by omega, by omega⟩
theorem short_c (m : MsgS) (hz : m.u.size ≤ 140737488355328 ∧ m.n.size ≤ 140737488355328 ∧ m.s.size ≤ 140737488355328) (w : World) : Calls Tryz.prog 7 #[mv m] w fun e w' => e = .returned (.bool (shortB m)) ∧ Below w.heap.size w w' := by
  obtain ⟨k, u, n, s, i, p, g, f⟩ := m
  simp only at hz
  obtain ⟨z1, z2, z3⟩ := hz
  unfold mv shortB
  simp only
  by_cases h1 : u.size + n.size + s.size ≤ 700
  · have h1I : (u.size : Int) + (n.size : Int) + (s.size : Int) ≤ 700 := by omega
    by_cases h2 : p.size ≤ 100
    · have h2I : (p.size : Int) ≤ 100 := by omega
      by_cases h3 : g.size ≤ 100
      · have h3I : (g.size : Int) ≤ 100 := by omega
        by_cases h4 : f.size ≤ 200
        · have h4I : (f.size : Int) ≤ 200 := by omega
          have hT : decide (u.size + n.size + s.size ≤ 700 ∧ p.size ≤ 100 ∧ g.size ≤ 100 ∧ f.size ≤ 200) = true := decide_eq_true ⟨h1, h2, h3, h4⟩
          rw [hT]
          clear hT
          go_enter Tryz.func7, Tryz.ntmps7
          go_upto_region 1 with fail
          refine gen_world fun W hW => ?_
          have hk_ : W.heap[w.heap.size]? = some (.cells (mA ⟨k, u, n, s, i, p, g, f⟩) 23 (0, 0)) := by subst hW; exact blk_new _ _
          have hAb : Below w.heap.size w W := by subst hW; (repeat (first | exact Below.refl _ _ | (refine bl_alloc ?_ _) | (refine bl_drewN ?_ _) | (refine bl_drew ?_) | (refine bl_call (by assumption) ?_) | (refine bl_set _ _ (by simp <;> omega) ?_) | assumption))
          clear hW
          have b1 : W.cell? ⟨w.heap.size, 1, none⟩ = some (.string u) := blk_cell hk_ 1
          have b2 : W.cell? ⟨w.heap.size, 2, none⟩ = some (.string n) := blk_cell hk_ 2
          have b3 : W.cell? ⟨w.heap.size, 3, none⟩ = some (.string s) := blk_cell hk_ 3
          have b5 : W.cell? ⟨w.heap.size, 5, none⟩ = some (.string p) := blk_cell hk_ 5
          have b6 : W.cell? ⟨w.heap.size, 6, none⟩ = some (.string g) := blk_cell hk_ 6
          have b7 : W.cell? ⟨w.heap.size, 7, none⟩ = some (.string f) := blk_cell hk_ 7
          clear hk_
          go_wp2_with fail
          exact bodyPost_ret (v := .bool true) (by simp [results, Tryz.results7, go_sem]) rfl ⟨rfl, hAb⟩
        · have h4I : ¬ (f.size : Int) ≤ 200 := by omega
          have hT : decide (u.size + n.size + s.size ≤ 700 ∧ p.size ≤ 100 ∧ g.size ≤ 100 ∧ f.size ≤ 200) = false := decide_eq_false (fun q => h4 q.2.2.2)
          rw [hT]
          clear hT
          go_enter Tryz.func7, Tryz.ntmps7
          go_upto_region 1 with fail
          refine gen_world fun W hW => ?_
          have hk_ : W.heap[w.heap.size]? = some (.cells (mA ⟨k, u, n, s, i, p, g, f⟩) 23 (0, 0)) := by subst hW; exact blk_new _ _
          have hAb : Below w.heap.size w W := by subst hW; (repeat (first | exact Below.refl _ _ | (refine bl_alloc ?_ _) | (refine bl_drewN ?_ _) | (refine bl_drew ?_) | (refine bl_call (by assumption) ?_) | (refine bl_set _ _ (by simp <;> omega) ?_) | assumption))
          clear hW
          have b1 : W.cell? ⟨w.heap.size, 1, none⟩ = some (.string u) := blk_cell hk_ 1
          have b2 : W.cell? ⟨w.heap.size, 2, none⟩ = some (.string n) := blk_cell hk_ 2
          have b3 : W.cell? ⟨w.heap.size, 3, none⟩ = some (.string s) := blk_cell hk_ 3
          have b5 : W.cell? ⟨w.heap.size, 5, none⟩ = some (.string p) := blk_cell hk_ 5
          have b6 : W.cell? ⟨w.heap.size, 6, none⟩ = some (.string g) := blk_cell hk_ 6
          have b7 : W.cell? ⟨w.heap.size, 7, none⟩ = some (.string f) := blk_cell hk_ 7
          clear hk_
          go_wp2_with fail
          exact bodyPost_ret (v := .bool false) (by simp [results, Tryz.results7, go_sem]) rfl ⟨rfl, hAb⟩
      · have h3I : ¬ (g.size : Int) ≤ 100 := by omega
        have hT : decide (u.size + n.size + s.size ≤ 700 ∧ p.size ≤ 100 ∧ g.size ≤ 100 ∧ f.size ≤ 200) = false := decide_eq_false (fun q => h3 q.2.2.1)
        rw [hT]
        clear hT
        go_enter Tryz.func7, Tryz.ntmps7
        go_upto_region 1 with fail
        refine gen_world fun W hW => ?_
        have hk_ : W.heap[w.heap.size]? = some (.cells (mA ⟨k, u, n, s, i, p, g, f⟩) 23 (0, 0)) := by subst hW; exact blk_new _ _
        have hAb : Below w.heap.size w W := by subst hW; (repeat (first | exact Below.refl _ _ | (refine bl_alloc ?_ _) | (refine bl_drewN ?_ _) | (refine bl_drew ?_) | (refine bl_call (by assumption) ?_) | (refine bl_set _ _ (by simp <;> omega) ?_) | assumption))
        clear hW
        have b1 : W.cell? ⟨w.heap.size, 1, none⟩ = some (.string u) := blk_cell hk_ 1
        have b2 : W.cell? ⟨w.heap.size, 2, none⟩ = some (.string n) := blk_cell hk_ 2
        have b3 : W.cell? ⟨w.heap.size, 3, none⟩ = some (.string s) := blk_cell hk_ 3
        have b5 : W.cell? ⟨w.heap.size, 5, none⟩ = some (.string p) := blk_cell hk_ 5
        have b6 : W.cell? ⟨w.heap.size, 6, none⟩ = some (.string g) := blk_cell hk_ 6
        have b7 : W.cell? ⟨w.heap.size, 7, none⟩ = some (.string f) := blk_cell hk_ 7
        clear hk_
        go_wp2_with fail
        exact bodyPost_ret (v := .bool false) (by simp [results, Tryz.results7, go_sem]) rfl ⟨rfl, hAb⟩
    · have h2I : ¬ (p.size : Int) ≤ 100 := by omega
      have hT : decide (u.size + n.size + s.size ≤ 700 ∧ p.size ≤ 100 ∧ g.size ≤ 100 ∧ f.size ≤ 200) = false := decide_eq_false (fun q => h2 q.2.1)
      rw [hT]
      clear hT
      go_enter Tryz.func7, Tryz.ntmps7
      go_upto_region 1 with fail
      refine gen_world fun W hW => ?_
      have hk_ : W.heap[w.heap.size]? = some (.cells (mA ⟨k, u, n, s, i, p, g, f⟩) 23 (0, 0)) := by subst hW; exact blk_new _ _
      have hAb : Below w.heap.size w W := by subst hW; (repeat (first | exact Below.refl _ _ | (refine bl_alloc ?_ _) | (refine bl_drewN ?_ _) | (refine bl_drew ?_) | (refine bl_call (by assumption) ?_) | (refine bl_set _ _ (by simp <;> omega) ?_) | assumption))
      clear hW
      have b1 : W.cell? ⟨w.heap.size, 1, none⟩ = some (.string u) := blk_cell hk_ 1
      have b2 : W.cell? ⟨w.heap.size, 2, none⟩ = some (.string n) := blk_cell hk_ 2
      have b3 : W.cell? ⟨w.heap.size, 3, none⟩ = some (.string s) := blk_cell hk_ 3
      have b5 : W.cell? ⟨w.heap.size, 5, none⟩ = some (.string p) := blk_cell hk_ 5
      have b6 : W.cell? ⟨w.heap.size, 6, none⟩ = some (.string g) := blk_cell hk_ 6
      have b7 : W.cell? ⟨w.heap.size, 7, none⟩ = some (.string f) := blk_cell hk_ 7
      clear hk_
      go_wp2_with fail
      exact bodyPost_ret (v := .bool false) (by simp [results, Tryz.results7, go_sem]) rfl ⟨rfl, hAb⟩
  · have h1I : ¬ (u.size : Int) + (n.size : Int) + (s.size : Int) ≤ 700 := by omega
    have hT : decide (u.size + n.size + s.size ≤ 700 ∧ p.size ≤ 100 ∧ g.size ≤ 100 ∧ f.size ≤ 200) = false := decide_eq_false (fun q => h1 q.1)
    rw [hT]
    clear hT
    go_enter Tryz.func7, Tryz.ntmps7
    go_upto_region 1 with fail
    refine gen_world fun W hW => ?_
    have hk_ : W.heap[w.heap.size]? = some (.cells (mA ⟨k, u, n, s, i, p, g, f⟩) 23 (0, 0)) := by subst hW; exact blk_new _ _
    have hAb : Below w.heap.size w W := by subst hW; (repeat (first | exact Below.refl _ _ | (refine bl_alloc ?_ _) | (refine bl_drewN ?_ _) | (refine bl_drew ?_) | (refine bl_call (by assumption) ?_) | (refine bl_set _ _ (by simp <;> omega) ?_) | assumption))
    clear hW
    have b1 : W.cell? ⟨w.heap.size, 1, none⟩ = some (.string u) := blk_cell hk_ 1
    have b2 : W.cell? ⟨w.heap.size, 2, none⟩ = some (.string n) := blk_cell hk_ 2
    have b3 : W.cell? ⟨w.heap.size, 3, none⟩ = some (.string s) := blk_cell hk_ 3
    have b5 : W.cell? ⟨w.heap.size, 5, none⟩ = some (.string p) := blk_cell hk_ 5
    have b6 : W.cell? ⟨w.heap.size, 6, none⟩ = some (.string g) := blk_cell hk_ 6
    have b7 : W.cell? ⟨w.heap.size, 7, none⟩ = some (.string f) := blk_cell hk_ 7
    clear hk_
    go_wp2_with fail
    exact bodyPost_ret (v := .bool false) (by simp [results, Tryz.results7, go_sem]) rfl ⟨rfl, hAb⟩
set_option maxHeartbeats 8000000 in
theorem AttrBack_c (m : MsgS) (hz : m.u.size ≤ 140737488355328 ∧ m.n.size ≤ 140737488355328 ∧ m.s.size ≤ 140737488355328) (w : World) (he : Env w) : Calls Tryz.prog 3 #[mv m] w fun e w' => e = .returned (.bool true) ∧ Below w.heap.size w w' := by
  have hA := fun w he => awake33_c w he
  have hS := fun w => short_c m hz w
  clear hz
  have hSz := short_sz m
  replace hA := Lib.hid hA
  cases hsb : shortB m
  case false =>
    rw [hsb] at hS
    clear hSz hsb
    obtain ⟨xk, xu, xn, xs, xi, xp, xg, xf⟩ := m
    unfold mv at hS ⊢
    simp only at hS ⊢
    replace he := Lib.hid he
    replace hS := Lib.hid hS
    go_enter Tryz.func3, Tryz.ntmps3
    go_upto_region 1 with fail
    refine gen_world fun W hW => ?_
    have kA0 : W.heap[w.heap.size]? = some (.cells #[.int .i64 xk, .string xu, .string xn, .string xs, .int .i64 xi, .string xp, .string xg, .string xf] 23 (0, 0)) := by subst hW; exact blk_new _ _
    have HB0 : Below w.heap.size w W := by subst hW; (repeat (first | exact Below.refl _ _ | (refine bl_alloc ?_ _) | (refine bl_drewN ?_ _) | (refine bl_drew ?_) | (refine bl_call (by assumption) ?_) | (refine bl_set _ _ (by simp <;> omega) ?_) | assumption))
    clear hW
    obtain ⟨A, hA2⟩ : ∃ A, A = w.heap.size := ⟨_, rfl⟩
    rw [← hA2] at kA0
    rw [← hA2]
    clear hA2
    have he0 := Lib.hid (he.out.below HB0)
    go_upto_region 3 with (go_at_call 6; refine (hA.out _ he0.out).mono ?_; rintro e w1 ⟨rfl, hb1⟩; have kA := grow_blk hb1 kA0; have HB := bl_call hb1 HB0; have he1 := Lib.hid (he.out.below HB))
    clear kA0 HB0 he0 hb1
    have x0 := blk_cell kA 0
    have x1 := blk_cell kA 1
    have x2 := blk_cell kA 2
    have x3 := blk_cell kA 3
    have x4 := blk_cell kA 4
    have x5 := blk_cell kA 5
    have x6 := blk_cell kA 6
    have x7 := blk_cell kA 7
    go_wp2_with (go_at_call 7; refine (hS.out _).mono ?_; rintro e w2 ⟨rfl, hb2⟩)
    exact bodyPost_ret (v := .bool true) (by simp [results, Tryz.results3, go_sem]) rfl ⟨rfl, bl_call hb2 HB⟩
  rw [hsb] at hS
  replace hSz := hSz hsb
  clear hsb
  have hE := fun w he => aEncode_c m hSz w he
  have hR := fun w he => Right_c m hSz.big w he
  have hR2 := fun w => rRight_c m hSz.big w
  by_cases hr : rightM (toM m)
  case neg =>
    rw [decide_eq_false hr] at hR hR2
    unfold encV at hE
    rw [if_neg hr] at hE
    clear hr hSz
    obtain ⟨xk, xu, xn, xs, xi, xp, xg, xf⟩ := m
    unfold mv at hS hE hR hR2 ⊢
    simp only at hS hE hR hR2 ⊢
    replace he := Lib.hid he
    replace hS := Lib.hid hS
    replace hE := Lib.hid hE
    replace hR := Lib.hid hR
    replace hR2 := Lib.hid hR2
    go_enter Tryz.func3, Tryz.ntmps3
    go_upto_region 1 with fail
    refine gen_world fun W hW => ?_
    have kA0 : W.heap[w.heap.size]? = some (.cells #[.int .i64 xk, .string xu, .string xn, .string xs, .int .i64 xi, .string xp, .string xg, .string xf] 23 (0, 0)) := by subst hW; exact blk_new _ _
    have HB0 : Below w.heap.size w W := by subst hW; (repeat (first | exact Below.refl _ _ | (refine bl_alloc ?_ _) | (refine bl_drewN ?_ _) | (refine bl_drew ?_) | (refine bl_call (by assumption) ?_) | (refine bl_set _ _ (by simp <;> omega) ?_) | assumption))
    clear hW
    obtain ⟨A, hA2⟩ : ∃ A, A = w.heap.size := ⟨_, rfl⟩
    rw [← hA2] at kA0
    rw [← hA2]
    clear hA2
    have he0 := Lib.hid (he.out.below HB0)
    go_upto_region 3 with (go_at_call 6; refine (hA.out _ he0.out).mono ?_; rintro e w1 ⟨rfl, hb1⟩; have kA := grow_blk hb1 kA0; have HB := bl_call hb1 HB0; have he1 := Lib.hid (he.out.below HB))
    clear kA0 HB0 he0 hb1
    have x0 := blk_cell kA 0
    have x1 := blk_cell kA 1
    have x2 := blk_cell kA 2
    have x3 := blk_cell kA 3
    have x4 := blk_cell kA 4
    have x5 := blk_cell kA 5
    have x6 := blk_cell kA 6
    have x7 := blk_cell kA 7
    go_upto_region 5 with (go_at_call 7; refine (hS.out _).mono ?_; rintro e v1 ⟨rfl, hc1⟩; have kN := grow_blk hc1 kA; have HBN := bl_call hc1 HB; have heN := Lib.hid (he.out.below HBN))
    clear x0 x1 x2 x3 x4 x5 x6 x7
    replace kA := kN
    replace HB := HBN
    replace he1 := heN
    clear kN HBN heN hc1
    have x0 := blk_cell kA 0
    have x1 := blk_cell kA 1
    have x2 := blk_cell kA 2
    have x3 := blk_cell kA 3
    have x4 := blk_cell kA 4
    have x5 := blk_cell kA 5
    have x6 := blk_cell kA 6
    have x7 := blk_cell kA 7
    go_upto_region 6 with (go_at_call 8; refine (hE.out _ he1.out).mono ?_; rintro e v2 ⟨rfl, hc2⟩; have kN := grow_blk hc2 kA; have HBN := bl_call hc2 HB; have heN := Lib.hid (he.out.below HBN))
    clear x0 x1 x2 x3 x4 x5 x6 x7
    replace kA := kN
    replace HB := HBN
    replace he1 := heN
    clear kN HBN heN hc2
    have x0 := blk_cell kA 0
    have x1 := blk_cell kA 1
    have x2 := blk_cell kA 2
    have x3 := blk_cell kA 3
    have x4 := blk_cell kA 4
    have x5 := blk_cell kA 5
    have x6 := blk_cell kA 6
    have x7 := blk_cell kA 7
    go_upto_region 7 with (go_at_call 9; refine (hR2.out _).mono ?_; rintro e v3 ⟨rfl, hc3⟩; have kN := grow_blk hc3 kA; have HBN := bl_call hc3 HB; have heN := Lib.hid (he.out.below HBN))
    clear x0 x1 x2 x3 x4 x5 x6 x7
    replace kA := kN
    replace HB := HBN
    replace he1 := heN
    clear kN HBN heN hc3
    have x0 := blk_cell kA 0
    have x1 := blk_cell kA 1
    have x2 := blk_cell kA 2
    have x3 := blk_cell kA 3
    have x4 := blk_cell kA 4
    have x5 := blk_cell kA 5
    have x6 := blk_cell kA 6
    have x7 := blk_cell kA 7
    go_upto_region 9 with (go_at_call 10; refine (hR.out _ he1.out).mono ?_; rintro e v4 ⟨rfl, hc4⟩; have kN := grow_blk hc4 kA; have HBN := bl_call hc4 HB; have heN := Lib.hid (he.out.below HBN))
    clear x0 x1 x2 x3 x4 x5 x6 x7
    replace kA := kN
    replace HB := HBN
    replace he1 := heN
    clear kN HBN heN hc4
    have x0 := blk_cell kA 0
    have x1 := blk_cell kA 1
    have x2 := blk_cell kA 2
    have x3 := blk_cell kA 3
    have x4 := blk_cell kA 4
    have x5 := blk_cell kA 5
    have x6 := blk_cell kA 6
    have x7 := blk_cell kA 7
    go_wp2_with fail
    exact bodyPost_ret (v := .bool true) (by simp [results, Tryz.results3, go_sem]) rfl ⟨rfl, HB⟩
  rw [decide_eq_true hr] at hR hR2
  unfold encV at hE
  rw [if_pos hr] at hE
  have hT := fun w he => rText_c m hSz (right_iter hr) w he
  have hTz := txS_le m hr
  have hTl : (txS m).data.toList = textM (toM m) := by unfold txS; simp
  have hDy : ∀ w, Env w → Calls Tryz.prog 12 #[.int .i64 m.k, .string (txS m)] w fun e w' => e = .returned (.tuple #[mv m, .int .i64 0]) ∧ Below w.heap.size w w' := by
    intro w he
    refine (aDecode_c m.k (txS m) hTz w he).mono ?_
    rintro e w' ⟨⟨y, c, rfl, _, hc⟩, hb⟩
    rw [hTl, decM_text _ _ hr, if_pos (show m.k = (toM m).k from rfl)] at hc
    rcases hc with ⟨rfl, hx⟩ | ⟨_, _, hx⟩
    · rw [toM_inj (Option.some.inj hx)]; exact ⟨rfl, hb⟩
    · cases hx
  have hDn : ∀ k : Int, ¬ k = m.k → ∀ w, Env w → Calls Tryz.prog 12 #[.int .i64 k, .string (txS m)] w fun e w' => e = .returned (.tuple #[.agg #[.int .i64 0, .string ⟨#[]⟩, .string ⟨#[]⟩, .string ⟨#[]⟩, .int .i64 0, .string ⟨#[]⟩, .string ⟨#[]⟩, .string ⟨#[]⟩], .int .i64 4]) ∧ Below w.heap.size w w' := by
    intro k hk w he
    refine (aDecode_c k (txS m) hTz w he).mono ?_
    rintro e w' ⟨⟨y, c, rfl, _, hc⟩, hb⟩
    rw [hTl, decM_text _ _ hr, if_neg (show ¬ k = (toM m).k from hk)] at hc
    rcases hc with ⟨_, hx⟩ | ⟨rfl, rfl, _⟩
    · cases hx
    · exact ⟨rfl, hb⟩
  generalize txS m = T at hE hT hDy hDn
  clear hr hSz hTz hTl
  obtain ⟨xk, xu, xn, xs, xi, xp, xg, xf⟩ := m
  unfold mv at hS hE hR hR2 hT hDy ⊢
  simp only at hS hE hR hR2 hT hDy hDn ⊢
  replace he := Lib.hid he
  replace hS := Lib.hid hS
  replace hE := Lib.hid hE
  replace hR := Lib.hid hR
  replace hR2 := Lib.hid hR2
  replace hT := Lib.hid hT
  replace hDy := Lib.hid hDy
  replace hDn := Lib.hid hDn
  go_enter Tryz.func3, Tryz.ntmps3
  go_upto_region 1 with fail
  refine gen_world fun W hW => ?_
  have kA0 : W.heap[w.heap.size]? = some (.cells #[.int .i64 xk, .string xu, .string xn, .string xs, .int .i64 xi, .string xp, .string xg, .string xf] 23 (0, 0)) := by subst hW; exact blk_new _ _
  have HB0 : Below w.heap.size w W := by subst hW; (repeat (first | exact Below.refl _ _ | (refine bl_alloc ?_ _) | (refine bl_drewN ?_ _) | (refine bl_drew ?_) | (refine bl_call (by assumption) ?_) | (refine bl_set _ _ (by simp <;> omega) ?_) | assumption))
  clear hW
  obtain ⟨A, hA2⟩ : ∃ A, A = w.heap.size := ⟨_, rfl⟩
  rw [← hA2] at kA0
  rw [← hA2]
  clear hA2
  have he0 := Lib.hid (he.out.below HB0)
  go_upto_region 3 with (go_at_call 6; refine (hA.out _ he0.out).mono ?_; rintro e w1 ⟨rfl, hb1⟩; have kA := grow_blk hb1 kA0; have HB := bl_call hb1 HB0; have he1 := Lib.hid (he.out.below HB))
  clear kA0 HB0 he0 hb1
  have x0 := blk_cell kA 0
  have x1 := blk_cell kA 1
  have x2 := blk_cell kA 2
  have x3 := blk_cell kA 3
  have x4 := blk_cell kA 4
  have x5 := blk_cell kA 5
  have x6 := blk_cell kA 6
  have x7 := blk_cell kA 7
  go_upto_region 5 with (go_at_call 7; refine (hS.out _).mono ?_; rintro e v1 ⟨rfl, hc1⟩; have kN := grow_blk hc1 kA; have HBN := bl_call hc1 HB; have heN := Lib.hid (he.out.below HBN))
  clear x0 x1 x2 x3 x4 x5 x6 x7
  replace kA := kN
  replace HB := HBN
  replace he1 := heN
  clear kN HBN heN hc1
  have x0 := blk_cell kA 0
  have x1 := blk_cell kA 1
  have x2 := blk_cell kA 2
  have x3 := blk_cell kA 3
  have x4 := blk_cell kA 4
  have x5 := blk_cell kA 5
  have x6 := blk_cell kA 6
  have x7 := blk_cell kA 7
  go_upto_region 6 with (go_at_call 8; refine (hE.out _ he1.out).mono ?_; rintro e v2 ⟨rfl, hc2⟩; have kN := grow_blk hc2 kA; have HBN := bl_call hc2 HB; have heN := Lib.hid (he.out.below HBN))
  clear x0 x1 x2 x3 x4 x5 x6 x7
  replace kA := kN
  replace HB := HBN
  replace he1 := heN
  clear kN HBN heN hc2
  have x0 := blk_cell kA 0
  have x1 := blk_cell kA 1
  have x2 := blk_cell kA 2
  have x3 := blk_cell kA 3
  have x4 := blk_cell kA 4
  have x5 := blk_cell kA 5
  have x6 := blk_cell kA 6
  have x7 := blk_cell kA 7
  go_upto_region 7 with (go_at_call 9; refine (hR2.out _).mono ?_; rintro e v3 ⟨rfl, hc3⟩; have kN := grow_blk hc3 kA; have HBN := bl_call hc3 HB; have heN := Lib.hid (he.out.below HBN))
  clear x0 x1 x2 x3 x4 x5 x6 x7
  replace kA := kN
  replace HB := HBN
  replace he1 := heN
  clear kN HBN heN hc3
  have x0 := blk_cell kA 0
  have x1 := blk_cell kA 1
  have x2 := blk_cell kA 2
  have x3 := blk_cell kA 3
  have x4 := blk_cell kA 4
  have x5 := blk_cell kA 5
  have x6 := blk_cell kA 6
  have x7 := blk_cell kA 7
  go_upto_region 9 with (go_at_call 10; refine (hR.out _ he1.out).mono ?_; rintro e v4 ⟨rfl, hc4⟩; have kN := grow_blk hc4 kA; have HBN := bl_call hc4 HB; have heN := Lib.hid (he.out.below HBN))
  clear x0 x1 x2 x3 x4 x5 x6 x7
  replace kA := kN
  replace HB := HBN
  replace he1 := heN
  clear kN HBN heN hc4
  have x0 := blk_cell kA 0
  have x1 := blk_cell kA 1
  have x2 := blk_cell kA 2
  have x3 := blk_cell kA 3
  have x4 := blk_cell kA 4
  have x5 := blk_cell kA 5
  have x6 := blk_cell kA 6
  have x7 := blk_cell kA 7
  go_upto_region 13 with (go_at_call 11; refine (hT.out _ he1.out).mono ?_; rintro e v5 ⟨rfl, hc5⟩; have kN := grow_blk hc5 kA; have HBN := bl_call hc5 HB; have heN := Lib.hid (he.out.below HBN))
  clear x0 x1 x2 x3 x4 x5 x6 x7
  replace kA := kN
  replace HB := HBN
  replace he1 := heN
  clear kN HBN heN hc5
  have x0 := blk_cell kA 0
  have x1 := blk_cell kA 1
  have x2 := blk_cell kA 2
  have x3 := blk_cell kA 3
  have x4 := blk_cell kA 4
  have x5 := blk_cell kA 5
  have x6 := blk_cell kA 6
  have x7 := blk_cell kA 7
  have hAw := blk_lt kA
  clear x0 x1 x2 x3 x4 x5 x6 x7
  go_wp2_with fail
  go_loopw [6] (fun i wr => ∃ (n : Nat), n ≤ 6 ∧ i = .int .i64 (n : Int) ∧ wr.heap[A]? = some (.cells #[.int .i64 xk, .string xu, .string xn, .string xs, .int .i64 xi, .string xp, .string xg, .string xf] 23 (0, 0)) ∧ Below w.heap.size w wr) (fun i _ => 6 - (RowKit.intOf i).toNat)
  case atStart => exact ⟨0, by omega, rfl, kA, HB⟩
  case round =>
    clear kA HB he1 hAw
    obtain ⟨n, hn, rfl, kA, HB⟩ := hrel
    have he1 := Lib.hid (he.out.below HB)
    by_cases hlt : n ≤ 5
    case neg =>
      obtain rfl : n = 6 := by omega
      go_wp2_with fail
      exact bodyPost_ret (v := .bool true) (by simp [results, Tryz.results3, go_sem]) rfl ⟨rfl, HB⟩
    have hltI : (n : Int) ≤ 5 := by omega
    by_cases hk : xk = (n : Int)
    · subst hk
      go_upto_region 17 with (go_at_call 12; refine (hDy.out _ he1.out).mono ?_; rintro e w2 ⟨rfl, hb2⟩; have kA2 := grow_blk hb2 kA; have kN := blk_new w2 (.cells #[.int .i64 (n : Int), .string xu, .string xn, .string xs, .int .i64 xi, .string xp, .string xg, .string xf] 23); have kA3 := blk_alloc kA2 (.cells #[.int .i64 (n : Int), .string xu, .string xn, .string xs, .int .i64 xi, .string xp, .string xg, .string xf] 23); have HB2 := bl_alloc (bl_call hb2 HB) (.cells #[.int .i64 (n : Int), .string xu, .string xn, .string xs, .int .i64 xi, .string xp, .string xg, .string xf] 23))
      refine gen_world fun W3 hW3 => ?_
      rw [← hW3] at kN HB2 kA3
      clear hW3
      obtain ⟨R, hR9⟩ : ∃ R, R = w2.heap.size := ⟨_, rfl⟩
      rw [← hR9] at kN
      rw [← hR9]
      clear hR9 hb2 kA2
      have x0 := blk_cell kA3 0
      have y0 := blk_cell kN 0
      have x1 := blk_cell kA3 1
      have y1 := blk_cell kN 1
      have x2 := blk_cell kA3 2
      have y2 := blk_cell kN 2
      have x3 := blk_cell kA3 3
      have y3 := blk_cell kN 3
      have x4 := blk_cell kA3 4
      have y4 := blk_cell kN 4
      have x5 := blk_cell kA3 5
      have y5 := blk_cell kN 5
      have x6 := blk_cell kA3 6
      have y6 := blk_cell kN 6
      have x7 := blk_cell kA3 7
      have y7 := blk_cell kN 7
      go_wp2_with fail
      go_roundw
      case measure => simp [RowKit.intOf] <;> omega
      exact ⟨n + 1, by omega, congrArg (Value.int .i64) (by omega), kA3, HB2⟩
    · have hk2 : ¬ (n : Int) = xk := fun q => hk q.symm
      have hk3 : ((n : Int) == xk) = false := beq_eq_false_iff_ne.2 hk2
      have hk4 : ((n : Int) != xk) = true := bne_iff_ne.2 hk2
      go_upto_region 17 with (go_at_call 12; refine (hDn.out _ hk2 _ he1.out).mono ?_; rintro e w2 ⟨rfl, hb2⟩; have kA2 := grow_blk hb2 kA; have kN := blk_new w2 (.cells #[.int .i64 0, .string ⟨#[]⟩, .string ⟨#[]⟩, .string ⟨#[]⟩, .int .i64 0, .string ⟨#[]⟩, .string ⟨#[]⟩, .string ⟨#[]⟩] 23); have kA3 := blk_alloc kA2 (.cells #[.int .i64 0, .string ⟨#[]⟩, .string ⟨#[]⟩, .string ⟨#[]⟩, .int .i64 0, .string ⟨#[]⟩, .string ⟨#[]⟩, .string ⟨#[]⟩] 23); have HB2 := bl_alloc (bl_call hb2 HB) (.cells #[.int .i64 0, .string ⟨#[]⟩, .string ⟨#[]⟩, .string ⟨#[]⟩, .int .i64 0, .string ⟨#[]⟩, .string ⟨#[]⟩, .string ⟨#[]⟩] 23))
      refine gen_world fun W3 hW3 => ?_
      rw [← hW3] at kN HB2 kA3
      clear hW3
      obtain ⟨R, hR9⟩ : ∃ R, R = w2.heap.size := ⟨_, rfl⟩
      rw [← hR9] at kN
      rw [← hR9]
      clear hR9 hb2 kA2
      have x0 := blk_cell kA3 0
      have y0 := blk_cell kN 0
      have x1 := blk_cell kA3 1
      have y1 := blk_cell kN 1
      have x2 := blk_cell kA3 2
      have y2 := blk_cell kN 2
      have x3 := blk_cell kA3 3
      have y3 := blk_cell kN 3
      have x4 := blk_cell kA3 4
      have y4 := blk_cell kN 4
      have x5 := blk_cell kA3 5
      have y5 := blk_cell kN 5
      have x6 := blk_cell kA3 6
      have y6 := blk_cell kN 6
      have x7 := blk_cell kA3 7
      have y7 := blk_cell kN 7
      go_wp2_with fail
      go_roundw
      case measure => simp [RowKit.intOf] <;> omega
      exact ⟨n + 1, by omega, congrArg (Value.int .i64) (by omega), kA3, HB2⟩
end Go.Proofs.YtjigckibbjfkmaaGreatDoor

/- The contract of AuditRuns. -/
import Derived.Test.YtcophjjjkonpjaaDoorUh
import Derived.Test.YtcophjjjkonpjaaDoorUl
namespace Go.Proofs.YtcophjjjkonpjaaDoor
open Go.RowKit
set_option maxRecDepth 100000
set_option linter.unusedSimpArgs false
set_option linter.unusedVariables false
set_option maxHeartbeats 4000000 in
theorem Differ_same (a : List Evt) (va vb : Value) (w : World) (ha : RowE w va a) (hb : RowE w vb a) (la : a.length ≤ 1000000) : Calls Tryd.prog 7 #[va, vb] w fun e w' => e = .returned (.tuple #[.int .i64 0, .bool false]) ∧ Below w.heap.size w w' := by
  obtain ⟨aa, ca, rfl, ca3⟩ := ha
  obtain ⟨ab, cb, rfl, cb3⟩ := hb
  replace ca3 := Lib.hid ca3
  replace cb3 := Lib.hid cb3
  go_enter Tryd.func7, Tryd.ntmps7
  go_wp2_with fail
  go_loopw [14] (fun i wr => ∃ j : Nat, j ≤ a.length ∧ i = .int .i64 (j : Int) ∧ Below w.heap.size w wr) (fun i _ => a.length - (RowKit.intOf i).toNat)
  case atStart => exact ⟨0, by omega, rfl, Below.refl _ _⟩
  case round =>
    obtain ⟨j, hj, rfl, HB⟩ := hrel
    by_cases hlt : j < a.length
    · have hlt' : (j : Int) < (a.length : Int) := by omega
      obtain ⟨g, off, rfl, c0, c1, c2⟩ := ca3.out j hlt
      obtain ⟨g', off', rfl, d0, d1, d2⟩ := cb3.out j hlt
      replace c0 := grow_cell HB c0
      replace c1 := grow_cell HB c1
      replace c2 := grow_cell HB c2
      replace d0 := grow_cell HB d0
      replace d1 := grow_cell HB d1
      replace d2 := grow_cell HB d2
      have hne := fun w => run_neq_ev a[j] a[j] w
      rw [show decide (a[j] = a[j]) = true by simp] at hne
      generalize a[j] = x at c0 c1 c2 d0 d1 d2 hne
      go_upto_region 5 with fail
      go_region
      go_wp2_with fail
      exact ⟨⟨j + 1, by omega, congrArg (Value.int .i64) (by omega), bl_drew HB⟩, by simp [RowKit.intOf] <;> omega⟩
    · obtain rfl : j = a.length := by omega
      have hlt' : ¬ (a.length : Int) < (a.length : Int) := by omega
      go_wp2_with fail
      exact bodyPost_ret (v := .tuple #[.int .i64 0, .bool false]) (by simp [results, Tryd.results7, go_sem]) rfl ⟨rfl, HB⟩
theorem namedL_take (l : List Evt) (j : Nat) (h : j < l.length) : namedL (l.take (j + 1)) = (namedL (l.take j) && decide (1 ≤ l[j].k ∧ l[j].k ≤ 5)) := by
  unfold namedL
  rw [List.take_succ_eq_append_getElem h, List.all_append]
  simp
set_option maxHeartbeats 8000000 in
theorem AuditRuns_c (l : List Evt) (va : Value) (w : World) (ha : RowE w va l) (hwf : WfE l) (he : Env w) : Calls Tryd.prog 5 #[va] w fun x w' => x = .returned (.bool true) ∧ Below w.heap.size w w' := by
  replace he := Lib.hid he
  have hW := Lib.hid (fun w => awake44_c w)
  by_cases hz : 100 < l.length
  · obtain ⟨aa, ca, rfl, _⟩ := ha
    have hz' : 100 < (l.length : Int) := by omega
    clear hz
    go_enter Tryd.func5, Tryd.ntmps5
    go_wp2_with (go_at_call 6; refine (hW.out _).mono ?_; rintro e w5 ⟨rfl, hb⟩)
    exact bodyPost_ret (v := .bool true) (by simp [results, Tryd.results5, go_sem]) rfl ⟨rfl, hb⟩
  have hz' : ¬ 100 < (l.length : Int) := by omega
  have hrow := Lib.hid ha
  obtain ⟨aa, ca, rfl, ca3⟩ := ha
  obtain ⟨w1, w2⟩ := runs_wf l.length l (Nat.le_refl _) (by omega) hwf
  have hrl := runs_len l.length l (Nat.le_refl _)
  have hexp := expL_runs l.length l (Nat.le_refl _) hwf
  have hcnt := cnt_runs l hwf
  have hnm := named_runs l hwf (by omega)
  obtain ⟨b1, b2⟩ := rdA_back (runsL l) 1 w1 w2 (by omega)
  have b3 := rdA_bad (splitL 10 (textB (runsL l))) 1
  rw [hnm] at b1 b2
  have htl := textB_length (runsL l) w1
  have hRuns := Lib.hid (fun w ha => Runs_c l (.slice aa l.length ca) w ha hwf (by omega))
  have hRuns2 := Lib.hid (fun w ha => rRuns_c l (.slice aa l.length ca) w ha (by omega))
  have hSame := Lib.hid (fun va vb w ha hb => same_c (runsL l) (runsL l) va vb w ha hb (by omega) (by omega))
  have hExp := Lib.hid (fun va w ha => Expand_c (runsL l) va w ha (by omega) (by omega) (fun r hr => by have := w2 r hr; omega))
  have hDif := Lib.hid (fun va vb w ha hb => Differ_same l va vb w ha hb (by omega))
  have hTx := Lib.hid (fun (va : Value) (w : World) (ha : RowN w va (runsL l)) (he : Env w) => Text_c (runsL l) va w ha (by omega) w1 (fun r hr => by
    obtain ⟨q1, q2, q3, q4⟩ := w1 r hr
    exact ⟨itoaOk_of he _ q1.1 q1.2, itoaOk_of he _ q2.1 q2.2, itoaOk_of he _ q3.1 q3.2, itoaOk_of he _ (by omega) (by omega)⟩))
  have htz : (⟨(textB (runsL l)).toArray⟩ : ByteArray).size ≤ 100000 := by
    show (List.toArray _).size ≤ _
    rw [List.size_toArray]; omega
  have hRd := fun w he => Read_c ⟨(textB (runsL l)).toArray⟩ htz w he
  rw [show (⟨(textB (runsL l)).toArray⟩ : ByteArray).data.toList = textB (runsL l) by simp] at hRd
  replace hRd := Lib.hid hRd
  rw [hexp] at hExp
  generalize runsL l = rs at *
  rw [show decide (rs = rs) = true by simp] at hSame
  generalize (⟨(textB rs).toArray⟩ : ByteArray) = tx at hTx hRd
  generalize splitL 10 (textB rs) = ps at *
  have n0 : namedL (l.take 0) = true := rfl
  have ntk := Lib.hid (fun j h => namedL_take l j h)
  have nall : namedL (l.take l.length) = namedL l := by rw [List.take_length]
  clear w1 w2 hexp hcnt hnm htl htz hz
  replace b1 := Lib.hid b1
  replace b2 := Lib.hid b2
  replace b3 := Lib.hid b3
  replace n0 := Lib.hid n0
  replace nall := Lib.hid nall
  replace ca3 := Lib.hid ca3
  replace hwf := Lib.hid hwf
  go_enter Tryd.func5, Tryd.ntmps5
  go_upto_region 3 with (go_at_call 6; refine (hW.out _).mono ?_; rintro e w5 ⟨rfl, hb⟩)
  have hR5 := Lib.hid (hrow.out.grow hb)
  clear hW
  go_upto_region 6 with (go_at_call 14; refine (hRuns.out _ hR5.out).mono ?_; rintro e w6 ⟨⟨ao, cap, rfl, hO⟩, hb6⟩)
  have hN6 := Lib.hid (RowN.ofOwn hO)
  have hA6 := bl_call hb6 hb
  have hR6 := Lib.hid (hR5.out.grow hb6)
  clear hO hb6 hb hR5 hRuns
  go_upto_region 8 with (first | (go_at_call 15; refine (hRuns2.out _ hR6.out).mono ?_; rintro e w7 ⟨⟨bo, bcap, rfl, hO⟩, hb7⟩; have hM7 := Lib.hid (RowN.ofOwn hO); have hN7 := Lib.hid (hN6.out.grow hb7); have hA7 := bl_call hb7 hA6; have hR7 := Lib.hid (hR6.out.grow hb7); clear hO) | (go_at_call 12; refine (hSame.out _ _ _ hN7.out hM7.out).mono ?_; rintro e w8 ⟨rfl, hb8⟩))
  have hN8 := Lib.hid (hN7.out.grow hb8)
  have hA8 := bl_call hb8 hA7
  have hR8 := Lib.hid (hR7.out.grow hb8)
  clear hb8 hN7 hA7 hR7 hM7 hb7 hN6 hA6 hR6 hRuns2
  go_upto_region 9 with (first | (go_at_call 16; refine (hExp.out _ _ hN8.out).mono ?_; rintro e w9 ⟨⟨eo, ecap, rfl, hO⟩, hb9⟩; have hE9 := Lib.hid (RowE.ofOwn hO); have hR9 := Lib.hid (hR8.out.grow hb9); have hA9 := bl_call hb9 hA8; have hN9 := Lib.hid (hN8.out.grow hb9); clear hO) | (go_at_call 7; refine (hDif.out _ _ _ hE9.out hR9.out).mono ?_; rintro e w10 ⟨rfl, hb10⟩))
  have hN10 := Lib.hid (hN9.out.grow hb10)
  have hA10 := bl_call hb10 hA9
  clear hb10 hN9 hA9 hR9 hE9 hb9 hN8 hA8 hR8 hExp hDif
  go_wp2_with fail
  go_loopw [34, 6] (fun i nv wr => ∃ j : Nat, j ≤ l.length ∧ i = .int .i64 (j : Int) ∧ nv = .bool (namedL (l.take j)) ∧ Below w10.heap.size w10 wr) (fun i _ _ => l.length - (RowKit.intOf i).toNat)
  case atStart => exact ⟨0, by omega, rfl, by rw [n0.out], Below.refl _ _⟩
  case round =>
    obtain ⟨j, hj, rfl, rfl, HB⟩ := hrel
    by_cases hlt : j < l.length
    · have hlt' : (j : Int) < (l.length : Int) := by omega
      obtain ⟨g, off, hg, c0, c1, c2⟩ := ca3.out j hlt
      cases hg
      have HBw := bl_call HB hA10
      replace c0 := grow_cell HBw c0
      replace c1 := grow_cell HBw c1
      replace c2 := grow_cell HBw c2
      have hst := ntk.out j hlt
      obtain ⟨x, hx⟩ : ∃ x, x = l[j] := ⟨_, rfl⟩
      rw [← hx] at c0 c1 c2 hst
      clear hx HBw
      replace hst := Lib.hid hst
      go_upto_region 15 with fail
      refine gen_world fun W hW => ?_
      obtain ⟨A, hA⟩ : ∃ A, A = wr.heap.size := ⟨_, rfl⟩
      rw [← hA]
      have kA : W.heap[A]? = some (.cells #[.int .i64 x.k, .int .i64 x.i, .int .u32 x.v] 28 (0, 0)) := by rw [hW]; exact blk_new' hA _
      have HB2 : Below w10.heap.size w10 W := by rw [hW]; exact bl_alloc HB _
      clear hW hA HB c0 c1 c2
      have a0 : W.cell? ⟨A, 0, none⟩ = some (.int .i64 x.k) := blk_cell kA 0
      clear kA
      cases hn : namedL (l.take j) with
      | false =>
        rw [hn] at hst
        go_wp2_with fail
        go_roundw
        case measure => simp [RowKit.intOf] <;> omega
        exact ⟨j + 1, by omega, congrArg (Value.int .i64) (by omega), by rw [hst.out]; rfl, HB2⟩
      | true =>
        rw [hn] at hst
        by_cases k1 : 1 ≤ x.k
        rotate_left
        · have d1 : decide (1 ≤ x.k) = false := decide_eq_false k1
          have hst2 : namedL (l.take (j + 1)) = false := by rw [hst.out]; simp [k1]
          replace hst2 := Lib.hid hst2
          go_wp2_with fail
          go_roundw
          case measure => simp [RowKit.intOf] <;> omega
          exact ⟨j + 1, by omega, congrArg (Value.int .i64) (by omega), by rw [hst2.out], HB2⟩
        have d1 : decide (1 ≤ x.k) = true := decide_eq_true k1
        by_cases k2 : x.k ≤ 5
        rotate_left
        · have d2 : decide (x.k ≤ 5) = false := decide_eq_false k2
          have hst2 : namedL (l.take (j + 1)) = false := by rw [hst.out]; simp [k2]
          replace hst2 := Lib.hid hst2
          go_wp2_with fail
          go_roundw
          case measure => simp [RowKit.intOf] <;> omega
          exact ⟨j + 1, by omega, congrArg (Value.int .i64) (by omega), by rw [hst2.out], HB2⟩
        have d2 : decide (x.k ≤ 5) = true := decide_eq_true k2
        have hst2 : namedL (l.take (j + 1)) = true := by rw [hst.out]; simp [k1, k2]
        replace hst2 := Lib.hid hst2
        go_wp2_with fail
        go_roundw
        case measure => simp [RowKit.intOf] <;> omega
        exact ⟨j + 1, by omega, congrArg (Value.int .i64) (by omega), by rw [hst2.out], HB2⟩
    · obtain rfl : j = l.length := by omega
      have hlt' : ¬ (l.length : Int) < (l.length : Int) := by omega
      rw [nall.out]
      have hN11 := Lib.hid (hN10.out.grow HB)
      have hA11 := bl_call HB hA10
      have he11 := Lib.hid (he.out.below hA11)
      clear hN10 hA10 HB
      cases hn : namedL l with
      | true =>
        have hX := b1.out hn
        have hR2 := hRd.out
        rw [hX] at hR2
        simp only [ReadE] at hR2
        replace hR2 := Lib.hid hR2
        clear b1 b2 b3 hRd hX hn
        go_upto_region 18 with (first | (go_at_call 13; refine (hTx.out _ _ hN11.out he11.out).mono ?_; rintro e w12 ⟨rfl, hb12⟩; have hN12 := Lib.hid (hN11.out.grow hb12); have hA12 := bl_call hb12 hA11; have he12 := Lib.hid (he11.out.below hb12)) | (go_at_call 10; refine (hR2.out _ he12.out).mono ?_; rintro e w13 ⟨⟨ro, rcap, rfl, hO⟩, hb13⟩))
        have hN13 := Lib.hid (hN12.out.grow hb13)
        have hM13 := Lib.hid (RowN.ofOwn hO)
        have hA13 := bl_call hb13 hA12
        clear hO hb13 hN12 hA12
        go_wp2_with (go_at_call 12; refine (hSame.out _ _ _ hM13.out hN13.out).mono ?_; rintro e w14 ⟨rfl, hb14⟩)
        exact bodyPost_ret (v := .bool true) (by simp [results, Tryd.results5, go_sem]) rfl ⟨rfl, bl_call hb14 hA13⟩
      | false =>
        obtain ⟨m, hX⟩ := b2.out hn
        have hm1 := b3.out m hX
        have hR2 := hRd.out
        rw [hX] at hR2
        simp only [ReadE] at hR2
        replace hR2 := Lib.hid hR2
        have m1 : 1 ≤ (m : Int) := by omega
        have m2 : decide (1 ≤ (m : Int)) = true := decide_eq_true m1
        clear b1 b2 b3 hRd hX hn hm1
        go_wp2_with (first | (go_at_call 13; refine (hTx.out _ _ hN11.out he11.out).mono ?_; rintro e w12 ⟨rfl, hb12⟩; have hA12 := bl_call hb12 hA11; have he12 := Lib.hid (he11.out.below hb12)) | (go_at_call 10; refine (hR2.out _ he12.out).mono ?_; rintro e w13 ⟨rfl, hb13⟩))
        exact bodyPost_ret (v := .bool true) (by simp [results, Tryd.results5, go_sem]) rfl ⟨rfl, bl_call hb13 hA12⟩
end Go.Proofs.YtcophjjjkonpjaaDoor

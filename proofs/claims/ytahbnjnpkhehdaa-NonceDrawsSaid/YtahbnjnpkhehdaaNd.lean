/- The law NonceDraws: its list opened; the walk. -/
import Derived.Test.YtahbnjnpkhehdaaNy
import Derived.Deep.Slices
import Derived.ChangeSame
import Derived.OpenShut
import Derived.Deep.RegionWith
namespace Go.Proofs.Ytahbnjnpkhehdaa
open Go.RowKit Go.Lib Go.ChangeShapes Go.WideShapes Go.Deep
set_option maxRecDepth 100000
set_option linter.unusedSimpArgs false
set_option linter.unusedVariables false
attribute [local go_sem] evR_tmp evR_const evR_global evR_func
/-- A slice of pairs: a kind, a number. -/
def PairRow (w : World) (k1 k2 : IntKind) (sv : Value) (l : List (Int × Int)) : Prop := ∃ ao cap, sv = .slice ao l.length cap ∧ ∀ i (h : i < l.length), ∃ g off, ao = some ⟨g, off, none⟩ ∧ w.cell? ⟨g, off + i * 2, none⟩ = some (.int k1 l[i].1) ∧ w.cell? ⟨g, off + i * 2 + 1, none⟩ = some (.int k2 l[i].2) ∧ (Lit.int k1 l[i].1).wf = true ∧ (Lit.int k2 l[i].2).wf = true
theorem open_pairs {H : Type} {enc : TypeId × Value → H} {W : World} {base : Nat} {T E e1 e2 : TypeId} {k1 k2 : IntKind} {f0 f1 : Field} {v : Value} {d : DataW H} {p : List MemPlace} (uT : Try.prog.underlying T = some (.slice E)) (uE : Try.prog.underlying E = some (.struct #[f0, f1])) (cE : Try.prog.cellsOf E = 2)
    (u0 : Try.prog.underlying f0.type = some (.int k1)) (u1 : Try.prog.underlying f1.type = some (.int k2)) (o0 : f0.offset = 0) (o1 : f1.offset = 1) (c0 : Try.prog.cellsOf f0.type = 1) (c1 : Try.prog.cellsOf f1.type = 1)
    (hval : Value.okWide Try.prog W .any base T v) (h : DataW.Trod enc Try.prog W 0 (fun _ => true) true T v d p) : ∃ l : List (Int × Int), PairRow W k1 k2 v l ∧ l.length ≤ maxLen := by
  obtain ⟨a1, len, cap, rfl⟩ := okWide_slice uT hval
  obtain ⟨fuel, hf⟩ := h
  rcases open_slice uT hf with ⟨hcs, hx⟩ | ⟨a, len', cap', m, n, D, Pl, hcs, _, hl, hm, hmm, hx, hi⟩
  · simp [Value.cells] at hcs
    obtain ⟨rfl, rfl, rfl⟩ := hcs
    exact ⟨[], ⟨none, 0, rfl, fun k h => absurd h (by simp)⟩, Nat.zero_le _⟩
  · simp [Value.cells] at hcs
    obtain ⟨rfl, rfl, rfl⟩ := hcs
    simp only [if_true] at hmm
    subst hmm
    have key : ∀ i, ∃ x : Int × Int, i < len → W.cell? (a.add (i * 2)) = some (.int k1 x.1) ∧ W.cell? (a.add (i * 2 + 1)) = some (.int k2 x.2) ∧ (Lit.int k1 x.1).wf = true ∧ (Lit.int k2 x.2).wf = true := fun i => by
      by_cases hil : i < len
      · obtain ⟨cs', hc, ht'⟩ := hi i (by omega)
        rw [cE] at hc
        obtain ⟨_, hcl, hat⟩ := World.cells?_some hc
        obtain ⟨y0, y1, n', _, _, t0, t1⟩ := trod_struct2 uE ht'
        match cs', hcl, hat, t0, t1 with
        | [z0, z1], _, hat, t0, t1 =>
          rw [o0, c0] at t0
          rw [o1, c1] at t1
          have a0 := hat 0 (by omega)
          have a1 := hat 1 (by omega)
          rw [Go.Deep.add_add] at a0 a1
          obtain ⟨x0, e0, q0, w0⟩ := DataW.trod_int u0 t0
          obtain ⟨x1, e1, q1, w1⟩ := DataW.trod_int u1 t1
          simp at e0 e1
          subst e0 e1
          exact ⟨(x0, x1), fun _ => ⟨a0, a1, w0, w1⟩⟩
      · exact ⟨(0, 0), fun q => absurd q hil⟩
    obtain ⟨f, hf⟩ := Classical.axiomOfChoice key
    have hlen : ((List.range len).map f).length = len := by simp
    refine ⟨(List.range len).map f, ⟨some a, m, by rw [hlen], fun i h => ?_⟩, by rw [hlen]; omega⟩
    rw [hlen] at h
    obtain ⟨ab, ao, spot⟩ := a
    obtain ⟨b0, b1, b2, b3⟩ := hf i h
    have hspot : spot = none := by simpa [Addr.add] using World.cell?_spot (hf 0 (by omega)).1
    subst hspot
    have e : ((List.range len).map f)[i]'(by rw [hlen]; exact h) = f i := by simp
    rw [e]
    rw [Addr.add_lit] at b0 b1
    exact ⟨ab, ao, rfl, b0, by rw [Nat.add_assoc]; exact b1, b2, b3⟩
theorem run_convBS {w : World} {sv : Value} {bs : List UInt8} (hr : RowB w sv bs) : (convert 32 9 sv).run Try.prog w = .ok (.string ⟨bs.toArray⟩) w := by
  obtain ⟨ao, cap, hsv, hno, hcc⟩ := hr
  rw [hsv]
  cases ao with
  | none =>
    obtain ⟨rfl, rfl⟩ := hno rfl
    exact run_convert_bytes_nil w _ 5 Try.underlying32 Try.underlying5 0 0 _ Try.underlying9
  | some a =>
    refine run_convert_bytes_back w _ _ 5 a cap bs Try.underlying32 Try.underlying5 Try.underlying9 fun j hj => ?_
    obtain ⟨g, off, e, hc⟩ := hcc j hj
    cases e
    rw [Addr.add_lit]
    exact hc
set_option maxHeartbeats 8000000 in
theorem NonceDraws_all (seed : ByteArray) (sv : Value) (l : List (Int × Int)) (w : World) (hr : PairRow w .u8 .i64 sv l) (hm : l.length ≤ maxLen) : Calls Try.prog 3 #[.string seed, sv] w fun e w' => e = .returned (.bool true) ∧ Below w.heap.size w w' := by
  obtain ⟨ao, cap, rfl, hrow⟩ := hr
  unfold maxLen at hm
  have hA := Lib.hid (fun w => awake34_c w)
  by_cases hs : 100 < seed.size
  · have hs' : (100 : Int) < (seed.size : Int) := by omega
    go_enter Try.func3, Try.ntmps3
    go_wp2_with (go_at_call 6; refine (hA.out _).mono ?_; rintro e w1 ⟨rfl, hb1⟩)
    exact bodyPost_ret (v := .bool true) (by simp [results, Try.results3, go_sem]) rfl ⟨rfl, hb1⟩
  have hs' : ¬ (100 : Int) < (seed.size : Int) := by omega
  by_cases hl : 12 < l.length
  · have hl' : (12 : Int) < (l.length : Int) := by omega
    go_enter Try.func3, Try.ntmps3
    go_wp2_with (go_at_call 6; refine (hA.out _).mono ?_; rintro e w1 ⟨rfl, hb1⟩)
    exact bodyPost_ret (v := .bool true) (by simp [results, Try.results3, go_sem]) rfl ⟨rfl, hb1⟩
  have hl' : ¬ (12 : Int) < (l.length : Int) := by omega
  obtain ⟨L, hL⟩ : ∃ L, L = l.length := ⟨_, rfl⟩
  rw [← hL] at hl hl' hm ⊢
  replace hrow : ∀ i (h : i < L), ∃ g off k n, ao = some ⟨g, off, none⟩ ∧ w.cell? ⟨g, off + i * 2, none⟩ = some (.int .u8 k) ∧ w.cell? ⟨g, off + i * 2 + 1, none⟩ = some (.int .i64 n) ∧ (Lit.int .u8 k).wf = true ∧ (Lit.int .i64 n).wf = true := fun i h => by
    obtain ⟨g, off, h1, h2⟩ := hrow i (by omega)
    exact ⟨g, off, _, _, h1, h2⟩
  clear hL
  replace hrow := Lib.hid hrow
  have hW := Lib.hid (fun w => nNew_c seed w)
  go_enter Try.func3, Try.ntmps3
  go_upto_region 6 with (first | (go_at_call 6; refine (hA.out _).mono ?_; rintro e w1 ⟨rfl, hb1⟩) | (go_at_call 7; refine (hW.out _).mono ?_; rintro e w2 ⟨rfl, k1, hb2⟩))
  refine gen_world fun W hWW => ?_
  have k2 : W.heap[w2.heap.size]? = some (.cells (srcR seed 0) 28 (0, 0)) := by subst hWW; exact blk_new _ _
  have hb3 : Below w2.heap.size w2 W := by subst hWW; exact bl_alloc (Below.refl _ _) _
  clear hWW
  have hz1 : w.heap.size ≤ w1.heap.size := hb1.size
  have hz2 : w1.heap.size < w2.heap.size := blk_lt k1
  replace k1 := grow_blk hb3 k1
  have HB := bl_call hb3 (bl_call hb2 hb1)
  clear hb1 hb2 hb3 hA hW hm
  obtain ⟨g1, hg1⟩ : ∃ g, g = w1.heap.size := ⟨_, rfl⟩
  obtain ⟨g2, hg2⟩ : ∃ g, g = w2.heap.size := ⟨_, rfl⟩
  rw [← hg1] at k1 hz1 hz2 ⊢
  rw [← hg2] at k2 hz2 ⊢
  clear hg1 hg2 w1 w2
  go_wp2_with fail
  go_loopw [27] (fun iv wr => ∃ i c : Nat, i ≤ L ∧ c ≤ 40 * i ∧ iv = .int .i64 (i : Int) ∧ Below w.heap.size w wr ∧ wr.heap[g1]? = some (.cells (srcC seed c) 46 (0, 0)) ∧ wr.heap[g2]? = some (.cells (srcR seed c) 28 (0, 0))) (fun iv _ => L - (intOf iv).toNat)
  case atStart => exact ⟨0, 0, by omega, by omega, rfl, HB, k1, k2⟩
  case round =>
    clear HB k1 k2
    obtain ⟨i, c, hi, hc, rfl, HB, k1, k2⟩ := hrel
    have pn : (0 : Int) ≤ (i : Int) := by omega
    by_cases hlt : i < L
    · have hlt' : (i : Int) < (L : Int) := by omega
      obtain ⟨gd, off, kd, n, rfl, c0, c1, wk, wn⟩ := hrow.out i hlt
      obtain ⟨kd0, kd1⟩ := bounds_u8 wk
      obtain ⟨n0, n1⟩ := bounds_i64 wn
      replace c0 : wr.cell? ⟨gd, off + i * 2, none⟩ = some (.int .u8 kd) := (HB.cell (p := ⟨gd, _, none⟩) (cell_lt' c0)).trans c0
      replace c1 : wr.cell? ⟨gd, off + i * 2 + 1, none⟩ = some (.int .i64 n) := (HB.cell (p := ⟨gd, _, none⟩) (cell_lt' c1)).trans c1
      go_upto_region 9 with fail
      refine gen_world fun W2 hW => ?_
      have k8 : W2.heap[wr.heap.size]? = some (.cells #[.int .u8 kd, .int .i64 n] 30 (0, 0)) := by subst hW; (repeat (first | (with_reducible assumption) | ((with_reducible refine blk_new' ?_ _); (simp; done)) | ((with_reducible refine blk_alloc ?_ _)) | ((with_reducible refine blk_far ?_ ?_ _); (simp <;> omega))))
      have hb2 : Below wr.heap.size wr W2 := by subst hW; (repeat (first | exact Below.refl _ _ | (refine bl_alloc ?_ _) | (refine bl_drewN ?_ _) | (refine bl_drew ?_) | (refine bl_call (by assumption) ?_) | (refine bl_set _ _ (by simp <;> omega) ?_) | assumption))
      clear hW c0 c1 hrow
      have hz8 : w.heap.size ≤ wr.heap.size ∧ g2 < wr.heap.size := ⟨HB.size, blk_lt k2⟩
      replace k1 := grow_blk hb2 k1
      replace k2 := grow_blk hb2 k2
      replace HB := bl_call hb2 HB
      obtain ⟨g8, hg8⟩ : ∃ g, g = wr.heap.size := ⟨_, rfl⟩
      rw [← hg8] at k8 ⊢
      rw [← hg8] at hz8
      clear hb2 hg8
      have c80 : W2.cell? ⟨g8, 0, none⟩ = some (.int .u8 kd) := blk_cell k8 0
      have c81 : W2.cell? ⟨g8, 1, none⟩ = some (.int .i64 n) := blk_cell k8 1
      have hk3 : kd % 3 = 0 ∨ kd % 3 = 1 ∨ kd % 3 = 2 := by omega
      have hm1 := clampN_le n
      have hN1 := fun W3 k => nBytes_c g1 seed (by omega) c (by omega) n W3 k
      have hN2 := fun W3 k => rBytes34_c g2 seed (by omega) c (by omega) n W3 k
      unfold RefDrawn at hN2
      have hS1 := fun W3 k => nNonce_c g1 seed (by omega) c (by omega) n W3 k
      have hS2 := fun W3 k => rNonce_c g2 seed (by omega) c (by omega) n W3 k
      have hL1 := fun h1 W3 k => nBelow_c g1 seed (by omega) c (by omega) n h1 n1 W3 k
      have hL2 := fun h1 W3 k => rBelow_c g2 seed (by omega) c (by omega) n h1 n1 W3 k
      have hd : drawsOf (clampN n) ≤ 40 := by unfold drawsOf; omega
      generalize drawB seed.data.toList c (clampN n) = B at hN1 hN2 hS1 hS2
      generalize drawsOf (clampN n) = d at hN1 hN2 hS1 hS2 hd
      generalize (signsOf B).toArray = SB at hS1 hS2
      generalize ((beV (drawB seed.data.toList c 8) % 9223372036854775808 : Nat) : Int) % n = bz at hL1 hL2
      have hC1 := fun c' hq W3 k => nCount_c g1 seed c' hq W3 k
      clear hm1
      replace hN1 := Lib.hid hN1
      replace hN2 := Lib.hid hN2
      replace hS1 := Lib.hid hS1
      replace hS2 := Lib.hid hS2
      replace hL1 := Lib.hid hL1
      replace hL2 := Lib.hid hL2
      replace hC1 := Lib.hid hC1
      rcases hk3 with hk | hk | hk
      focus
        go_upto_region 11 with fail
        go_region_with (first | (go_at_call 8; refine (hN1.out _ (by exact k1)).mono ?_; rintro e w3 ⟨rfl, k3, hT3⟩; have k82 := (hT3.block _ (blk_lt k8) (by omega)).trans k8; have c82 : w3.cell? ⟨g8, 1, none⟩ = some (.int .i64 n) := blk_cell k82 1; have k22 := (hT3.block _ (blk_lt k2) (by omega)).trans k2) | (go_at_call 9; refine (hN2.out _ k22).mono ?_; rintro e w4 ⟨sv, rfl, hR4, k4, hT4⟩; have hcv := run_convBS hR4))
        all_goals
          have k5 := (hT4.block _ (blk_lt k3) (by omega)).trans k3
          replace HB := turn_below (turn_below (bl_drew HB) hT3 hz1 HB.size) hT4 (by omega) (Nat.le_trans HB.size hT3.size)
          obtain ⟨c', hc'⟩ : ∃ c', c' = c + d := ⟨_, rfl⟩
          rw [← hc'] at k4 k5
          have hcc : c' ≤ 40 * (i + 1) := by omega
          clear hN1 hN2 hS1 hS2 hL1 hL2 k1 k2 k8 c80 c81 hT3 hT4 k82 c82 k22 hR4 hcv k3 hc' hc
          go_upto_region 22 with fail
      rotate_left 3
      focus
        go_upto_region 14 with fail
        go_region_with (first | (go_at_call 10; refine (hS1.out _ (by exact k1)).mono ?_; rintro e w3 ⟨rfl, k3, hT3⟩; have k82 := (hT3.block _ (blk_lt k8) (by omega)).trans k8; have c82 : w3.cell? ⟨g8, 1, none⟩ = some (.int .i64 n) := blk_cell k82 1; have k22 := (hT3.block _ (blk_lt k2) (by omega)).trans k2) | (go_at_call 11; refine (hS2.out _ k22).mono ?_; rintro e w4 ⟨rfl, k4, hT4⟩))
        all_goals
          have k5 := (hT4.block _ (blk_lt k3) (by omega)).trans k3
          replace HB := turn_below (turn_below (bl_drew HB) hT3 hz1 HB.size) hT4 (by omega) (Nat.le_trans HB.size hT3.size)
          obtain ⟨c', hc'⟩ : ∃ c', c' = c + d := ⟨_, rfl⟩
          rw [← hc'] at k4 k5
          have hcc : c' ≤ 40 * (i + 1) := by omega
          clear hN1 hN2 hS1 hS2 hL1 hL2 k1 k2 k8 c80 c81 hT3 hT4 k82 c82 k22 k3 hc' hc
          go_upto_region 22 with fail
      rotate_left 3
      by_cases hn1 : 1 ≤ n
      focus
        have hn0 : 0 < n := by omega
        go_upto_region 19 with fail
        go_upto_region 20 with (go_at_call 12; refine (hL2.out hn1 _ k2).mono ?_; rintro e w3 ⟨rfl, k3, hT3⟩; have k82 := (hT3.block _ (blk_lt k8) (by omega)).trans k8; have c82 : w3.cell? ⟨g8, 1, none⟩ = some (.int .i64 n) := blk_cell k82 1; have k22 := (hT3.block _ (blk_lt k1) (by omega)).trans k1)
        go_upto_region 22 with (go_at_call 13; refine (hL1.out hn1 _ k22).mono ?_; rintro e w4 ⟨rfl, k5, hT4⟩)
        have k4 := (hT4.block _ (blk_lt k3) (by omega)).trans k3
        replace HB := turn_below (turn_below HB hT3 (by omega) HB.size) hT4 hz1 (Nat.le_trans HB.size hT3.size)
        obtain ⟨c', hc'⟩ : ∃ c', c' = c + 1 := ⟨_, rfl⟩
        rw [← hc'] at k4 k5
        have hcc : c' ≤ 40 * (i + 1) := by omega
        clear hN1 hN2 hS1 hS2 hL1 hL2 k1 k2 k8 c80 c81 hT3 hT4 k82 c82 k22 k3 hc' hc
      rotate_left
      focus
        have hn0 : ¬ 0 < n := by omega
        go_upto_region 22 with (go_at_call 13; refine (nBelow_low g1 n (by omega) _).mono ?_; rintro e w4 ⟨rfl, hb4⟩)
        have k5 := grow_blk hb4 k1
        have k4 := grow_blk hb4 k2
        replace HB := bl_call hb4 HB
        obtain ⟨c', hc'⟩ : ∃ c', c' = c := ⟨_, rfl⟩
        rw [← hc'] at k4 k5
        have hcc : c' ≤ 40 * (i + 1) := by omega
        clear hN1 hN2 hS1 hS2 hL1 hL2 k1 k2 k8 c80 c81 hc' hc hb4
      rotate_left
      all_goals
        have c41 : w4.cell? ⟨g2, 1, none⟩ = some (.int .i64 (c' : Int)) := blk_cell k4 1
        have hct := hC1.out c' (by omega) w4.drew (by exact k5)
        replace hct := Lib.hid hct
        have k4' : w4.drew.heap[g2]? = some (.cells (srcR seed c') 28 (0, 0)) := k4
        go_region_with (first | (go_at_call 14; refine hct.out.mono ?_; rintro e w5 ⟨rfl, hb5⟩; have c42 : w5.cell? ⟨g2, 1, none⟩ = some (.int .i64 (c' : Int)) := blk_cell (grow_blk hb5 k4') 1))
        all_goals
          have HB2 := bl_call hb5 (bl_drew HB)
          have k52 := grow_blk hb5 (show w4.drew.heap[g1]? = _ from k5)
          have k42 := grow_blk hb5 k4'
          clear hb5 c41 c42 HB k5 k4 k4' hct hC1
          go_wp2_with fail
          go_roundw
          case measure => simp [intOf] <;> omega
          exact ⟨i + 1, c', by omega, by omega, congrArg (Value.int .i64) (by omega), HB2, k52, k42⟩
    · obtain rfl : i = L := by omega
      have hlt' : ¬ (i : Int) < (i : Int) := by omega
      go_wp2_with fail
      exact bodyPost_ret (v := .bool true) (by simp [results, Try.results3, go_sem]) rfl ⟨rfl, HB⟩
end Go.Proofs.Ytahbnjnpkhehdaa

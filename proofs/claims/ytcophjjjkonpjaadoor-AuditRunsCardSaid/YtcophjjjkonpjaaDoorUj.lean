/- Reference 44: Longest, Runs. -/
import Derived.Test.YtcophjjjkonpjaaDoorUk
import Derived.BigQuiet
import Derived.Deep.QuietTactic
namespace Go.Proofs.YtcophjjjkonpjaaDoor
open Go.RowKit
set_option maxRecDepth 100000
set_option linter.unusedSimpArgs false
set_option linter.unusedVariables false
attribute [local go_sem] evR_tmp evR_const evR_global evR_func
/-- How long a run is. -/
def runN (e : Evt) (r : List Evt) : Nat := ext e (stepOf e r) r + 1
theorem ext_lk_no (p f : Evt) (s : Int) (t : List Evt) (h : lk p f = false) : ext p s (f :: t) = 0 := by
  unfold ext
  rw [if_neg]
  rintro ⟨h1, _⟩
  rw [h] at h1
  cases h1
theorem ext_far_no (p f : Evt) (s : Int) (t : List Evt) (h : far p f ≠ s) : ext p s (f :: t) = 0 := by
  unfold ext
  rw [if_neg]
  rintro ⟨_, h1⟩
  exact h h1
theorem ext_yes (p f : Evt) (s : Int) (t : List Evt) (h : lk p f = true) (h2 : far p f = s) : ext p s (f :: t) = ext f s t + 1 := by
  rw [ext, if_pos ⟨h, h2⟩]
set_option maxHeartbeats 4000000 in
theorem Longest_c (a : List Evt) (aa : Option Addr) (ca : Nat) (w : World) (ha : RowE w (.slice aa a.length ca) a) (la : a.length ≤ 100000) (j : Nat) (hj : j < a.length) : Calls Tryd.prog 27 #[.slice aa a.length ca, .int .i64 (j : Int)] w fun e w' => e = .returned (.int .i64 (runN a[j] (a.drop (j + 1)) : Int)) ∧ Below w.heap.size w w' := by
  obtain ⟨aa', ca', q, ca3⟩ := ha
  cases q
  replace ca3 := Lib.hid ca3
  obtain ⟨e0, he0⟩ : ∃ e0, e0 = a[j] := ⟨_, rfl⟩
  obtain ⟨s, hs⟩ : ∃ s, s = stepOf e0 (a.drop (j + 1)) := ⟨_, rfl⟩
  obtain ⟨T, hT⟩ : ∃ T, T = runN a[j] (a.drop (j + 1)) := ⟨_, rfl⟩
  have hT2 : T = ext e0 s (a.drop (j + 1)) + 1 := by rw [hT, hs, he0]; rfl
  rw [← hT]
  have hst : ∀ h : j + 1 < a.length, lk e0 a[j + 1] = true → s = far e0 a[j + 1] := fun h hl => by
    rw [hs, List.drop_eq_getElem_cons h, stepOf_cons, if_pos hl]
  have hT0 : 1 + ext e0 s (a.drop (j + 1)) = T := by omega
  have hTl : T ≤ 100001 := by
    have := ext_le e0 s (a.drop (j + 1))
    rw [List.length_drop] at this
    omega
  clear hT hT2 hs
  have jI : (j : Int) < (a.length : Int) := by omega
  have j0 : (0 : Int) ≤ (j : Int) := by omega
  have jL : (j : Int) ≤ 100000 := by omega
  replace hst := Lib.hid hst
  replace he0 := Lib.hid he0
  replace hT0 := Lib.hid hT0
  go_enter Tryd.func27, Tryd.ntmps27
  go_wp2_with fail
  go_loopw [5] (fun nv wr => ∃ (n : Nat) (p : Evt), 1 ≤ n ∧ j + n ≤ a.length ∧ nv = .int .i64 (n : Int) ∧ a[j + n - 1]? = some p ∧ n + ext p s (a.drop (j + n)) = T ∧ (n = 1 → p = e0) ∧ (1 < n → ∃ h : j + 1 < a.length, s = far e0 a[j + 1]) ∧ Below w.heap.size w wr) (fun nv _ => a.length - (RowKit.intOf nv).toNat)
  case atStart => exact ⟨1, e0, by omega, by omega, rfl, by rw [Nat.add_sub_cancel, List.getElem?_eq_getElem hj, he0.out], hT0.out, fun _ => rfl, fun h => by omega, Below.refl _ _⟩
  case round =>
    clear hT0
    obtain ⟨n, p, hn1, hnl, rfl, hp, hTn, hpe, hsf, HB⟩ := hrel
    have nI1 : (1 : Int) ≤ (n : Int) := by omega
    have nIl : (n : Int) ≤ 100000 := by omega
    by_cases hlt : j + n < a.length
    · have hlt' : (j : Int) + (n : Int) < (a.length : Int) := by omega
      have hp1 : j + n - 1 < a.length := by omega
      have hpa : a[j + n - 1] = p := (List.getElem?_eq_some_iff.1 hp).2
      obtain ⟨f, hf⟩ : ∃ f, f = a[j + n] := ⟨_, rfl⟩
      have hdr := List.drop_eq_getElem_cons hlt
      rw [← hf] at hdr
      rw [hdr] at hTn
      obtain ⟨g, off, hg, c0, c1, c2⟩ := ca3.out (j + n - 1) hp1
      cases hg
      obtain ⟨g', off', hg', d0, d1, d2⟩ := ca3.out (j + n) hlt
      cases hg'
      rw [hpa] at c0 c1 c2
      rw [← hf] at d0 d1 d2
      replace c0 := grow_cell HB c0
      replace c1 := grow_cell HB c1
      replace c2 := grow_cell HB c2
      replace d0 := grow_cell HB d0
      replace d1 := grow_cell HB d1
      replace d2 := grow_cell HB d2
      have ix1 : ((j : Int) + (n : Int) - 1).toNat = j + n - 1 := by omega
      have ix2 : ((j : Int) + (n : Int)).toNat = j + n := by omega
      have ix3 : 0 ≤ (j : Int) + (n : Int) - 1 := by omega
      replace hp := Lib.hid hp
      replace hTn := Lib.hid hTn
      replace hpe := Lib.hid hpe
      replace hsf := Lib.hid hsf
      replace hf := Lib.hid hf
      clear hpa hdr
      go_upto_region 4 with fail
      refine gen_world fun W1 hW => ?_
      obtain ⟨A, hA⟩ : ∃ A, A = wr.heap.size := ⟨_, rfl⟩
      rw [← hA]
      have kA : W1.heap[A]? = some (.cells #[.int .i64 p.k, .int .i64 p.i, .int .u32 p.v] 28 (0, 0)) := by rw [hW]; exact blk_new' hA _
      have hb1 : Below wr.heap.size wr W1 := by rw [hW]; exact (Below.refl _ _).alloc (Nat.le_refl _) _
      have hA1 := bl_call hb1 HB
      replace d0 := grow_cell hb1 d0
      replace d1 := grow_cell hb1 d1
      replace d2 := grow_cell hb1 d2
      clear hW hA hb1 HB c0 c1 c2
      go_upto_region 5 with fail
      refine gen_world fun W2 hW => ?_
      obtain ⟨B, hB⟩ : ∃ B, B = W1.heap.size := ⟨_, rfl⟩
      rw [← hB]
      have kB : W2.heap[B]? = some (.cells #[.int .i64 f.k, .int .i64 f.i, .int .u32 f.v] 28 (0, 0)) := by rw [hW]; exact blk_new' hB _
      have hb2 : Below W1.heap.size W1 W2 := by rw [hW]; exact (Below.refl _ _).alloc (Nat.le_refl _) _
      have kA2 := grow_blk hb2 kA
      have HB2 := bl_call hb2 hA1
      clear hW hB hb2 hA1 d0 d1 d2 kA
      have a0 : W2.cell? ⟨A, 0, none⟩ = some (.int .i64 p.k) := blk_cell kA2 0
      have a1 : W2.cell? ⟨A, 1, none⟩ = some (.int .i64 p.i) := blk_cell kA2 1
      have a2 : W2.cell? ⟨A, 2, none⟩ = some (.int .u32 p.v) := blk_cell kA2 2
      have b0 : W2.cell? ⟨B, 0, none⟩ = some (.int .i64 f.k) := blk_cell kB 0
      have b1 : W2.cell? ⟨B, 1, none⟩ = some (.int .i64 f.i) := blk_cell kB 1
      have b2 : W2.cell? ⟨B, 2, none⟩ = some (.int .u32 f.v) := blk_cell kB 2
      clear kA2 kB
      by_cases hk : p.k = f.k
      rotate_left
      · have hTn2 : n = T := by
          have := hTn.out
          rw [ext_lk_no p f s _ (by simp [lk, hk])] at this
          omega
        have dk : (p.k != f.k) = true := bne_iff_ne.2 hk
        replace hTn2 := Lib.hid hTn2
        clear hTn
        go_wp2_with fail
        exact bodyPost_ret (v := .int .i64 (n : Int)) (by simp [results, Tryd.results27, go_sem]) rfl ⟨by rw [hTn2.out], HB2⟩
      have dk : (p.k != f.k) = false := by rw [bne_eq_false_iff_eq]; exact hk
      by_cases hv : p.v = f.v
      rotate_left
      · have hTn2 : n = T := by
          have := hTn.out
          rw [ext_lk_no p f s _ (by simp [lk, hv])] at this
          omega
        have dv : (p.v != f.v) = true := bne_iff_ne.2 hv
        replace hTn2 := Lib.hid hTn2
        replace hk := Lib.hid hk
        clear hTn
        go_wp2_with fail
        exact bodyPost_ret (v := .int .i64 (n : Int)) (by simp [results, Tryd.results27, go_sem]) rfl ⟨by rw [hTn2.out], HB2⟩
      have dv : (p.v != f.v) = false := by rw [bne_eq_false_iff_eq]; exact hv
      have hlk : lk p f = true := by simp [lk, hk, hv]
      replace hk := Lib.hid hk
      replace hv := Lib.hid hv
      have hj0 := ca3.out j hj
      by_cases hn : 1 < n
      rotate_left
      · obtain rfl : n = 1 := by omega
        have hpe0 : p = e0 := hpe.out rfl
        have hs1 : s = far p f := by
          rw [hpe0, hf.out]
          refine hst.out hlt ?_
          rw [← hf.out, ← hpe0]
          exact hlk
        have hTn2 : 1 + 1 + ext f s (a.drop (j + 1 + 1)) = T := by
          have := hTn.out
          rw [ext_yes p f s _ hlk hs1.symm] at this
          omega
        have hs2 : s = far e0 a[j + 1] := by rw [hs1, hpe0, hf.out]
        replace hTn2 := Lib.hid hTn2
        replace hs2 := Lib.hid hs2
        clear hTn hs1 hpe0 hj0
        go_upto_region 6 with fail
        go_quiet (fail)
        rename_i nq
        go_wp2_with fail
        go_roundw
        case measure => simp [RowKit.intOf] <;> omega
        exact ⟨2, f, by omega, by omega, rfl, by rw [show j + 2 - 1 = j + 1 by omega, List.getElem?_eq_getElem hlt, hf.out], hTn2.out, fun h => by omega, fun _ => ⟨hlt, hs2.out⟩, bl_drewN HB2 _⟩
      obtain ⟨h1, hs1⟩ := hsf.out hn
      obtain ⟨g3, off3, hg3, x0, x1, x2⟩ := ca3.out j hj
      cases hg3
      obtain ⟨g4, off4, hg4, z0, z1, z2⟩ := ca3.out (j + 1) h1
      cases hg4
      replace x1 := grow_cell HB2 x1
      replace z1 := grow_cell HB2 z1
      have nI : 1 < (n : Int) := by omega
      have nD : decide (1 < (n : Int)) = true := decide_eq_true nI
      have jI1 : (j : Int) + 1 < (a.length : Int) := by omega
      have hsw : IntKind.i64.wrap (a[j + 1].i - a[j].i) = s := by rw [hs1, he0.out]; exact IntWalk.i64_left _
      have hfw : IntKind.i64.wrap (f.i - p.i) = far p f := IntWalk.i64_left _
      have hjw : IntKind.i64.wrap ((j : Int) + 1) = (j : Int) + 1 := IntWalk.i64_in _ (by omega)
      have ij1 : ((j : Int) + 1).toNat = j + 1 := by omega
      replace hs1 := Lib.hid hs1
      clear x0 x2 z0 z2 hj0
      by_cases hfs : far p f = s
      rotate_left
      · have hTn2 : n = T := by
          have := hTn.out
          rw [ext_far_no p f s _ hfs] at this
          omega
        have df : (far p f != s) = true := bne_iff_ne.2 hfs
        replace hTn2 := Lib.hid hTn2
        clear hTn hfs
        go_upto_region 6 with fail
        go_quiet (fail)
        rename_i nq
        go_wp2_with fail
        exact bodyPost_ret (v := .int .i64 (n : Int)) (by simp [results, Tryd.results27, go_sem]) rfl ⟨by rw [hTn2.out], bl_drewN HB2 _⟩
      have df : (far p f != s) = false := by rw [bne_eq_false_iff_eq]; exact hfs
      have hTn2 : n + 1 + ext f s (a.drop (j + (n + 1))) = T := by
        have := hTn.out
        rw [ext_yes p f s _ hlk hfs] at this
        rw [show j + (n + 1) = j + n + 1 by omega]
        omega
      replace hTn2 := Lib.hid hTn2
      replace hfs := Lib.hid hfs
      clear hTn
      go_upto_region 6 with fail
      go_quiet (fail)
      rename_i nq
      go_wp2_with fail
      go_roundw
      case measure => simp [RowKit.intOf] <;> omega
      exact ⟨n + 1, f, by omega, by omega, congrArg (Value.int .i64) (by omega), by rw [show j + (n + 1) - 1 = j + n by omega, List.getElem?_eq_getElem hlt, hf.out], hTn2.out, fun h => by omega, fun _ => ⟨h1, hs1.out⟩, bl_drewN HB2 _⟩
    · obtain hje : j + n = a.length := by omega
      have hlt' : ¬ (j : Int) + (n : Int) < (a.length : Int) := by omega
      rw [List.drop_eq_nil_of_le (by omega)] at hTn
      have hTn2 : n = T := by simpa [ext] using hTn
      replace hTn2 := Lib.hid hTn2
      clear hTn hje
      go_wp2_with fail
      exact bodyPost_ret (v := .int .i64 (n : Int)) (by simp [results, Tryd.results27, go_sem]) rfl ⟨by rw [hTn2.out], HB⟩
end Go.Proofs.YtcophjjjkonpjaaDoor

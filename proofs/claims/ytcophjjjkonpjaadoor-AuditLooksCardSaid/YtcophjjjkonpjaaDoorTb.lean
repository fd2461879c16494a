/- The contract of audit.Text. -/
import Derived.Test.YtcophjjjkonpjaaDoorTa
import Derived.Test.YtcophjjjkonpjaaDoorSb
import Derived.Test.YtcophjjjkonpjaaDoorShelf
import Derived.Lib.ItoaLen
namespace Go.Proofs.YtcophjjjkonpjaaDoor
open Go.RowKit
set_option maxRecDepth 100000
set_option linter.unusedSimpArgs false
set_option linter.unusedVariables false
/-- A run's line. -/
def lineB (r : Rn) : List UInt8 := (nmB r.k).data.toList ++ (32 :: Lib.itoa r.i) ++ (32 :: Lib.itoa r.s) ++ (32 :: Lib.itoa r.c) ++ (32 :: Lib.itoa r.v) ++ [10]
def textB (rs : List Rn) : List UInt8 := rs.flatMap lineB
def WfN (rs : List Rn) : Prop := ∀ r ∈ rs, (-9223372036854775808 ≤ r.i ∧ r.i ≤ 9223372036854775807) ∧ (-9223372036854775808 ≤ r.s ∧ r.s ≤ 9223372036854775807) ∧ (-9223372036854775808 ≤ r.c ∧ r.c ≤ 9223372036854775807) ∧ 0 ≤ r.v ∧ r.v ≤ 4294967295
theorem lineB_length (r : Rn) (h : WfN [r]) : (lineB r).length ≤ 100 := by
  obtain ⟨h1, h2, h3, h4⟩ := h r (List.mem_singleton.2 rfl)
  have e1 := Lib.itoa_length_le r.i h1.1 h1.2
  have e2 := Lib.itoa_length_le r.s h2.1 h2.2
  have e3 := Lib.itoa_length_le r.c h3.1 h3.2
  have e4 := Lib.itoa_length_le r.v (by omega) (by omega)
  have e5 : (nmB r.k).data.toList.length ≤ 7 := nmB_size r.k
  simp only [lineB, List.length_append, List.length_cons, List.length_nil]
  omega
theorem textB_length (rs : List Rn) (h : WfN rs) : (textB rs).length ≤ 100 * rs.length := by
  induction rs with
  | nil => simp [textB]
  | cons r l ih =>
    have h1 := lineB_length r (fun x hx => h x (by simp at hx; simp [hx]))
    have h2 := ih (fun x hx => h x (by simp [hx]))
    have : textB (r :: l) = lineB r ++ textB l := rfl
    rw [this, List.length_append, List.length_cons]
    omega
theorem itoa_str (n : Int) : (⟨#[32]⟩ : ByteArray) ++ ⟨(Lib.itoa n).toArray⟩ = ⟨(32 :: Lib.itoa n).toArray⟩ := by
  apply ByteArray.ext
  simp
theorem nl1 : (⟨#[10]⟩ : ByteArray).size = 1 := rfl
theorem nl2 : (⟨#[10]⟩ : ByteArray).data.toList = [10] := rfl
def ItoaOk (w : World) (n : Int) : Prop := ∀ W, Below w.heap.size w W → Calls Tryd.prog 24 #[.int .i64 n] W fun e w' => e = .returned (.string ⟨(Lib.itoa n).toArray⟩) ∧ Below W.heap.size W w'
set_option maxHeartbeats 4000000 in
theorem Text_c (rs : List Rn) (va : Value) (w : World) (ha : RowN w va rs) (lr : rs.length ≤ 100000) (hwf : WfN rs) (hI : ∀ r ∈ rs, ItoaOk w r.i ∧ ItoaOk w r.s ∧ ItoaOk w r.c ∧ ItoaOk w r.v) : Calls Tryd.prog 13 #[va] w fun e w' => e = .returned (.string ⟨(textB rs).toArray⟩) ∧ Below w.heap.size w w' := by
  obtain ⟨aa, ca, rfl, ca3⟩ := ha
  replace ca3 := Lib.hid ca3
  replace hwf := Lib.hid hwf
  replace hI := Lib.hid hI
  go_enter Tryd.func13, Tryd.ntmps13
  go_upto_region 2 with fail
  refine gen_world fun W hW => ?_
  have kb0 : BldF w.heap.size w.heap.size (textB (rs.take 0)) W := by subst hW; exact bld_new w
  have HB0 : Below w.heap.size w W := by subst hW; (repeat (first | exact Below.refl _ _ | (refine bl_alloc ?_ _) | (refine bl_drewN ?_ _) | (refine bl_drew ?_) | (refine bl_call (by assumption) ?_) | (refine bl_set _ _ (by simp <;> omega) ?_) | assumption))
  have hl0 : w.heap.size < W.heap.size := by subst hW; simp
  clear hW
  obtain ⟨b, hb⟩ : ∃ b, b = w.heap.size := ⟨_, rfl⟩
  have hbw : w.heap.size ≤ b := by omega
  rw [← hb]
  rw [show BldF w.heap.size w.heap.size (textB (rs.take 0)) W = BldF w.heap.size b (textB (rs.take 0)) W by rw [hb]] at kb0
  replace hl0 : b < W.heap.size := by omega
  clear hb
  go_wp2_with fail
  go_loopw [10] (fun i wr => ∃ j : Nat, j ≤ rs.length ∧ i = .int .i64 (j : Int) ∧ BldF w.heap.size b (textB (rs.take j)) wr ∧ Below w.heap.size w wr ∧ b < wr.heap.size) (fun i _ => rs.length - (RowKit.intOf i).toNat)
  case atStart => exact ⟨0, by omega, rfl, kb0, HB0, hl0⟩
  case round =>
    clear kb0 HB0 hl0
    obtain ⟨j, hj, rfl, kb, HB, hbl⟩ := hrel
    by_cases hlt : j < rs.length
    · have hlt' : (j : Int) < (rs.length : Int) := by omega
      have hwr : WfN [rs[j]] := fun x hx => by rw [List.mem_singleton.1 hx]; exact hwf.out _ (List.getElem_mem hlt)
      have hwt : WfN (rs.take j) := fun x hx => hwf.out _ (List.mem_of_mem_take hx)
      have htl := textB_length _ hwt
      have htx : textB (rs.take (j + 1)) = textB (rs.take j) ++ lineB rs[j] := by
        rw [List.take_succ_eq_append_getElem hlt]
        simp only [textB, List.flatMap_append, List.flatMap_cons, List.flatMap_nil, List.append_nil]
      rw [List.length_take] at htl
      have hIj := hI.out _ (List.getElem_mem hlt)
      obtain ⟨g, off, rfl, c0, c1, c2, c3, c4⟩ := ca3.out j hlt
      replace c0 := grow_cell HB c0
      replace c1 := grow_cell HB c1
      replace c2 := grow_cell HB c2
      replace c3 := grow_cell HB c3
      replace c4 := grow_cell HB c4
      obtain ⟨x, hx⟩ : ∃ x, x = rs[j] := ⟨_, rfl⟩
      rw [← hx] at c0 c1 c2 c3 c4 hwr htx hIj
      clear hx hwt
      obtain ⟨xk, xi, xs, xc, xv⟩ := x
      obtain ⟨i1, i2, i3, i4⟩ := hIj
      obtain ⟨b1, b2, b3, b4, b5⟩ := hwr _ (List.mem_singleton.2 rfl)
      simp only at c0 c1 c2 c3 c4 i1 i2 i3 i4 b1 b2 b3 b4 b5
      have e1 := Lib.itoa_length_le xi b1.1 b1.2
      have e2 := Lib.itoa_length_le xs b2.1 b2.2
      have e3 := Lib.itoa_length_le xc b3.1 b3.2
      have e4 := Lib.itoa_length_le xv (by omega) (by omega)
      have e5 : (nmB xk).data.toList.length ≤ 7 := nmB_size xk
      have e6 : (nmB xk).size = (nmB xk).data.toList.length := rfl
      have wv : IntKind.i64.wrap xv = xv := IntWalk.i64_in _ (by omega)
      obtain ⟨T, hT⟩ : ∃ T, T = textB (rs.take j) := ⟨_, rfl⟩
      rw [← hT] at kb htl htx
      replace htx := Lib.hid htx
      clear hT hwr b1 b2 b3
      go_upto_region 5 with fail
      refine gen_world fun W2 hW2 => ?_
      have kr : W2.heap[wr.heap.size]? = some (.cells #[.int .i64 xk, .int .i64 xi, .int .i64 xs, .int .i64 xc, .int .u32 xv] 49 (0, 0)) := by subst hW2; exact blk_new _ _
      have hA : Below wr.heap.size wr W2 := by subst hW2; (repeat (first | exact Below.refl _ _ | (refine bl_alloc ?_ _) | (refine bl_drewN ?_ _) | (refine bl_drew ?_) | (refine bl_call (by assumption) ?_) | (refine bl_set _ _ (by simp <;> omega) ?_) | assumption))
      replace kb := kb.grow hA
      replace HB := bl_call hA HB
      have hGb : wr.heap.size ≠ b := by omega
      clear hW2 c0 c1 c2 c3 c4
      obtain ⟨G, hG⟩ : ∃ G, G = wr.heap.size := ⟨_, rfl⟩
      rw [← hG] at kr hGb ⊢
      clear hA hG hbl
      have r0 := blk_cell kr 0
      go_upto_region 6 with (first | (go_at_call 23; refine (name_c _ _).mono ?_; rintro e w1 ⟨rfl, hb1⟩; replace kb := kb.grow hb1; replace kr := grow_blk hb1 kr; replace HB := bl_call hb1 HB; clear hb1) | (go_at_call 22; (try rw [itoa_str]); refine (WS_c w.heap.size b _ _ _ kb (by first | omega | (simp only [List.length_append, List.length_cons, List.length_nil, bldl]; omega) | (rw [bsz]; (try simp only [List.length_append, List.length_cons, List.length_nil, bldl]); omega)) HB.size).mono ?_; rintro e w2 ⟨rfl, kb2, hb2, hk2⟩; replace kr := kept_blk hk2 kr hGb (by decide); replace HB := HB.trans hb2; replace kb := kb2; clear kb2 hb2 hk2))
      refine gen_world fun W5 hW5 => ?_
      subst hW5
      have r1 := blk_cell kr 1
      have r2 := blk_cell kr 2
      have r3 := blk_cell kr 3
      have r4 := blk_cell kr 4
      have lb := kb.lt
      clear r0
      go_upto_region 7 with fail
      refine gen_world fun W3 hW3 => ?_
      have kI : W3.heap[W5.heap.size]? = some (.cells #[.int .i64 xi, .int .i64 xs, .int .i64 xc, .int .i64 xv] 3 (0, 0)) := by subst hW3; exact blk_new _ _
      have hA : Below W5.heap.size W5 W3 := by subst hW3; (repeat (first | exact Below.refl _ _ | (refine bl_alloc ?_ _) | (refine bl_drewN ?_ _) | (refine bl_drew ?_) | (refine bl_call (by assumption) ?_) | (refine bl_set _ _ (by simp <;> omega) ?_) | assumption))
      replace kb := kb.grow hA
      replace HB := bl_call hA HB
      have hIb : W5.heap.size ≠ b := by omega
      clear hW3 r1 r2 r3 r4 kr
      obtain ⟨I, hI5⟩ : ∃ I, I = W5.heap.size := ⟨_, rfl⟩
      rw [← hI5] at kI hIb ⊢
      clear hA hI5 lb
      refine wp_loop_rounds 5 ?_
      have r0 := blk_cell kI 0
      rw [rounds_succ]
      go_wp2_with (first | (go_at_call 24; refine (i1 _ HB).mono ?_; rintro e w1 ⟨rfl, hb1⟩; replace kb := kb.grow hb1; replace kI := grow_blk hb1 kI; replace HB := bl_call hb1 HB; clear hb1) | (go_at_call 22; (try rw [itoa_str]); refine (WS_c w.heap.size b _ _ _ kb (by first | omega | (simp only [List.length_append, List.length_cons, List.length_nil, bldl]; omega) | (rw [bsz]; (try simp only [List.length_append, List.length_cons, List.length_nil, bldl]); omega)) HB.size).mono ?_; rintro e w2 ⟨rfl, kb2, hb2, hk2⟩; replace kI := kept_blk hk2 kI hIb (by decide); replace HB := HB.trans hb2; replace kb := kb2; clear kb2 hb2 hk2))
      have r1 := blk_cell kI 1
      rw [rounds_succ]
      go_wp2_with (first | (go_at_call 24; refine (i2 _ HB).mono ?_; rintro e w1 ⟨rfl, hb1⟩; replace kb := kb.grow hb1; replace kI := grow_blk hb1 kI; replace HB := bl_call hb1 HB; clear hb1) | (go_at_call 22; (try rw [itoa_str]); refine (WS_c w.heap.size b _ _ _ kb (by first | omega | (simp only [List.length_append, List.length_cons, List.length_nil, bldl]; omega) | (rw [bsz]; (try simp only [List.length_append, List.length_cons, List.length_nil, bldl]); omega)) HB.size).mono ?_; rintro e w2 ⟨rfl, kb2, hb2, hk2⟩; replace kI := kept_blk hk2 kI hIb (by decide); replace HB := HB.trans hb2; replace kb := kb2; clear kb2 hb2 hk2))
      have r2 := blk_cell kI 2
      rw [rounds_succ]
      go_wp2_with (first | (go_at_call 24; refine (i3 _ HB).mono ?_; rintro e w1 ⟨rfl, hb1⟩; replace kb := kb.grow hb1; replace kI := grow_blk hb1 kI; replace HB := bl_call hb1 HB; clear hb1) | (go_at_call 22; (try rw [itoa_str]); refine (WS_c w.heap.size b _ _ _ kb (by first | omega | (simp only [List.length_append, List.length_cons, List.length_nil, bldl]; omega) | (rw [bsz]; (try simp only [List.length_append, List.length_cons, List.length_nil, bldl]); omega)) HB.size).mono ?_; rintro e w2 ⟨rfl, kb2, hb2, hk2⟩; replace kI := kept_blk hk2 kI hIb (by decide); replace HB := HB.trans hb2; replace kb := kb2; clear kb2 hb2 hk2))
      have r3 := blk_cell kI 3
      rw [rounds_succ]
      go_wp2_with (first | (go_at_call 24; refine (i4 _ HB).mono ?_; rintro e w1 ⟨rfl, hb1⟩; replace kb := kb.grow hb1; replace kI := grow_blk hb1 kI; replace HB := bl_call hb1 HB; clear hb1) | (go_at_call 22; (try rw [itoa_str]); refine (WS_c w.heap.size b _ _ _ kb (by first | omega | (simp only [List.length_append, List.length_cons, List.length_nil, bldl]; omega) | (rw [bsz]; (try simp only [List.length_append, List.length_cons, List.length_nil, bldl]); omega)) HB.size).mono ?_; rintro e w2 ⟨rfl, kb2, hb2, hk2⟩; replace kI := kept_blk hk2 kI hIb (by decide); replace HB := HB.trans hb2; replace kb := kb2; clear kb2 hb2 hk2))
      rw [rounds_succ]
      go_wp2_with (go_at_call 22; refine (WS_c w.heap.size b _ _ _ kb (by simp only [List.length_append, List.length_cons, List.length_nil, bldl]; rw [nl1]; omega) HB.size).mono ?_; rintro e w2 ⟨rfl, kb2, hb2, hk2⟩; rw [nl2] at kb2; replace HB := HB.trans hb2; replace kb := kb2; clear kb2 hb2 hk2)
      exact ⟨⟨j + 1, by omega, congrArg (Value.int .i64) (by omega), by rw [htx.out, lineB]; simpa only [List.append_assoc] using kb, HB, kb.lt⟩, by simp [RowKit.intOf] <;> omega⟩
    · obtain rfl : j = rs.length := by omega
      have hlt' : ¬ (rs.length : Int) < (rs.length : Int) := by omega
      rw [List.take_of_length_le (Nat.le_refl _)] at kb
      have hT := Tryd.Builder_String_any_k w.heap.size b (textB rs) wr kb HB.size
      go_wp2_with (go_at_call 25; refine hT.mono ?_; rintro e w3 ⟨rfl, _, hb3, _⟩)
      exact bodyPost_ret (v := .string ⟨(textB rs).toArray⟩) (by simp [results, Tryd.results13, go_sem]) rfl ⟨rfl, HB.trans hb3⟩
end Go.Proofs.YtcophjjjkonpjaaDoor

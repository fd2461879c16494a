/- The contract of RecordTurned. -/
import Derived.Test.YtkbgcmfldfbcgaaDoorRf
namespace Go.Proofs.YtkbgcmfldfbcgaaDoor
open Go.RowKit
set_option maxRecDepth 100000
set_option linter.unusedSimpArgs false
set_option linter.unusedVariables false
theorem Turned_text (r r2 : Rcd) (s : ByteArray) (h : chkR r = 0) (hs : s ≠ textR r) (hd : decR s = .ok r2) : r2 ≠ r := by
  rintro rfl
  exact hs (text_dec s r2 hd).2.symm
theorem xor_u8 (a b : UInt8) : bits .xor .u8 (a.toNat : Int) (b.toNat : Int) = ((a ^^^ b).toNat : Int) := by
  rw [u8_xor_nat _ _ a.toNat_lt b.toNat_lt, UInt8.toNat_xor]
theorem set_other {w : World} {a b : Addr} {v : Value} (h : b ≠ a) : (w.setCell a v).cell? b = w.cell? b := by
  first | exact World.cell?_setCell_other w a b v h | exact World.cell?_setCell_other w a v b h | exact World.cell?_setCell_other w a b v (Ne.symm h) | (rw [World.cell?_setCell_other]; exact h) | (rw [World.cell?_setCell_other]; exact Ne.symm h)
theorem str_of {a b : ByteArray} (h : a.toList = b.toList) : a = b := by
  rw [ByteArray.toList_eq, ByteArray.toList_eq] at h
  exact ByteArray.ext (Array.ext' h)
theorem decR_bad (s : ByteArray) (e : Int) (h : decR s = .bad e) : e ≠ 0 := by
  unfold decR at h
  repeat' split at h
  all_goals first | (injection h with h; omega) | cases h
set_option maxHeartbeats 4000000 in
theorem RecordTurned_main (r : Rcd) (at_ : Nat) (b : UInt8) (hb0 : b ≠ 0) (ha : at_ < 65536) (hza : r.a.size ≤ 64) (hzb : r.b.size ≤ 64) (hzc : r.c.size ≤ 64) (h : chkR r = 0) (w : World) (ht : TabP w) (hm : MaxL w) : Calls Tryd.prog 3 #[recV r, .int .u16 (at_ : Int), .int .u8 (b.toNat : Int)] w fun x w' => x = .returned (.bool true) ∧ Below w.heap.size w w' := by
  have hE := fun w ht => rEnc_c r h w ht
  have hD := fun s w hm => recDec_c s w hm
  have hT := fun s r2 hs hd => Turned_text r r2 s h hs hd
  have hW := fun w ht hm => awake26_c w ht hm
  have hz := textR_size r h
  have hz1 : 0 < (textR r).size := by
    show 0 < (List.toArray _).size
    rw [List.size_toArray]
    simp only [partsR, joinL, List.length_append, List.length_cons]
    omega
  obtain ⟨T, hTt⟩ : ∃ T, T = textR r := ⟨_, rfl⟩
  rw [← hTt] at hE hT hz hz1
  clear hTt h
  obtain ⟨rp, rn, ra, rb, rc⟩ := r
  simp only at hza hzb hzc
  have qa : ¬ 64 < (ra.size : Int) := by omega
  have qb : ¬ 64 < (rb.size : Int) := by omega
  have qc : ¬ 64 < (rc.size : Int) := by omega
  have da : decide (64 < (ra.size : Int)) = false := by simp; omega
  have db : decide (64 < (rb.size : Int)) = false := by simp; omega
  have dc : decide (64 < (rc.size : Int)) = false := by simp; omega
  have q0 : ¬ (b.toNat : Int) = 0 := by
    intro q
    have q2 : b.toNat = 0 := by omega
    exact hb0 (by rw [← UInt8.toNat_inj]; exact q2)
  have d0 : ((b.toNat : Int) == 0) = false := by rw [beq_eq_false_iff_ne]; exact q0
  unfold recV at hE ⊢
  simp only at hE ⊢
  replace hE := Lib.hid hE
  replace hD := Lib.hid hD
  replace hT := Lib.hid hT
  replace hW := Lib.hid hW
  replace ht := Lib.hid ht
  replace hm := Lib.hid hm
  clear hza hzb hzc hb0
  go_enter Tryd.func3, Tryd.ntmps3
  go_upto_region 1 with fail
  refine gen_world fun W hW1 => ?_
  have hk : W.heap[w.heap.size]? = some (.cells #[.int .i64 rp, .int .i64 rn, .string ra, .string rb, .string rc] 23 (0, 0)) := by subst hW1; exact blk_new _ _
  have hA : Below w.heap.size w W := by subst hW1; (repeat (first | exact Below.refl _ _ | (refine bl_alloc ?_ _) | (refine bl_drewN ?_ _) | (refine bl_drew ?_) | (refine bl_call (by assumption) ?_) | (refine bl_set _ _ (by simp <;> omega) ?_) | assumption))
  clear hW1
  have ht1 := Lib.hid (tabP_below ht.out rfl hA)
  have hm1 : MaxL W := by
    obtain ⟨m, hm⟩ := hm.out
    exact ⟨m, grow_cell hA hm⟩
  replace hm1 := Lib.hid hm1
  clear ht hm
  go_upto_region 3 with (go_at_call 4; refine (hW.out _ ht1.out hm1.out).mono ?_; rintro e w5 ⟨rfl, hb⟩)
  have kr := grow_blk hb hk
  have hA5 := bl_call hb hA
  have ht5 := Lib.hid (tabP_below ht1.out rfl hb)
  have hm5 : MaxL w5 := by
    obtain ⟨m, hm⟩ := hm1.out
    exact ⟨m, grow_cell hb hm⟩
  replace hm5 := Lib.hid hm5
  clear hk hA hb ht1 hm1 hW
  have c0 : w5.cell? ⟨w.heap.size, 0, none⟩ = some (.int .i64 rp) := blk_cell kr 0
  have c1 : w5.cell? ⟨w.heap.size, 1, none⟩ = some (.int .i64 rn) := blk_cell kr 1
  have c2 : w5.cell? ⟨w.heap.size, 2, none⟩ = some (.string ra) := blk_cell kr 2
  have c3 : w5.cell? ⟨w.heap.size, 3, none⟩ = some (.string rb) := blk_cell kr 3
  have c4 : w5.cell? ⟨w.heap.size, 4, none⟩ = some (.string rc) := blk_cell kr 4
  go_upto_region 8 with (go_at_call 5; refine (hE.out _ ht5.out).mono ?_; rintro e w6 ⟨rfl, hb⟩)
  have kr6 := grow_blk hb kr
  have hA6 := bl_call hb hA5
  have hm6 : MaxL w6 := by
    obtain ⟨m, hm⟩ := hm5.out
    exact ⟨m, grow_cell hb hm⟩
  replace hm6 := Lib.hid hm6
  clear kr hA5 hb ht5 hm5 hE c0 c1 c2 c3 c4
  have hb6 := blk_lt kr6
  go_upto_region 9 with (refine wpList_convSBw rfl rfl rfl Tryd.underlying9 Tryd.underlying29 Tryd.underlying5 ?_; intro cap cur w7 kG hcur hb)
  obtain ⟨k, hkd⟩ : ∃ k, k = at_ % T.size := ⟨_, rfl⟩
  have hk : k < T.size := by rw [hkd]; exact Nat.mod_lt _ hz1
  have hmod : Int.tmod (at_ : Int) (T.size : Int) = (k : Int) := by rw [Int.tmod_eq_emod_of_nonneg (by omega), hkd]; omega
  have hemod : (at_ : Int) % (T.size : Int) = (k : Int) := by rw [hkd]; omega
  have hkI : (k : Int) < (T.size : Int) := by omega
  have hk0 : 0 ≤ (k : Int) := by omega
  have hcs : k < cur.size := by
    have := hcur k hk
    exact (Array.getElem?_eq_some_iff.1 this).1
  obtain ⟨c, hc⟩ : ∃ c, c = T.data.toList.getD k 0 := ⟨_, rfl⟩
  obtain ⟨G, hG⟩ : ∃ G, G = w6.heap.size := ⟨_, rfl⟩
  rw [← hG] at kG ⊢
  have hwG : w.heap.size < G := by omega
  have hcG : w7.cell? ⟨G, k, none⟩ = some (.int .u8 (c.toNat : Int)) := by
    rw [hc, ← hcur k hk]
    exact cell_of_row w7 G k cur _ _ kG
  have hfG : w7.frozen? ⟨G, k, none⟩ = false := by
    simp only [World.frozen?, kG]
    simp
    omega
  have kr7 := grow_blk hb kr6
  have hA7 := bl_call hb hA6
  have hm7 : MaxL w7 := by
    obtain ⟨m, hm⟩ := hm6.out
    exact ⟨m, grow_cell hb hm⟩
  replace hm7 := Lib.hid hm7
  have hne0 : ¬ (T.size : Int) = 0 := by omega
  have hcx : c ^^^ b ≠ c := by
    intro q
    have q2 := congrArg (c ^^^ ·) q
    simp only [← UInt8.xor_assoc, UInt8.xor_self, UInt8.zero_xor] at q2
    exact q0 (by rw [q2]; rfl)
  replace hc := Lib.hid hc
  clear hG hkd kr6 hA6 hm6 hb hb6 qa qb qc da db dc
  replace hcur := Lib.hid hcur
  replace kG := Lib.hid kG
  go_upto_region 10 with fail
  refine gen_world fun W8 hW8 => ?_
  rw [xor_u8] at hW8
  have hlen : (T.data.toList.set k (c ^^^ b)).length = T.size := by rw [List.length_set]; exact Array.length_toList
  have hlT : T.data.toList.length = T.size := Array.length_toList
  have rG : RowB W8 (.slice (some ⟨G, 0, none⟩) T.size cap) (T.data.toList.set k (c ^^^ b)) := by
    rw [← hlen]
    refine RowB.of fun j hj => ?_
    rw [Nat.zero_add, hW8, List.getElem_set]
    rw [hlen] at hj
    by_cases e : k = j
    · subst e
      rw [if_pos rfl]
      exact World.cell?_setCell_same' w7 _ _ (by rw [hcG]; rfl)
    · rw [if_neg e, set_other (by intro q; exact e (congrArg Addr.off q).symm)]
      have := cell_of_row w7 G j cur _ _ kG.out
      rw [this, hcur.out j hj, List.getD_eq_getElem?_getD, List.getElem?_eq_getElem (by omega)]
      rfl
  have kr8 : W8.heap[w.heap.size]? = some (.cells #[.int .i64 rp, .int .i64 rn, .string ra, .string rb, .string rc] 23 (0, 0)) := by rw [hW8]; exact blk_far kr7 (by simp; omega) _
  have hA8 : Below w.heap.size w W8 := by rw [hW8]; exact bl_set _ _ (by simp; omega) hA7
  have hm8 : MaxL W8 := by
    obtain ⟨m, hm⟩ := hm7.out
    refine ⟨m, ?_⟩
    rw [hW8, set_other (by intro q; have := congrArg Addr.block q; simp at this; omega)]
    exact hm
  have hS : (⟨(T.data.toList.set k (c ^^^ b)).toArray⟩ : ByteArray) ≠ T := by
    intro q
    have q1 : T.data.toList.set k (c ^^^ b) = T.data.toList := by
      have := congrArg (fun s : ByteArray => s.data.toList) q
      simpa using this
    have q2 := congrArg (fun l : List UInt8 => l.getD k 0) q1
    simp only [List.getD_eq_getElem?_getD, List.getElem?_set] at q2
    rw [if_pos trivial, if_pos (by omega)] at q2
    refine hcx ?_
    have q3 : c = T.data.toList[k]?.getD 0 := by rw [hc.out, List.getD_eq_getElem?_getD]
    rw [q3] at q2 ⊢
    exact q2
  clear hW8 kr7 hA7 hm7 kG hcur hc hcx hcG hfG hmod hemod hkI hk0 hcs hlT q0 d0 hz hz1 hlen
  generalize T.data.toList.set k (c ^^^ b) = s2 at rG hS
  have hd := fun r2 => hT.out _ r2 hS
  have hS2 : (⟨s2.toArray⟩ : ByteArray) = ⟨s2.toArray⟩ := rfl
  have hDs := fun w hm => hD.out ⟨s2.toArray⟩ w hm
  have hbad := decR_bad ⟨s2.toArray⟩
  clear hS hS2 hD hT
  cases hdr : decR ⟨s2.toArray⟩ with
  | bad e1 =>
    have he := hbad e1 hdr
    rw [hdr] at hDs
    simp only [drV, recV, noR] at hDs
    have hDs2 := Lib.hid hDs
    clear hd hdr hbad hDs
    go_wp2_with (first | (refine wpList_convBS rfl rfl rfl rG ?_) | (go_at_call 6; refine (hDs2.out _ hm8).mono ?_; rintro e w9 ⟨rfl, hb9⟩))
    exact bodyPost_ret (v := .bool true) (by simp [results, Tryd.results3, go_sem]) rfl ⟨rfl, by (repeat (first | exact Below.refl _ _ | (refine bl_alloc ?_ _) | (refine bl_drewN ?_ _) | (refine bl_drew ?_) | (refine bl_call (by assumption) ?_) | (refine bl_set _ _ (by simp <;> omega) ?_) | assumption))⟩
  | ok r2 =>
    have he := hd r2 hdr
    rw [hdr] at hDs
    obtain ⟨p2, n2, a2, b2, c2⟩ := r2
    simp only [drV, recV] at hDs
    have hDs2 := Lib.hid hDs
    clear hd hdr hbad hDs
    go_upto_region 11 with (first | (refine wpList_convBS rfl rfl rfl rG ?_) | (go_at_call 6; refine (hDs2.out _ hm8).mono ?_; rintro e w9 ⟨rfl, hb9⟩))
    have kr9 := grow_blk hb9 kr8
    have hA9 := bl_call hb9 hA8
    refine gen_world fun W10 hW10 => ?_
    have kr10 : W10.heap[w.heap.size]? = some (.cells #[.int .i64 rp, .int .i64 rn, .string ra, .string rb, .string rc] 23 (0, 0)) := by rw [hW10]; exact blk_alloc kr9 _
    have kn10 : W10.heap[w9.heap.size]? = some (.cells #[.int .i64 p2, .int .i64 n2, .string a2, .string b2, .string c2] 23 (0, 0)) := by rw [hW10]; exact blk_new _ _
    have hA10 : Below w.heap.size w W10 := by rw [hW10]; (repeat (first | exact Below.refl _ _ | (refine bl_alloc ?_ _) | (refine bl_drewN ?_ _) | (refine bl_drew ?_) | (refine bl_call (by assumption) ?_) | (refine bl_set _ _ (by simp <;> omega) ?_) | assumption))
    clear hW10 kr9 hA9 kr8 hA8 hm8 hb9 hDs2 rG
    have c0 : W10.cell? ⟨w.heap.size, 0, none⟩ = some (.int .i64 rp) := blk_cell kr10 0
    have c1 : W10.cell? ⟨w.heap.size, 1, none⟩ = some (.int .i64 rn) := blk_cell kr10 1
    have c2' : W10.cell? ⟨w.heap.size, 2, none⟩ = some (.string ra) := blk_cell kr10 2
    have c3 : W10.cell? ⟨w.heap.size, 3, none⟩ = some (.string rb) := blk_cell kr10 3
    have c4 : W10.cell? ⟨w.heap.size, 4, none⟩ = some (.string rc) := blk_cell kr10 4
    have d0 : W10.cell? ⟨w9.heap.size, 0, none⟩ = some (.int .i64 p2) := blk_cell kn10 0
    have d1 : W10.cell? ⟨w9.heap.size, 1, none⟩ = some (.int .i64 n2) := blk_cell kn10 1
    have d2 : W10.cell? ⟨w9.heap.size, 2, none⟩ = some (.string a2) := blk_cell kn10 2
    have d3 : W10.cell? ⟨w9.heap.size, 3, none⟩ = some (.string b2) := blk_cell kn10 3
    have d4 : W10.cell? ⟨w9.heap.size, 4, none⟩ = some (.string c2) := blk_cell kn10 4
    clear kr10 kn10
    go_wp2_with fail
    · rename_i q1 q2 q3 q4 q5
      refine absurd ?_ he
      rw [q1, q2, str_of q3, str_of q4, str_of q5]
    all_goals exact bodyPost_ret (v := .bool true) (by simp [results, Tryd.results3, go_sem]) rfl ⟨rfl, hA10⟩
set_option maxHeartbeats 1000000 in
theorem Turned_a (r : Rcd) (at_ : Nat) (b : UInt8) (ha : 64 < r.a.size) (hb : True) (hc : True) (w : World) (ht : TabP w) (hm : MaxL w) : Calls Tryd.prog 3 #[recV r, .int .u16 (at_ : Int), .int .u8 (b.toNat : Int)] w fun x w' => x = .returned (.bool true) ∧ Below w.heap.size w w' := by
  have hW := fun w ht hm => awake26_c w ht hm
  replace hW := Lib.hid hW
  replace ht := Lib.hid ht
  replace hm := Lib.hid hm
  obtain ⟨rp, rn, ra, rb, rc⟩ := r
  simp only at ha hb hc
  unfold recV
  simp only
  have qa : 64 < (ra.size : Int) := by omega
  have da : decide (64 < (ra.size : Int)) = true := by simp; omega
  clear ha hb hc
  go_enter Tryd.func3, Tryd.ntmps3
  go_upto_region 1 with fail
  refine gen_world fun W hW1 => ?_
  have hk : W.heap[w.heap.size]? = some (.cells #[.int .i64 rp, .int .i64 rn, .string ra, .string rb, .string rc] 23 (0, 0)) := by subst hW1; exact blk_new _ _
  have hA : Below w.heap.size w W := by subst hW1; (repeat (first | exact Below.refl _ _ | (refine bl_alloc ?_ _) | (refine bl_drewN ?_ _) | (refine bl_drew ?_) | (refine bl_call (by assumption) ?_) | (refine bl_set _ _ (by simp <;> omega) ?_) | assumption))
  clear hW1
  have ht1 := Lib.hid (tabP_below ht.out rfl hA)
  have hm1 : MaxL W := by
    obtain ⟨m, hm⟩ := hm.out
    exact ⟨m, grow_cell hA hm⟩
  replace hm1 := Lib.hid hm1
  clear ht hm
  go_upto_region 3 with (go_at_call 4; refine (hW.out _ ht1.out hm1.out).mono ?_; rintro e w5 ⟨rfl, hb⟩)
  have kr := grow_blk hb hk
  have hA5 := bl_call hb hA
  clear hk hA hb ht1 hm1 hW
  have c0 : w5.cell? ⟨w.heap.size, 0, none⟩ = some (.int .i64 rp) := blk_cell kr 0
  have c1 : w5.cell? ⟨w.heap.size, 1, none⟩ = some (.int .i64 rn) := blk_cell kr 1
  have c2 : w5.cell? ⟨w.heap.size, 2, none⟩ = some (.string ra) := blk_cell kr 2
  have c3 : w5.cell? ⟨w.heap.size, 3, none⟩ = some (.string rb) := blk_cell kr 3
  have c4 : w5.cell? ⟨w.heap.size, 4, none⟩ = some (.string rc) := blk_cell kr 4
  clear kr
  go_wp2_with fail
  exact bodyPost_ret (v := .bool true) (by simp [results, Tryd.results3, go_sem]) rfl ⟨rfl, hA5⟩
set_option maxHeartbeats 1000000 in
theorem Turned_b (r : Rcd) (at_ : Nat) (b : UInt8) (ha : ¬ 64 < r.a.size) (hb : 64 < r.b.size) (hc : True) (w : World) (ht : TabP w) (hm : MaxL w) : Calls Tryd.prog 3 #[recV r, .int .u16 (at_ : Int), .int .u8 (b.toNat : Int)] w fun x w' => x = .returned (.bool true) ∧ Below w.heap.size w w' := by
  have hW := fun w ht hm => awake26_c w ht hm
  replace hW := Lib.hid hW
  replace ht := Lib.hid ht
  replace hm := Lib.hid hm
  obtain ⟨rp, rn, ra, rb, rc⟩ := r
  simp only at ha hb hc
  unfold recV
  simp only
  have qa : ¬ 64 < (ra.size : Int) := by omega
  have da : decide (64 < (ra.size : Int)) = false := by simp; omega
  have qb : 64 < (rb.size : Int) := by omega
  have db : decide (64 < (rb.size : Int)) = true := by simp; omega
  clear ha hb hc
  go_enter Tryd.func3, Tryd.ntmps3
  go_upto_region 1 with fail
  refine gen_world fun W hW1 => ?_
  have hk : W.heap[w.heap.size]? = some (.cells #[.int .i64 rp, .int .i64 rn, .string ra, .string rb, .string rc] 23 (0, 0)) := by subst hW1; exact blk_new _ _
  have hA : Below w.heap.size w W := by subst hW1; (repeat (first | exact Below.refl _ _ | (refine bl_alloc ?_ _) | (refine bl_drewN ?_ _) | (refine bl_drew ?_) | (refine bl_call (by assumption) ?_) | (refine bl_set _ _ (by simp <;> omega) ?_) | assumption))
  clear hW1
  have ht1 := Lib.hid (tabP_below ht.out rfl hA)
  have hm1 : MaxL W := by
    obtain ⟨m, hm⟩ := hm.out
    exact ⟨m, grow_cell hA hm⟩
  replace hm1 := Lib.hid hm1
  clear ht hm
  go_upto_region 3 with (go_at_call 4; refine (hW.out _ ht1.out hm1.out).mono ?_; rintro e w5 ⟨rfl, hb⟩)
  have kr := grow_blk hb hk
  have hA5 := bl_call hb hA
  clear hk hA hb ht1 hm1 hW
  have c0 : w5.cell? ⟨w.heap.size, 0, none⟩ = some (.int .i64 rp) := blk_cell kr 0
  have c1 : w5.cell? ⟨w.heap.size, 1, none⟩ = some (.int .i64 rn) := blk_cell kr 1
  have c2 : w5.cell? ⟨w.heap.size, 2, none⟩ = some (.string ra) := blk_cell kr 2
  have c3 : w5.cell? ⟨w.heap.size, 3, none⟩ = some (.string rb) := blk_cell kr 3
  have c4 : w5.cell? ⟨w.heap.size, 4, none⟩ = some (.string rc) := blk_cell kr 4
  clear kr
  go_wp2_with fail
  exact bodyPost_ret (v := .bool true) (by simp [results, Tryd.results3, go_sem]) rfl ⟨rfl, hA5⟩
set_option maxHeartbeats 1000000 in
theorem Turned_c (r : Rcd) (at_ : Nat) (b : UInt8) (ha : ¬ 64 < r.a.size) (hb : ¬ 64 < r.b.size) (hc : 64 < r.c.size) (w : World) (ht : TabP w) (hm : MaxL w) : Calls Tryd.prog 3 #[recV r, .int .u16 (at_ : Int), .int .u8 (b.toNat : Int)] w fun x w' => x = .returned (.bool true) ∧ Below w.heap.size w w' := by
  have hW := fun w ht hm => awake26_c w ht hm
  replace hW := Lib.hid hW
  replace ht := Lib.hid ht
  replace hm := Lib.hid hm
  obtain ⟨rp, rn, ra, rb, rc⟩ := r
  simp only at ha hb hc
  unfold recV
  simp only
  have qa : ¬ 64 < (ra.size : Int) := by omega
  have da : decide (64 < (ra.size : Int)) = false := by simp; omega
  have qb : ¬ 64 < (rb.size : Int) := by omega
  have db : decide (64 < (rb.size : Int)) = false := by simp; omega
  have qc : 64 < (rc.size : Int) := by omega
  have dc : decide (64 < (rc.size : Int)) = true := by simp; omega
  clear ha hb hc
  go_enter Tryd.func3, Tryd.ntmps3
  go_upto_region 1 with fail
  refine gen_world fun W hW1 => ?_
  have hk : W.heap[w.heap.size]? = some (.cells #[.int .i64 rp, .int .i64 rn, .string ra, .string rb, .string rc] 23 (0, 0)) := by subst hW1; exact blk_new _ _
  have hA : Below w.heap.size w W := by subst hW1; (repeat (first | exact Below.refl _ _ | (refine bl_alloc ?_ _) | (refine bl_drewN ?_ _) | (refine bl_drew ?_) | (refine bl_call (by assumption) ?_) | (refine bl_set _ _ (by simp <;> omega) ?_) | assumption))
  clear hW1
  have ht1 := Lib.hid (tabP_below ht.out rfl hA)
  have hm1 : MaxL W := by
    obtain ⟨m, hm⟩ := hm.out
    exact ⟨m, grow_cell hA hm⟩
  replace hm1 := Lib.hid hm1
  clear ht hm
  go_upto_region 3 with (go_at_call 4; refine (hW.out _ ht1.out hm1.out).mono ?_; rintro e w5 ⟨rfl, hb⟩)
  have kr := grow_blk hb hk
  have hA5 := bl_call hb hA
  clear hk hA hb ht1 hm1 hW
  have c0 : w5.cell? ⟨w.heap.size, 0, none⟩ = some (.int .i64 rp) := blk_cell kr 0
  have c1 : w5.cell? ⟨w.heap.size, 1, none⟩ = some (.int .i64 rn) := blk_cell kr 1
  have c2 : w5.cell? ⟨w.heap.size, 2, none⟩ = some (.string ra) := blk_cell kr 2
  have c3 : w5.cell? ⟨w.heap.size, 3, none⟩ = some (.string rb) := blk_cell kr 3
  have c4 : w5.cell? ⟨w.heap.size, 4, none⟩ = some (.string rc) := blk_cell kr 4
  clear kr
  go_wp2_with fail
  exact bodyPost_ret (v := .bool true) (by simp [results, Tryd.results3, go_sem]) rfl ⟨rfl, hA5⟩
set_option maxHeartbeats 1000000 in
theorem Turned_0 (r : Rcd) (at_ : Nat) (b : UInt8) (ha : ¬ 64 < r.a.size) (hb : ¬ 64 < r.b.size) (hc : ¬ 64 < r.c.size) (h0 : b = 0) (w : World) (ht : TabP w) (hm : MaxL w) : Calls Tryd.prog 3 #[recV r, .int .u16 (at_ : Int), .int .u8 (b.toNat : Int)] w fun x w' => x = .returned (.bool true) ∧ Below w.heap.size w w' := by
  have hW := fun w ht hm => awake26_c w ht hm
  replace hW := Lib.hid hW
  replace ht := Lib.hid ht
  replace hm := Lib.hid hm
  obtain ⟨rp, rn, ra, rb, rc⟩ := r
  simp only at ha hb hc
  unfold recV
  simp only
  have qa : ¬ 64 < (ra.size : Int) := by omega
  have da : decide (64 < (ra.size : Int)) = false := by simp; omega
  have qb : ¬ 64 < (rb.size : Int) := by omega
  have db : decide (64 < (rb.size : Int)) = false := by simp; omega
  have qc : ¬ 64 < (rc.size : Int) := by omega
  have dc : decide (64 < (rc.size : Int)) = false := by simp; omega
  have e0 : (b.toNat : Int) = 0 := by rw [h0]; rfl
  clear h0
  clear ha hb hc
  go_enter Tryd.func3, Tryd.ntmps3
  go_upto_region 1 with fail
  refine gen_world fun W hW1 => ?_
  have hk : W.heap[w.heap.size]? = some (.cells #[.int .i64 rp, .int .i64 rn, .string ra, .string rb, .string rc] 23 (0, 0)) := by subst hW1; exact blk_new _ _
  have hA : Below w.heap.size w W := by subst hW1; (repeat (first | exact Below.refl _ _ | (refine bl_alloc ?_ _) | (refine bl_drewN ?_ _) | (refine bl_drew ?_) | (refine bl_call (by assumption) ?_) | (refine bl_set _ _ (by simp <;> omega) ?_) | assumption))
  clear hW1
  have ht1 := Lib.hid (tabP_below ht.out rfl hA)
  have hm1 : MaxL W := by
    obtain ⟨m, hm⟩ := hm.out
    exact ⟨m, grow_cell hA hm⟩
  replace hm1 := Lib.hid hm1
  clear ht hm
  go_upto_region 3 with (go_at_call 4; refine (hW.out _ ht1.out hm1.out).mono ?_; rintro e w5 ⟨rfl, hb⟩)
  have kr := grow_blk hb hk
  have hA5 := bl_call hb hA
  clear hk hA hb ht1 hm1 hW
  have c0 : w5.cell? ⟨w.heap.size, 0, none⟩ = some (.int .i64 rp) := blk_cell kr 0
  have c1 : w5.cell? ⟨w.heap.size, 1, none⟩ = some (.int .i64 rn) := blk_cell kr 1
  have c2 : w5.cell? ⟨w.heap.size, 2, none⟩ = some (.string ra) := blk_cell kr 2
  have c3 : w5.cell? ⟨w.heap.size, 3, none⟩ = some (.string rb) := blk_cell kr 3
  have c4 : w5.cell? ⟨w.heap.size, 4, none⟩ = some (.string rc) := blk_cell kr 4
  clear kr
  go_wp2_with fail
  exact bodyPost_ret (v := .bool true) (by simp [results, Tryd.results3, go_sem]) rfl ⟨rfl, hA5⟩
set_option maxHeartbeats 1000000 in
theorem Turned_e (r : Rcd) (at_ : Nat) (b : UInt8) (ha : ¬ 64 < r.a.size) (hb : ¬ 64 < r.b.size) (hc : ¬ 64 < r.c.size) (h0 : b ≠ 0) (he : chkR r ≠ 0) (w : World) (ht : TabP w) (hm : MaxL w) : Calls Tryd.prog 3 #[recV r, .int .u16 (at_ : Int), .int .u8 (b.toNat : Int)] w fun x w' => x = .returned (.bool true) ∧ Below w.heap.size w w' := by
  have hW := fun w ht hm => awake26_c w ht hm
  replace hW := Lib.hid hW
  replace ht := Lib.hid ht
  replace hm := Lib.hid hm
  have hE := fun w => rEnc_no r he w
  obtain ⟨rp, rn, ra, rb, rc⟩ := r
  simp only at ha hb hc
  unfold recV at hE ⊢
  simp only at hE ⊢
  have qa : ¬ 64 < (ra.size : Int) := by omega
  have da : decide (64 < (ra.size : Int)) = false := by simp; omega
  have qb : ¬ 64 < (rb.size : Int) := by omega
  have db : decide (64 < (rb.size : Int)) = false := by simp; omega
  have qc : ¬ 64 < (rc.size : Int) := by omega
  have dc : decide (64 < (rc.size : Int)) = false := by simp; omega
  have q0 : ¬ (b.toNat : Int) = 0 := by
    intro q
    have q2 : b.toNat = 0 := by omega
    exact h0 (by rw [← UInt8.toNat_inj]; exact q2)
  have d0 : ((b.toNat : Int) == 0) = false := by rw [beq_eq_false_iff_ne]; exact q0
  generalize chkR _ = E at he hE
  replace hE := Lib.hid hE
  clear ha hb hc h0
  go_enter Tryd.func3, Tryd.ntmps3
  go_upto_region 1 with fail
  refine gen_world fun W hW1 => ?_
  have hk : W.heap[w.heap.size]? = some (.cells #[.int .i64 rp, .int .i64 rn, .string ra, .string rb, .string rc] 23 (0, 0)) := by subst hW1; exact blk_new _ _
  have hA : Below w.heap.size w W := by subst hW1; (repeat (first | exact Below.refl _ _ | (refine bl_alloc ?_ _) | (refine bl_drewN ?_ _) | (refine bl_drew ?_) | (refine bl_call (by assumption) ?_) | (refine bl_set _ _ (by simp <;> omega) ?_) | assumption))
  clear hW1
  have ht1 := Lib.hid (tabP_below ht.out rfl hA)
  have hm1 : MaxL W := by
    obtain ⟨m, hm⟩ := hm.out
    exact ⟨m, grow_cell hA hm⟩
  replace hm1 := Lib.hid hm1
  clear ht hm
  go_upto_region 3 with (go_at_call 4; refine (hW.out _ ht1.out hm1.out).mono ?_; rintro e w5 ⟨rfl, hb⟩)
  have kr := grow_blk hb hk
  have hA5 := bl_call hb hA
  clear hk hA hb ht1 hm1 hW
  have c0 : w5.cell? ⟨w.heap.size, 0, none⟩ = some (.int .i64 rp) := blk_cell kr 0
  have c1 : w5.cell? ⟨w.heap.size, 1, none⟩ = some (.int .i64 rn) := blk_cell kr 1
  have c2 : w5.cell? ⟨w.heap.size, 2, none⟩ = some (.string ra) := blk_cell kr 2
  have c3 : w5.cell? ⟨w.heap.size, 3, none⟩ = some (.string rb) := blk_cell kr 3
  have c4 : w5.cell? ⟨w.heap.size, 4, none⟩ = some (.string rc) := blk_cell kr 4
  clear kr
  go_wp2_with (go_at_call 5; refine (hE.out _).mono ?_; rintro e w6 ⟨rfl, hb6⟩)
  exact bodyPost_ret (v := .bool true) (by simp [results, Tryd.results3, go_sem]) rfl ⟨rfl, bl_call hb6 hA5⟩
theorem RecordTurned_c (r : Rcd) (at_ : Nat) (b : UInt8) (ha : at_ < 65536) (w : World) (ht : TabP w) (hm : MaxL w) : Calls Tryd.prog 3 #[recV r, .int .u16 (at_ : Int), .int .u8 (b.toNat : Int)] w fun x w' => x = .returned (.bool true) ∧ Below w.heap.size w w' := by
  by_cases h1 : 64 < r.a.size
  · exact Turned_a r at_ b h1 trivial trivial w ht hm
  by_cases h2 : 64 < r.b.size
  · exact Turned_b r at_ b h1 h2 trivial w ht hm
  by_cases h3 : 64 < r.c.size
  · exact Turned_c r at_ b h1 h2 h3 w ht hm
  by_cases h4 : b = 0
  · exact Turned_0 r at_ b h1 h2 h3 h4 w ht hm
  by_cases h5 : chkR r = 0
  · exact RecordTurned_main r at_ b h4 ha (by omega) (by omega) (by omega) h5 w ht hm
  · exact Turned_e r at_ b h1 h2 h3 h4 h5 w ht hm
end Go.Proofs.YtkbgcmfldfbcgaaDoor

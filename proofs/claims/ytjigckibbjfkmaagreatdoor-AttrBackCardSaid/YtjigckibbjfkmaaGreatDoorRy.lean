/- Reference 33: Right. -/
import Derived.Test.YtjigckibbjfkmaaGreatDoorRx
import Derived.Test.YtjigckibbjfkmaaGreatDoorRt
import Derived.Test.YtjigckibbjfkmaaGreatDoorPy
import Derived.Test.YtjigckibbjfkmaaGreatDoorMp
namespace Go.Proofs.YtjigckibbjfkmaaGreatDoor
open Go.RowKit
set_option maxRecDepth 100000
set_option linter.unusedSimpArgs false
set_option linter.unusedVariables false
theorem bs_nil {s : ByteArray} : s.data.toList = [] ↔ s = ⟨#[]⟩ := ⟨fun q => bs_ext q, fun q => by rw [q]⟩
theorem bz00 : (⟨#[]⟩ : ByteArray).size = 0 := rfl
theorem r1_iff (u n s p g f : ByteArray) (i : Int) : rightM (toM ⟨1, u, n, s, i, p, g, f⟩) ↔ (s = ⟨#[]⟩ ∧ i = 0 ∧ p = ⟨#[]⟩ ∧ g = ⟨#[]⟩ ∧ f = ⟨#[]⟩ ∧ nameOk u.data.toList = true ∧ nonceOk n.data.toList = true) := by
  unfold rightM toM
  simp only [bs_nil]
  constructor
  · rintro (q | q | q | q)
    · exact q.2
    · exact absurd q.1 (by decide)
    · exact absurd q.1 (by decide)
    · exact absurd q.1 (by decide)
  · intro q; exact .inl ⟨trivial, q⟩
theorem r2_iff (u n s p g f : ByteArray) (i : Int) : rightM (toM ⟨2, u, n, s, i, p, g, f⟩) ↔ (u = ⟨#[]⟩ ∧ p = ⟨#[]⟩ ∧ g = ⟨#[]⟩ ∧ f = ⟨#[]⟩ ∧ nonceOk n.data.toList = true ∧ (1 ≤ s.size ∧ s.size ≤ 64) ∧ 1 ≤ i ∧ i ≤ 16777216) := by
  unfold rightM toM
  simp only [bs_nil, zlen]
  constructor
  · rintro (q | q | q | q)
    · exact absurd q.1 (by decide)
    · exact q.2
    · exact absurd q.1 (by decide)
    · exact absurd q.1 (by decide)
  · intro q; exact .inr (.inl ⟨trivial, q⟩)
theorem r3_iff (u n s p g f : ByteArray) (i : Int) : rightM (toM ⟨3, u, n, s, i, p, g, f⟩) ↔ (u = ⟨#[]⟩ ∧ s = ⟨#[]⟩ ∧ i = 0 ∧ g = ⟨#[]⟩ ∧ f = ⟨#[]⟩ ∧ nonceOk n.data.toList = true ∧ p.size = 32) := by
  unfold rightM toM
  simp only [bs_nil, zlen]
  constructor
  · rintro (q | q | q | q)
    · exact absurd q.1 (by decide)
    · exact absurd q.1 (by decide)
    · exact q.2
    · exact absurd q.1 (by decide)
  · intro q; exact .inr (.inr (.inl ⟨trivial, q⟩))
theorem r4_iff (u n s p g f : ByteArray) (i : Int) : rightM (toM ⟨4, u, n, s, i, p, g, f⟩) ↔ (u = ⟨#[]⟩ ∧ n = ⟨#[]⟩ ∧ s = ⟨#[]⟩ ∧ i = 0 ∧ p = ⟨#[]⟩ ∧ ((g.size = 32 ∧ f = ⟨#[]⟩) ∨ (g = ⟨#[]⟩ ∧ failOk f.data.toList = true))) := by
  unfold rightM toM
  simp only [bs_nil, zlen]
  constructor
  · rintro (q | q | q | q)
    · exact absurd q.1 (by decide)
    · exact absurd q.1 (by decide)
    · exact absurd q.1 (by decide)
    · exact q.2
  · intro q; exact .inr (.inr (.inr ⟨trivial, q⟩))
set_option maxHeartbeats 8000000 in
theorem rRight_1 (u n s p g f : ByteArray) (i : Int) (hz : SzM ⟨1, u, n, s, i, p, g, f⟩) (w : World) : Calls Tryz.prog 9 #[mv ⟨1, u, n, s, i, p, g, f⟩] w fun e w' => e = .returned (.bool (decide (rightM (toM ⟨1, u, n, s, i, p, g, f⟩)))) ∧ Below w.heap.size w w' := by
  have hName := fun w => rname_c u (by have := hz.u; simp only at this; omega) w
  have hNon := fun w => rnonce_c n (by have := hz.n; simp only at this; omega) w
  obtain ⟨X, hX⟩ : ∃ X, X = decide (rightM (toM ⟨1, u, n, s, i, p, g, f⟩)) := ⟨_, rfl⟩
  rw [← hX]
  have hd := r1_iff u n s p g f i
  replace hX : X = decide _ := hX.trans (decide_eq_decide.2 hd)
  clear hd hz
  replace hX := Lib.hid hX
  unfold mv
  by_cases hs : s = ⟨#[]⟩
  · obtain ⟨es1, es2⟩ := emp_yes hs
    by_cases hg : g = ⟨#[]⟩
    · obtain ⟨eg1, eg2⟩ := emp_yes hg
      by_cases hi : i = 0
      · subst hi
        by_cases hp : p = ⟨#[]⟩
        · obtain ⟨ep1, ep2⟩ := emp_yes hp
          by_cases hf : f = ⟨#[]⟩
          · obtain ⟨ef1, ef2⟩ := emp_yes hf
            cases hV1 : nameOk u.data.toList
            · rw [hV1] at hName
              have hX2 := Lib.hid (show X = false by rw [hX.out]; simp [hs, hg, hp, hf, hV1])
              clear hX hs hg hp hf hV1
              go_enter Tryz.func9, Tryz.ntmps9
              go_upto_region 1 with fail
              refine gen_world fun W hW => ?_
              have hk_ : W.heap[w.heap.size]? = some (.cells (mA ⟨1, u, n, s, 0, p, g, f⟩) 23 (0, 0)) := by subst hW; exact blk_new _ _
              have hAb : Below w.heap.size w W := by subst hW; (repeat (first | exact Below.refl _ _ | (refine bl_alloc ?_ _) | (refine bl_drewN ?_ _) | (refine bl_drew ?_) | (refine bl_call (by assumption) ?_) | (refine bl_set _ _ (by simp <;> omega) ?_) | assumption))
              clear hW
              have b0 : W.cell? ⟨w.heap.size, 0, none⟩ = some (.int .i64 1) := blk_cell hk_ 0
              have b1 : W.cell? ⟨w.heap.size, 1, none⟩ = some (.string u) := blk_cell hk_ 1
              have b2 : W.cell? ⟨w.heap.size, 2, none⟩ = some (.string n) := blk_cell hk_ 2
              have b3 : W.cell? ⟨w.heap.size, 3, none⟩ = some (.string s) := blk_cell hk_ 3
              have b4 : W.cell? ⟨w.heap.size, 4, none⟩ = some (.int .i64 0) := blk_cell hk_ 4
              have b5 : W.cell? ⟨w.heap.size, 5, none⟩ = some (.string p) := blk_cell hk_ 5
              have b6 : W.cell? ⟨w.heap.size, 6, none⟩ = some (.string g) := blk_cell hk_ 6
              have b7 : W.cell? ⟨w.heap.size, 7, none⟩ = some (.string f) := blk_cell hk_ 7
              clear hk_
              go_wp2_with (first | (go_at_call 22; refine (hName _).mono ?_; rintro e w5 ⟨rfl, hb5⟩; have hb_ := bl_call hb5 hAb; replace hAb := hb_; have c0 := grow_cell hb5 b0; have c1 := grow_cell hb5 b1; have c2 := grow_cell hb5 b2; have c3 := grow_cell hb5 b3; have c4 := grow_cell hb5 b4; have c5 := grow_cell hb5 b5; have c6 := grow_cell hb5 b6; have c7 := grow_cell hb5 b7))
              exact bodyPost_ret (v := .bool false) (by simp [results, Tryz.results9, go_sem]) rfl ⟨by rw [hX2.out], hAb⟩
            · rw [hV1] at hName
              cases hV2 : nonceOk n.data.toList
              · rw [hV2] at hNon
                have hX2 := Lib.hid (show X = false by rw [hX.out]; simp [hs, hg, hp, hf, hV1, hV2])
                clear hX hs hg hp hf hV1 hV2
                go_enter Tryz.func9, Tryz.ntmps9
                go_upto_region 1 with fail
                refine gen_world fun W hW => ?_
                have hk_ : W.heap[w.heap.size]? = some (.cells (mA ⟨1, u, n, s, 0, p, g, f⟩) 23 (0, 0)) := by subst hW; exact blk_new _ _
                have hAb : Below w.heap.size w W := by subst hW; (repeat (first | exact Below.refl _ _ | (refine bl_alloc ?_ _) | (refine bl_drewN ?_ _) | (refine bl_drew ?_) | (refine bl_call (by assumption) ?_) | (refine bl_set _ _ (by simp <;> omega) ?_) | assumption))
                clear hW
                have b0 : W.cell? ⟨w.heap.size, 0, none⟩ = some (.int .i64 1) := blk_cell hk_ 0
                have b1 : W.cell? ⟨w.heap.size, 1, none⟩ = some (.string u) := blk_cell hk_ 1
                have b2 : W.cell? ⟨w.heap.size, 2, none⟩ = some (.string n) := blk_cell hk_ 2
                have b3 : W.cell? ⟨w.heap.size, 3, none⟩ = some (.string s) := blk_cell hk_ 3
                have b4 : W.cell? ⟨w.heap.size, 4, none⟩ = some (.int .i64 0) := blk_cell hk_ 4
                have b5 : W.cell? ⟨w.heap.size, 5, none⟩ = some (.string p) := blk_cell hk_ 5
                have b6 : W.cell? ⟨w.heap.size, 6, none⟩ = some (.string g) := blk_cell hk_ 6
                have b7 : W.cell? ⟨w.heap.size, 7, none⟩ = some (.string f) := blk_cell hk_ 7
                clear hk_
                go_wp2_with (first | (go_at_call 22; refine (hName _).mono ?_; rintro e w5 ⟨rfl, hb5⟩; have hb_ := bl_call hb5 hAb; replace hAb := hb_; have c0 := grow_cell hb5 b0; have c1 := grow_cell hb5 b1; have c2 := grow_cell hb5 b2; have c3 := grow_cell hb5 b3; have c4 := grow_cell hb5 b4; have c5 := grow_cell hb5 b5; have c6 := grow_cell hb5 b6; have c7 := grow_cell hb5 b7) | (go_at_call 23; refine (hNon _).mono ?_; rintro e w6 ⟨rfl, hb6⟩; have hb_ := bl_call hb6 hAb; replace hAb := hb_; have d0 := grow_cell hb6 c0; have d1 := grow_cell hb6 c1; have d2 := grow_cell hb6 c2; have d3 := grow_cell hb6 c3; have d4 := grow_cell hb6 c4; have d5 := grow_cell hb6 c5; have d6 := grow_cell hb6 c6; have d7 := grow_cell hb6 c7))
                exact bodyPost_ret (v := .bool false) (by simp [results, Tryz.results9, go_sem]) rfl ⟨by rw [hX2.out], hAb⟩
              · rw [hV2] at hNon
                have hX2 := Lib.hid (show X = true by rw [hX.out]; simp [hs, hg, hp, hf, hV1, hV2])
                clear hX hs hg hp hf hV1 hV2
                go_enter Tryz.func9, Tryz.ntmps9
                go_upto_region 1 with fail
                refine gen_world fun W hW => ?_
                have hk_ : W.heap[w.heap.size]? = some (.cells (mA ⟨1, u, n, s, 0, p, g, f⟩) 23 (0, 0)) := by subst hW; exact blk_new _ _
                have hAb : Below w.heap.size w W := by subst hW; (repeat (first | exact Below.refl _ _ | (refine bl_alloc ?_ _) | (refine bl_drewN ?_ _) | (refine bl_drew ?_) | (refine bl_call (by assumption) ?_) | (refine bl_set _ _ (by simp <;> omega) ?_) | assumption))
                clear hW
                have b0 : W.cell? ⟨w.heap.size, 0, none⟩ = some (.int .i64 1) := blk_cell hk_ 0
                have b1 : W.cell? ⟨w.heap.size, 1, none⟩ = some (.string u) := blk_cell hk_ 1
                have b2 : W.cell? ⟨w.heap.size, 2, none⟩ = some (.string n) := blk_cell hk_ 2
                have b3 : W.cell? ⟨w.heap.size, 3, none⟩ = some (.string s) := blk_cell hk_ 3
                have b4 : W.cell? ⟨w.heap.size, 4, none⟩ = some (.int .i64 0) := blk_cell hk_ 4
                have b5 : W.cell? ⟨w.heap.size, 5, none⟩ = some (.string p) := blk_cell hk_ 5
                have b6 : W.cell? ⟨w.heap.size, 6, none⟩ = some (.string g) := blk_cell hk_ 6
                have b7 : W.cell? ⟨w.heap.size, 7, none⟩ = some (.string f) := blk_cell hk_ 7
                clear hk_
                go_wp2_with (first | (go_at_call 22; refine (hName _).mono ?_; rintro e w5 ⟨rfl, hb5⟩; have hb_ := bl_call hb5 hAb; replace hAb := hb_; have c0 := grow_cell hb5 b0; have c1 := grow_cell hb5 b1; have c2 := grow_cell hb5 b2; have c3 := grow_cell hb5 b3; have c4 := grow_cell hb5 b4; have c5 := grow_cell hb5 b5; have c6 := grow_cell hb5 b6; have c7 := grow_cell hb5 b7) | (go_at_call 23; refine (hNon _).mono ?_; rintro e w6 ⟨rfl, hb6⟩; have hb_ := bl_call hb6 hAb; replace hAb := hb_; have d0 := grow_cell hb6 c0; have d1 := grow_cell hb6 c1; have d2 := grow_cell hb6 c2; have d3 := grow_cell hb6 c3; have d4 := grow_cell hb6 c4; have d5 := grow_cell hb6 c5; have d6 := grow_cell hb6 c6; have d7 := grow_cell hb6 c7))
                exact bodyPost_ret (v := .bool true) (by simp [results, Tryz.results9, go_sem]) rfl ⟨by rw [hX2.out], hAb⟩
          · obtain ⟨ef1, ef2⟩ := emp_no hf
            have hX2 := Lib.hid (show X = false by rw [hX.out]; simp [hs, hg, hp, hf])
            clear hX hs hg hp hf
            go_enter Tryz.func9, Tryz.ntmps9
            go_upto_region 1 with fail
            refine gen_world fun W hW => ?_
            have hk_ : W.heap[w.heap.size]? = some (.cells (mA ⟨1, u, n, s, 0, p, g, f⟩) 23 (0, 0)) := by subst hW; exact blk_new _ _
            have hAb : Below w.heap.size w W := by subst hW; (repeat (first | exact Below.refl _ _ | (refine bl_alloc ?_ _) | (refine bl_drewN ?_ _) | (refine bl_drew ?_) | (refine bl_call (by assumption) ?_) | (refine bl_set _ _ (by simp <;> omega) ?_) | assumption))
            clear hW
            have b0 : W.cell? ⟨w.heap.size, 0, none⟩ = some (.int .i64 1) := blk_cell hk_ 0
            have b1 : W.cell? ⟨w.heap.size, 1, none⟩ = some (.string u) := blk_cell hk_ 1
            have b2 : W.cell? ⟨w.heap.size, 2, none⟩ = some (.string n) := blk_cell hk_ 2
            have b3 : W.cell? ⟨w.heap.size, 3, none⟩ = some (.string s) := blk_cell hk_ 3
            have b4 : W.cell? ⟨w.heap.size, 4, none⟩ = some (.int .i64 0) := blk_cell hk_ 4
            have b5 : W.cell? ⟨w.heap.size, 5, none⟩ = some (.string p) := blk_cell hk_ 5
            have b6 : W.cell? ⟨w.heap.size, 6, none⟩ = some (.string g) := blk_cell hk_ 6
            have b7 : W.cell? ⟨w.heap.size, 7, none⟩ = some (.string f) := blk_cell hk_ 7
            clear hk_
            go_wp2_with fail
            exact bodyPost_ret (v := .bool false) (by simp [results, Tryz.results9, go_sem]) rfl ⟨by rw [hX2.out], hAb⟩
        · obtain ⟨ep1, ep2⟩ := emp_no hp
          have hX2 := Lib.hid (show X = false by rw [hX.out]; simp [hs, hg, hp])
          clear hX hs hg hp
          go_enter Tryz.func9, Tryz.ntmps9
          go_upto_region 1 with fail
          refine gen_world fun W hW => ?_
          have hk_ : W.heap[w.heap.size]? = some (.cells (mA ⟨1, u, n, s, 0, p, g, f⟩) 23 (0, 0)) := by subst hW; exact blk_new _ _
          have hAb : Below w.heap.size w W := by subst hW; (repeat (first | exact Below.refl _ _ | (refine bl_alloc ?_ _) | (refine bl_drewN ?_ _) | (refine bl_drew ?_) | (refine bl_call (by assumption) ?_) | (refine bl_set _ _ (by simp <;> omega) ?_) | assumption))
          clear hW
          have b0 : W.cell? ⟨w.heap.size, 0, none⟩ = some (.int .i64 1) := blk_cell hk_ 0
          have b1 : W.cell? ⟨w.heap.size, 1, none⟩ = some (.string u) := blk_cell hk_ 1
          have b2 : W.cell? ⟨w.heap.size, 2, none⟩ = some (.string n) := blk_cell hk_ 2
          have b3 : W.cell? ⟨w.heap.size, 3, none⟩ = some (.string s) := blk_cell hk_ 3
          have b4 : W.cell? ⟨w.heap.size, 4, none⟩ = some (.int .i64 0) := blk_cell hk_ 4
          have b5 : W.cell? ⟨w.heap.size, 5, none⟩ = some (.string p) := blk_cell hk_ 5
          have b6 : W.cell? ⟨w.heap.size, 6, none⟩ = some (.string g) := blk_cell hk_ 6
          have b7 : W.cell? ⟨w.heap.size, 7, none⟩ = some (.string f) := blk_cell hk_ 7
          clear hk_
          go_wp2_with fail
          exact bodyPost_ret (v := .bool false) (by simp [results, Tryz.results9, go_sem]) rfl ⟨by rw [hX2.out], hAb⟩
      · have hi2 : (i == 0) = false := beq_eq_false_iff_ne.2 hi
        have hX2 := Lib.hid (show X = false by rw [hX.out]; simp [hs, hg, hi])
        clear hX hs hg
        go_enter Tryz.func9, Tryz.ntmps9
        go_upto_region 1 with fail
        refine gen_world fun W hW => ?_
        have hk_ : W.heap[w.heap.size]? = some (.cells (mA ⟨1, u, n, s, i, p, g, f⟩) 23 (0, 0)) := by subst hW; exact blk_new _ _
        have hAb : Below w.heap.size w W := by subst hW; (repeat (first | exact Below.refl _ _ | (refine bl_alloc ?_ _) | (refine bl_drewN ?_ _) | (refine bl_drew ?_) | (refine bl_call (by assumption) ?_) | (refine bl_set _ _ (by simp <;> omega) ?_) | assumption))
        clear hW
        have b0 : W.cell? ⟨w.heap.size, 0, none⟩ = some (.int .i64 1) := blk_cell hk_ 0
        have b1 : W.cell? ⟨w.heap.size, 1, none⟩ = some (.string u) := blk_cell hk_ 1
        have b2 : W.cell? ⟨w.heap.size, 2, none⟩ = some (.string n) := blk_cell hk_ 2
        have b3 : W.cell? ⟨w.heap.size, 3, none⟩ = some (.string s) := blk_cell hk_ 3
        have b4 : W.cell? ⟨w.heap.size, 4, none⟩ = some (.int .i64 i) := blk_cell hk_ 4
        have b5 : W.cell? ⟨w.heap.size, 5, none⟩ = some (.string p) := blk_cell hk_ 5
        have b6 : W.cell? ⟨w.heap.size, 6, none⟩ = some (.string g) := blk_cell hk_ 6
        have b7 : W.cell? ⟨w.heap.size, 7, none⟩ = some (.string f) := blk_cell hk_ 7
        clear hk_
        go_wp2_with fail
        exact bodyPost_ret (v := .bool false) (by simp [results, Tryz.results9, go_sem]) rfl ⟨by rw [hX2.out], hAb⟩
    · obtain ⟨eg1, eg2⟩ := emp_no hg
      by_cases hi : i = 0
      · subst hi
        by_cases hp : p = ⟨#[]⟩
        · obtain ⟨ep1, ep2⟩ := emp_yes hp
          have hX2 := Lib.hid (show X = false by rw [hX.out]; simp [hs, hg, hp])
          clear hX hs hg hp
          go_enter Tryz.func9, Tryz.ntmps9
          go_upto_region 1 with fail
          refine gen_world fun W hW => ?_
          have hk_ : W.heap[w.heap.size]? = some (.cells (mA ⟨1, u, n, s, 0, p, g, f⟩) 23 (0, 0)) := by subst hW; exact blk_new _ _
          have hAb : Below w.heap.size w W := by subst hW; (repeat (first | exact Below.refl _ _ | (refine bl_alloc ?_ _) | (refine bl_drewN ?_ _) | (refine bl_drew ?_) | (refine bl_call (by assumption) ?_) | (refine bl_set _ _ (by simp <;> omega) ?_) | assumption))
          clear hW
          have b0 : W.cell? ⟨w.heap.size, 0, none⟩ = some (.int .i64 1) := blk_cell hk_ 0
          have b1 : W.cell? ⟨w.heap.size, 1, none⟩ = some (.string u) := blk_cell hk_ 1
          have b2 : W.cell? ⟨w.heap.size, 2, none⟩ = some (.string n) := blk_cell hk_ 2
          have b3 : W.cell? ⟨w.heap.size, 3, none⟩ = some (.string s) := blk_cell hk_ 3
          have b4 : W.cell? ⟨w.heap.size, 4, none⟩ = some (.int .i64 0) := blk_cell hk_ 4
          have b5 : W.cell? ⟨w.heap.size, 5, none⟩ = some (.string p) := blk_cell hk_ 5
          have b6 : W.cell? ⟨w.heap.size, 6, none⟩ = some (.string g) := blk_cell hk_ 6
          have b7 : W.cell? ⟨w.heap.size, 7, none⟩ = some (.string f) := blk_cell hk_ 7
          clear hk_
          go_wp2_with fail
          exact bodyPost_ret (v := .bool false) (by simp [results, Tryz.results9, go_sem]) rfl ⟨by rw [hX2.out], hAb⟩
        · obtain ⟨ep1, ep2⟩ := emp_no hp
          have hX2 := Lib.hid (show X = false by rw [hX.out]; simp [hs, hg, hp])
          clear hX hs hg hp
          go_enter Tryz.func9, Tryz.ntmps9
          go_upto_region 1 with fail
          refine gen_world fun W hW => ?_
          have hk_ : W.heap[w.heap.size]? = some (.cells (mA ⟨1, u, n, s, 0, p, g, f⟩) 23 (0, 0)) := by subst hW; exact blk_new _ _
          have hAb : Below w.heap.size w W := by subst hW; (repeat (first | exact Below.refl _ _ | (refine bl_alloc ?_ _) | (refine bl_drewN ?_ _) | (refine bl_drew ?_) | (refine bl_call (by assumption) ?_) | (refine bl_set _ _ (by simp <;> omega) ?_) | assumption))
          clear hW
          have b0 : W.cell? ⟨w.heap.size, 0, none⟩ = some (.int .i64 1) := blk_cell hk_ 0
          have b1 : W.cell? ⟨w.heap.size, 1, none⟩ = some (.string u) := blk_cell hk_ 1
          have b2 : W.cell? ⟨w.heap.size, 2, none⟩ = some (.string n) := blk_cell hk_ 2
          have b3 : W.cell? ⟨w.heap.size, 3, none⟩ = some (.string s) := blk_cell hk_ 3
          have b4 : W.cell? ⟨w.heap.size, 4, none⟩ = some (.int .i64 0) := blk_cell hk_ 4
          have b5 : W.cell? ⟨w.heap.size, 5, none⟩ = some (.string p) := blk_cell hk_ 5
          have b6 : W.cell? ⟨w.heap.size, 6, none⟩ = some (.string g) := blk_cell hk_ 6
          have b7 : W.cell? ⟨w.heap.size, 7, none⟩ = some (.string f) := blk_cell hk_ 7
          clear hk_
          go_wp2_with fail
          exact bodyPost_ret (v := .bool false) (by simp [results, Tryz.results9, go_sem]) rfl ⟨by rw [hX2.out], hAb⟩
      · have hi2 : (i == 0) = false := beq_eq_false_iff_ne.2 hi
        have hX2 := Lib.hid (show X = false by rw [hX.out]; simp [hs, hg, hi])
        clear hX hs hg
        go_enter Tryz.func9, Tryz.ntmps9
        go_upto_region 1 with fail
        refine gen_world fun W hW => ?_
        have hk_ : W.heap[w.heap.size]? = some (.cells (mA ⟨1, u, n, s, i, p, g, f⟩) 23 (0, 0)) := by subst hW; exact blk_new _ _
        have hAb : Below w.heap.size w W := by subst hW; (repeat (first | exact Below.refl _ _ | (refine bl_alloc ?_ _) | (refine bl_drewN ?_ _) | (refine bl_drew ?_) | (refine bl_call (by assumption) ?_) | (refine bl_set _ _ (by simp <;> omega) ?_) | assumption))
        clear hW
        have b0 : W.cell? ⟨w.heap.size, 0, none⟩ = some (.int .i64 1) := blk_cell hk_ 0
        have b1 : W.cell? ⟨w.heap.size, 1, none⟩ = some (.string u) := blk_cell hk_ 1
        have b2 : W.cell? ⟨w.heap.size, 2, none⟩ = some (.string n) := blk_cell hk_ 2
        have b3 : W.cell? ⟨w.heap.size, 3, none⟩ = some (.string s) := blk_cell hk_ 3
        have b4 : W.cell? ⟨w.heap.size, 4, none⟩ = some (.int .i64 i) := blk_cell hk_ 4
        have b5 : W.cell? ⟨w.heap.size, 5, none⟩ = some (.string p) := blk_cell hk_ 5
        have b6 : W.cell? ⟨w.heap.size, 6, none⟩ = some (.string g) := blk_cell hk_ 6
        have b7 : W.cell? ⟨w.heap.size, 7, none⟩ = some (.string f) := blk_cell hk_ 7
        clear hk_
        go_wp2_with fail
        exact bodyPost_ret (v := .bool false) (by simp [results, Tryz.results9, go_sem]) rfl ⟨by rw [hX2.out], hAb⟩
  · obtain ⟨es1, es2⟩ := emp_no hs
    by_cases hg : g = ⟨#[]⟩
    · obtain ⟨eg1, eg2⟩ := emp_yes hg
      have hX2 := Lib.hid (show X = false by rw [hX.out]; simp [hs, hg])
      clear hX hs hg
      go_enter Tryz.func9, Tryz.ntmps9
      go_upto_region 1 with fail
      refine gen_world fun W hW => ?_
      have hk_ : W.heap[w.heap.size]? = some (.cells (mA ⟨1, u, n, s, i, p, g, f⟩) 23 (0, 0)) := by subst hW; exact blk_new _ _
      have hAb : Below w.heap.size w W := by subst hW; (repeat (first | exact Below.refl _ _ | (refine bl_alloc ?_ _) | (refine bl_drewN ?_ _) | (refine bl_drew ?_) | (refine bl_call (by assumption) ?_) | (refine bl_set _ _ (by simp <;> omega) ?_) | assumption))
      clear hW
      have b0 : W.cell? ⟨w.heap.size, 0, none⟩ = some (.int .i64 1) := blk_cell hk_ 0
      have b1 : W.cell? ⟨w.heap.size, 1, none⟩ = some (.string u) := blk_cell hk_ 1
      have b2 : W.cell? ⟨w.heap.size, 2, none⟩ = some (.string n) := blk_cell hk_ 2
      have b3 : W.cell? ⟨w.heap.size, 3, none⟩ = some (.string s) := blk_cell hk_ 3
      have b4 : W.cell? ⟨w.heap.size, 4, none⟩ = some (.int .i64 i) := blk_cell hk_ 4
      have b5 : W.cell? ⟨w.heap.size, 5, none⟩ = some (.string p) := blk_cell hk_ 5
      have b6 : W.cell? ⟨w.heap.size, 6, none⟩ = some (.string g) := blk_cell hk_ 6
      have b7 : W.cell? ⟨w.heap.size, 7, none⟩ = some (.string f) := blk_cell hk_ 7
      clear hk_
      go_wp2_with fail
      exact bodyPost_ret (v := .bool false) (by simp [results, Tryz.results9, go_sem]) rfl ⟨by rw [hX2.out], hAb⟩
    · obtain ⟨eg1, eg2⟩ := emp_no hg
      have hX2 := Lib.hid (show X = false by rw [hX.out]; simp [hs, hg])
      clear hX hs hg
      go_enter Tryz.func9, Tryz.ntmps9
      go_upto_region 1 with fail
      refine gen_world fun W hW => ?_
      have hk_ : W.heap[w.heap.size]? = some (.cells (mA ⟨1, u, n, s, i, p, g, f⟩) 23 (0, 0)) := by subst hW; exact blk_new _ _
      have hAb : Below w.heap.size w W := by subst hW; (repeat (first | exact Below.refl _ _ | (refine bl_alloc ?_ _) | (refine bl_drewN ?_ _) | (refine bl_drew ?_) | (refine bl_call (by assumption) ?_) | (refine bl_set _ _ (by simp <;> omega) ?_) | assumption))
      clear hW
      have b0 : W.cell? ⟨w.heap.size, 0, none⟩ = some (.int .i64 1) := blk_cell hk_ 0
      have b1 : W.cell? ⟨w.heap.size, 1, none⟩ = some (.string u) := blk_cell hk_ 1
      have b2 : W.cell? ⟨w.heap.size, 2, none⟩ = some (.string n) := blk_cell hk_ 2
      have b3 : W.cell? ⟨w.heap.size, 3, none⟩ = some (.string s) := blk_cell hk_ 3
      have b4 : W.cell? ⟨w.heap.size, 4, none⟩ = some (.int .i64 i) := blk_cell hk_ 4
      have b5 : W.cell? ⟨w.heap.size, 5, none⟩ = some (.string p) := blk_cell hk_ 5
      have b6 : W.cell? ⟨w.heap.size, 6, none⟩ = some (.string g) := blk_cell hk_ 6
      have b7 : W.cell? ⟨w.heap.size, 7, none⟩ = some (.string f) := blk_cell hk_ 7
      clear hk_
      go_wp2_with fail
      exact bodyPost_ret (v := .bool false) (by simp [results, Tryz.results9, go_sem]) rfl ⟨by rw [hX2.out], hAb⟩
set_option maxHeartbeats 8000000 in
theorem rRight_2 (u n s p g f : ByteArray) (i : Int) (hz : SzM ⟨2, u, n, s, i, p, g, f⟩) (w : World) : Calls Tryz.prog 9 #[mv ⟨2, u, n, s, i, p, g, f⟩] w fun e w' => e = .returned (.bool (decide (rightM (toM ⟨2, u, n, s, i, p, g, f⟩)))) ∧ Below w.heap.size w w' := by
  have hNon := fun w => rnonce_c n (by have := hz.n; simp only at this; omega) w
  have hSalt := fun w => rSalt_c s w
  have hIter := fun w => rIter_c i w
  obtain ⟨X, hX⟩ : ∃ X, X = decide (rightM (toM ⟨2, u, n, s, i, p, g, f⟩)) := ⟨_, rfl⟩
  rw [← hX]
  have hd := r2_iff u n s p g f i
  replace hX : X = decide _ := hX.trans (decide_eq_decide.2 hd)
  clear hd hz
  replace hX := Lib.hid hX
  unfold mv
  by_cases hs : s = ⟨#[]⟩
  · obtain ⟨es1, es2⟩ := emp_yes hs
    by_cases hg : g = ⟨#[]⟩
    · obtain ⟨eg1, eg2⟩ := emp_yes hg
      by_cases hu : u = ⟨#[]⟩
      · obtain ⟨eu1, eu2⟩ := emp_yes hu
        by_cases hp : p = ⟨#[]⟩
        · obtain ⟨ep1, ep2⟩ := emp_yes hp
          by_cases hf : f = ⟨#[]⟩
          · obtain ⟨ef1, ef2⟩ := emp_yes hf
            cases hV2 : nonceOk n.data.toList
            · rw [hV2] at hNon
              have hX2 := Lib.hid (show X = false by rw [hX.out]; simp [hg, hu, hp, hf, hV2])
              clear hX hg hu hp hf hV2 hs
              go_enter Tryz.func9, Tryz.ntmps9
              go_upto_region 1 with fail
              refine gen_world fun W hW => ?_
              have hk_ : W.heap[w.heap.size]? = some (.cells (mA ⟨2, u, n, s, i, p, g, f⟩) 23 (0, 0)) := by subst hW; exact blk_new _ _
              have hAb : Below w.heap.size w W := by subst hW; (repeat (first | exact Below.refl _ _ | (refine bl_alloc ?_ _) | (refine bl_drewN ?_ _) | (refine bl_drew ?_) | (refine bl_call (by assumption) ?_) | (refine bl_set _ _ (by simp <;> omega) ?_) | assumption))
              clear hW
              have b0 : W.cell? ⟨w.heap.size, 0, none⟩ = some (.int .i64 2) := blk_cell hk_ 0
              have b1 : W.cell? ⟨w.heap.size, 1, none⟩ = some (.string u) := blk_cell hk_ 1
              have b2 : W.cell? ⟨w.heap.size, 2, none⟩ = some (.string n) := blk_cell hk_ 2
              have b3 : W.cell? ⟨w.heap.size, 3, none⟩ = some (.string s) := blk_cell hk_ 3
              have b4 : W.cell? ⟨w.heap.size, 4, none⟩ = some (.int .i64 i) := blk_cell hk_ 4
              have b5 : W.cell? ⟨w.heap.size, 5, none⟩ = some (.string p) := blk_cell hk_ 5
              have b6 : W.cell? ⟨w.heap.size, 6, none⟩ = some (.string g) := blk_cell hk_ 6
              have b7 : W.cell? ⟨w.heap.size, 7, none⟩ = some (.string f) := blk_cell hk_ 7
              clear hk_
              go_wp2_with (first | (go_at_call 23; refine (hNon _).mono ?_; rintro e w6 ⟨rfl, hb6⟩; have hb_ := bl_call hb6 hAb; replace hAb := hb_; have d0 := grow_cell hb6 b0; have d1 := grow_cell hb6 b1; have d2 := grow_cell hb6 b2; have d3 := grow_cell hb6 b3; have d4 := grow_cell hb6 b4; have d5 := grow_cell hb6 b5; have d6 := grow_cell hb6 b6; have d7 := grow_cell hb6 b7))
              exact bodyPost_ret (v := .bool false) (by simp [results, Tryz.results9, go_sem]) rfl ⟨by rw [hX2.out], hAb⟩
            · rw [hV2] at hNon
              by_cases hVS : 1 ≤ s.size ∧ s.size ≤ 64
              · rw [show inside 1 (s.size : Int) 64 = true by simp [inside]; omega] at hSalt
                by_cases hVI : 1 ≤ i ∧ i ≤ 16777216
                · rw [show inside 1 i 16777216 = true by simp [inside]; omega] at hIter
                  have hX2 := Lib.hid (show X = true by rw [hX.out]; simp [hg, hu, hp, hf, hV2, hVS, hVI])
                  clear hX hg hu hp hf hV2 hVS hVI hs
                  go_enter Tryz.func9, Tryz.ntmps9
                  go_upto_region 1 with fail
                  refine gen_world fun W hW => ?_
                  have hk_ : W.heap[w.heap.size]? = some (.cells (mA ⟨2, u, n, s, i, p, g, f⟩) 23 (0, 0)) := by subst hW; exact blk_new _ _
                  have hAb : Below w.heap.size w W := by subst hW; (repeat (first | exact Below.refl _ _ | (refine bl_alloc ?_ _) | (refine bl_drewN ?_ _) | (refine bl_drew ?_) | (refine bl_call (by assumption) ?_) | (refine bl_set _ _ (by simp <;> omega) ?_) | assumption))
                  clear hW
                  have b0 : W.cell? ⟨w.heap.size, 0, none⟩ = some (.int .i64 2) := blk_cell hk_ 0
                  have b1 : W.cell? ⟨w.heap.size, 1, none⟩ = some (.string u) := blk_cell hk_ 1
                  have b2 : W.cell? ⟨w.heap.size, 2, none⟩ = some (.string n) := blk_cell hk_ 2
                  have b3 : W.cell? ⟨w.heap.size, 3, none⟩ = some (.string s) := blk_cell hk_ 3
                  have b4 : W.cell? ⟨w.heap.size, 4, none⟩ = some (.int .i64 i) := blk_cell hk_ 4
                  have b5 : W.cell? ⟨w.heap.size, 5, none⟩ = some (.string p) := blk_cell hk_ 5
                  have b6 : W.cell? ⟨w.heap.size, 6, none⟩ = some (.string g) := blk_cell hk_ 6
                  have b7 : W.cell? ⟨w.heap.size, 7, none⟩ = some (.string f) := blk_cell hk_ 7
                  clear hk_
                  go_wp2_with (first | (go_at_call 23; refine (hNon _).mono ?_; rintro e w6 ⟨rfl, hb6⟩; have hb_ := bl_call hb6 hAb; replace hAb := hb_; have d0 := grow_cell hb6 b0; have d1 := grow_cell hb6 b1; have d2 := grow_cell hb6 b2; have d3 := grow_cell hb6 b3; have d4 := grow_cell hb6 b4; have d5 := grow_cell hb6 b5; have d6 := grow_cell hb6 b6; have d7 := grow_cell hb6 b7) | (go_at_call 24; refine (hSalt _).mono ?_; rintro e w7 ⟨rfl, rfl⟩) | (go_at_call 25; refine (hIter _).mono ?_; rintro e w8 ⟨rfl, rfl⟩))
                  exact bodyPost_ret (v := .bool true) (by simp [results, Tryz.results9, go_sem]) rfl ⟨by rw [hX2.out], hAb⟩
                · rw [show inside 1 i 16777216 = false by simp only [inside, decide_eq_false_iff_not]; omega] at hIter
                  have hX2 := Lib.hid (show X = false by rw [hX.out]; simp [hg, hu, hp, hf, hV2, hVS, hVI])
                  clear hX hg hu hp hf hV2 hVS hVI hs
                  go_enter Tryz.func9, Tryz.ntmps9
                  go_upto_region 1 with fail
                  refine gen_world fun W hW => ?_
                  have hk_ : W.heap[w.heap.size]? = some (.cells (mA ⟨2, u, n, s, i, p, g, f⟩) 23 (0, 0)) := by subst hW; exact blk_new _ _
                  have hAb : Below w.heap.size w W := by subst hW; (repeat (first | exact Below.refl _ _ | (refine bl_alloc ?_ _) | (refine bl_drewN ?_ _) | (refine bl_drew ?_) | (refine bl_call (by assumption) ?_) | (refine bl_set _ _ (by simp <;> omega) ?_) | assumption))
                  clear hW
                  have b0 : W.cell? ⟨w.heap.size, 0, none⟩ = some (.int .i64 2) := blk_cell hk_ 0
                  have b1 : W.cell? ⟨w.heap.size, 1, none⟩ = some (.string u) := blk_cell hk_ 1
                  have b2 : W.cell? ⟨w.heap.size, 2, none⟩ = some (.string n) := blk_cell hk_ 2
                  have b3 : W.cell? ⟨w.heap.size, 3, none⟩ = some (.string s) := blk_cell hk_ 3
                  have b4 : W.cell? ⟨w.heap.size, 4, none⟩ = some (.int .i64 i) := blk_cell hk_ 4
                  have b5 : W.cell? ⟨w.heap.size, 5, none⟩ = some (.string p) := blk_cell hk_ 5
                  have b6 : W.cell? ⟨w.heap.size, 6, none⟩ = some (.string g) := blk_cell hk_ 6
                  have b7 : W.cell? ⟨w.heap.size, 7, none⟩ = some (.string f) := blk_cell hk_ 7
                  clear hk_
                  go_wp2_with (first | (go_at_call 23; refine (hNon _).mono ?_; rintro e w6 ⟨rfl, hb6⟩; have hb_ := bl_call hb6 hAb; replace hAb := hb_; have d0 := grow_cell hb6 b0; have d1 := grow_cell hb6 b1; have d2 := grow_cell hb6 b2; have d3 := grow_cell hb6 b3; have d4 := grow_cell hb6 b4; have d5 := grow_cell hb6 b5; have d6 := grow_cell hb6 b6; have d7 := grow_cell hb6 b7) | (go_at_call 24; refine (hSalt _).mono ?_; rintro e w7 ⟨rfl, rfl⟩) | (go_at_call 25; refine (hIter _).mono ?_; rintro e w8 ⟨rfl, rfl⟩))
                  exact bodyPost_ret (v := .bool false) (by simp [results, Tryz.results9, go_sem]) rfl ⟨by rw [hX2.out], hAb⟩
              · rw [show inside 1 (s.size : Int) 64 = false by simp only [inside, decide_eq_false_iff_not]; omega] at hSalt
                have hX2 := Lib.hid (show X = false by rw [hX.out]; simp [hg, hu, hp, hf, hV2, hVS])
                clear hX hg hu hp hf hV2 hVS hs
                go_enter Tryz.func9, Tryz.ntmps9
                go_upto_region 1 with fail
                refine gen_world fun W hW => ?_
                have hk_ : W.heap[w.heap.size]? = some (.cells (mA ⟨2, u, n, s, i, p, g, f⟩) 23 (0, 0)) := by subst hW; exact blk_new _ _
                have hAb : Below w.heap.size w W := by subst hW; (repeat (first | exact Below.refl _ _ | (refine bl_alloc ?_ _) | (refine bl_drewN ?_ _) | (refine bl_drew ?_) | (refine bl_call (by assumption) ?_) | (refine bl_set _ _ (by simp <;> omega) ?_) | assumption))
                clear hW
                have b0 : W.cell? ⟨w.heap.size, 0, none⟩ = some (.int .i64 2) := blk_cell hk_ 0
                have b1 : W.cell? ⟨w.heap.size, 1, none⟩ = some (.string u) := blk_cell hk_ 1
                have b2 : W.cell? ⟨w.heap.size, 2, none⟩ = some (.string n) := blk_cell hk_ 2
                have b3 : W.cell? ⟨w.heap.size, 3, none⟩ = some (.string s) := blk_cell hk_ 3
                have b4 : W.cell? ⟨w.heap.size, 4, none⟩ = some (.int .i64 i) := blk_cell hk_ 4
                have b5 : W.cell? ⟨w.heap.size, 5, none⟩ = some (.string p) := blk_cell hk_ 5
                have b6 : W.cell? ⟨w.heap.size, 6, none⟩ = some (.string g) := blk_cell hk_ 6
                have b7 : W.cell? ⟨w.heap.size, 7, none⟩ = some (.string f) := blk_cell hk_ 7
                clear hk_
                go_wp2_with (first | (go_at_call 23; refine (hNon _).mono ?_; rintro e w6 ⟨rfl, hb6⟩; have hb_ := bl_call hb6 hAb; replace hAb := hb_; have d0 := grow_cell hb6 b0; have d1 := grow_cell hb6 b1; have d2 := grow_cell hb6 b2; have d3 := grow_cell hb6 b3; have d4 := grow_cell hb6 b4; have d5 := grow_cell hb6 b5; have d6 := grow_cell hb6 b6; have d7 := grow_cell hb6 b7) | (go_at_call 24; refine (hSalt _).mono ?_; rintro e w7 ⟨rfl, rfl⟩))
                exact bodyPost_ret (v := .bool false) (by simp [results, Tryz.results9, go_sem]) rfl ⟨by rw [hX2.out], hAb⟩
          · obtain ⟨ef1, ef2⟩ := emp_no hf
            have hX2 := Lib.hid (show X = false by rw [hX.out]; simp [hg, hu, hp, hf])
            clear hX hg hu hp hf hs
            go_enter Tryz.func9, Tryz.ntmps9
            go_upto_region 1 with fail
            refine gen_world fun W hW => ?_
            have hk_ : W.heap[w.heap.size]? = some (.cells (mA ⟨2, u, n, s, i, p, g, f⟩) 23 (0, 0)) := by subst hW; exact blk_new _ _
            have hAb : Below w.heap.size w W := by subst hW; (repeat (first | exact Below.refl _ _ | (refine bl_alloc ?_ _) | (refine bl_drewN ?_ _) | (refine bl_drew ?_) | (refine bl_call (by assumption) ?_) | (refine bl_set _ _ (by simp <;> omega) ?_) | assumption))
            clear hW
            have b0 : W.cell? ⟨w.heap.size, 0, none⟩ = some (.int .i64 2) := blk_cell hk_ 0
            have b1 : W.cell? ⟨w.heap.size, 1, none⟩ = some (.string u) := blk_cell hk_ 1
            have b2 : W.cell? ⟨w.heap.size, 2, none⟩ = some (.string n) := blk_cell hk_ 2
            have b3 : W.cell? ⟨w.heap.size, 3, none⟩ = some (.string s) := blk_cell hk_ 3
            have b4 : W.cell? ⟨w.heap.size, 4, none⟩ = some (.int .i64 i) := blk_cell hk_ 4
            have b5 : W.cell? ⟨w.heap.size, 5, none⟩ = some (.string p) := blk_cell hk_ 5
            have b6 : W.cell? ⟨w.heap.size, 6, none⟩ = some (.string g) := blk_cell hk_ 6
            have b7 : W.cell? ⟨w.heap.size, 7, none⟩ = some (.string f) := blk_cell hk_ 7
            clear hk_
            go_wp2_with fail
            exact bodyPost_ret (v := .bool false) (by simp [results, Tryz.results9, go_sem]) rfl ⟨by rw [hX2.out], hAb⟩
        · obtain ⟨ep1, ep2⟩ := emp_no hp
          have hX2 := Lib.hid (show X = false by rw [hX.out]; simp [hg, hu, hp])
          clear hX hg hu hp hs
          go_enter Tryz.func9, Tryz.ntmps9
          go_upto_region 1 with fail
          refine gen_world fun W hW => ?_
          have hk_ : W.heap[w.heap.size]? = some (.cells (mA ⟨2, u, n, s, i, p, g, f⟩) 23 (0, 0)) := by subst hW; exact blk_new _ _
          have hAb : Below w.heap.size w W := by subst hW; (repeat (first | exact Below.refl _ _ | (refine bl_alloc ?_ _) | (refine bl_drewN ?_ _) | (refine bl_drew ?_) | (refine bl_call (by assumption) ?_) | (refine bl_set _ _ (by simp <;> omega) ?_) | assumption))
          clear hW
          have b0 : W.cell? ⟨w.heap.size, 0, none⟩ = some (.int .i64 2) := blk_cell hk_ 0
          have b1 : W.cell? ⟨w.heap.size, 1, none⟩ = some (.string u) := blk_cell hk_ 1
          have b2 : W.cell? ⟨w.heap.size, 2, none⟩ = some (.string n) := blk_cell hk_ 2
          have b3 : W.cell? ⟨w.heap.size, 3, none⟩ = some (.string s) := blk_cell hk_ 3
          have b4 : W.cell? ⟨w.heap.size, 4, none⟩ = some (.int .i64 i) := blk_cell hk_ 4
          have b5 : W.cell? ⟨w.heap.size, 5, none⟩ = some (.string p) := blk_cell hk_ 5
          have b6 : W.cell? ⟨w.heap.size, 6, none⟩ = some (.string g) := blk_cell hk_ 6
          have b7 : W.cell? ⟨w.heap.size, 7, none⟩ = some (.string f) := blk_cell hk_ 7
          clear hk_
          go_wp2_with fail
          exact bodyPost_ret (v := .bool false) (by simp [results, Tryz.results9, go_sem]) rfl ⟨by rw [hX2.out], hAb⟩
      · obtain ⟨eu1, eu2⟩ := emp_no hu
        have hX2 := Lib.hid (show X = false by rw [hX.out]; simp [hg, hu])
        clear hX hg hu hs
        go_enter Tryz.func9, Tryz.ntmps9
        go_upto_region 1 with fail
        refine gen_world fun W hW => ?_
        have hk_ : W.heap[w.heap.size]? = some (.cells (mA ⟨2, u, n, s, i, p, g, f⟩) 23 (0, 0)) := by subst hW; exact blk_new _ _
        have hAb : Below w.heap.size w W := by subst hW; (repeat (first | exact Below.refl _ _ | (refine bl_alloc ?_ _) | (refine bl_drewN ?_ _) | (refine bl_drew ?_) | (refine bl_call (by assumption) ?_) | (refine bl_set _ _ (by simp <;> omega) ?_) | assumption))
        clear hW
        have b0 : W.cell? ⟨w.heap.size, 0, none⟩ = some (.int .i64 2) := blk_cell hk_ 0
        have b1 : W.cell? ⟨w.heap.size, 1, none⟩ = some (.string u) := blk_cell hk_ 1
        have b2 : W.cell? ⟨w.heap.size, 2, none⟩ = some (.string n) := blk_cell hk_ 2
        have b3 : W.cell? ⟨w.heap.size, 3, none⟩ = some (.string s) := blk_cell hk_ 3
        have b4 : W.cell? ⟨w.heap.size, 4, none⟩ = some (.int .i64 i) := blk_cell hk_ 4
        have b5 : W.cell? ⟨w.heap.size, 5, none⟩ = some (.string p) := blk_cell hk_ 5
        have b6 : W.cell? ⟨w.heap.size, 6, none⟩ = some (.string g) := blk_cell hk_ 6
        have b7 : W.cell? ⟨w.heap.size, 7, none⟩ = some (.string f) := blk_cell hk_ 7
        clear hk_
        go_wp2_with fail
        exact bodyPost_ret (v := .bool false) (by simp [results, Tryz.results9, go_sem]) rfl ⟨by rw [hX2.out], hAb⟩
    · obtain ⟨eg1, eg2⟩ := emp_no hg
      by_cases hu : u = ⟨#[]⟩
      · obtain ⟨eu1, eu2⟩ := emp_yes hu
        by_cases hp : p = ⟨#[]⟩
        · obtain ⟨ep1, ep2⟩ := emp_yes hp
          have hX2 := Lib.hid (show X = false by rw [hX.out]; simp [hg, hu, hp])
          clear hX hg hu hp hs
          go_enter Tryz.func9, Tryz.ntmps9
          go_upto_region 1 with fail
          refine gen_world fun W hW => ?_
          have hk_ : W.heap[w.heap.size]? = some (.cells (mA ⟨2, u, n, s, i, p, g, f⟩) 23 (0, 0)) := by subst hW; exact blk_new _ _
          have hAb : Below w.heap.size w W := by subst hW; (repeat (first | exact Below.refl _ _ | (refine bl_alloc ?_ _) | (refine bl_drewN ?_ _) | (refine bl_drew ?_) | (refine bl_call (by assumption) ?_) | (refine bl_set _ _ (by simp <;> omega) ?_) | assumption))
          clear hW
          have b0 : W.cell? ⟨w.heap.size, 0, none⟩ = some (.int .i64 2) := blk_cell hk_ 0
          have b1 : W.cell? ⟨w.heap.size, 1, none⟩ = some (.string u) := blk_cell hk_ 1
          have b2 : W.cell? ⟨w.heap.size, 2, none⟩ = some (.string n) := blk_cell hk_ 2
          have b3 : W.cell? ⟨w.heap.size, 3, none⟩ = some (.string s) := blk_cell hk_ 3
          have b4 : W.cell? ⟨w.heap.size, 4, none⟩ = some (.int .i64 i) := blk_cell hk_ 4
          have b5 : W.cell? ⟨w.heap.size, 5, none⟩ = some (.string p) := blk_cell hk_ 5
          have b6 : W.cell? ⟨w.heap.size, 6, none⟩ = some (.string g) := blk_cell hk_ 6
          have b7 : W.cell? ⟨w.heap.size, 7, none⟩ = some (.string f) := blk_cell hk_ 7
          clear hk_
          go_wp2_with fail
          exact bodyPost_ret (v := .bool false) (by simp [results, Tryz.results9, go_sem]) rfl ⟨by rw [hX2.out], hAb⟩
        · obtain ⟨ep1, ep2⟩ := emp_no hp
          have hX2 := Lib.hid (show X = false by rw [hX.out]; simp [hg, hu, hp])
          clear hX hg hu hp hs
          go_enter Tryz.func9, Tryz.ntmps9
          go_upto_region 1 with fail
          refine gen_world fun W hW => ?_
          have hk_ : W.heap[w.heap.size]? = some (.cells (mA ⟨2, u, n, s, i, p, g, f⟩) 23 (0, 0)) := by subst hW; exact blk_new _ _
          have hAb : Below w.heap.size w W := by subst hW; (repeat (first | exact Below.refl _ _ | (refine bl_alloc ?_ _) | (refine bl_drewN ?_ _) | (refine bl_drew ?_) | (refine bl_call (by assumption) ?_) | (refine bl_set _ _ (by simp <;> omega) ?_) | assumption))
          clear hW
          have b0 : W.cell? ⟨w.heap.size, 0, none⟩ = some (.int .i64 2) := blk_cell hk_ 0
          have b1 : W.cell? ⟨w.heap.size, 1, none⟩ = some (.string u) := blk_cell hk_ 1
          have b2 : W.cell? ⟨w.heap.size, 2, none⟩ = some (.string n) := blk_cell hk_ 2
          have b3 : W.cell? ⟨w.heap.size, 3, none⟩ = some (.string s) := blk_cell hk_ 3
          have b4 : W.cell? ⟨w.heap.size, 4, none⟩ = some (.int .i64 i) := blk_cell hk_ 4
          have b5 : W.cell? ⟨w.heap.size, 5, none⟩ = some (.string p) := blk_cell hk_ 5
          have b6 : W.cell? ⟨w.heap.size, 6, none⟩ = some (.string g) := blk_cell hk_ 6
          have b7 : W.cell? ⟨w.heap.size, 7, none⟩ = some (.string f) := blk_cell hk_ 7
          clear hk_
          go_wp2_with fail
          exact bodyPost_ret (v := .bool false) (by simp [results, Tryz.results9, go_sem]) rfl ⟨by rw [hX2.out], hAb⟩
      · obtain ⟨eu1, eu2⟩ := emp_no hu
        have hX2 := Lib.hid (show X = false by rw [hX.out]; simp [hg, hu])
        clear hX hg hu hs
        go_enter Tryz.func9, Tryz.ntmps9
        go_upto_region 1 with fail
        refine gen_world fun W hW => ?_
        have hk_ : W.heap[w.heap.size]? = some (.cells (mA ⟨2, u, n, s, i, p, g, f⟩) 23 (0, 0)) := by subst hW; exact blk_new _ _
        have hAb : Below w.heap.size w W := by subst hW; (repeat (first | exact Below.refl _ _ | (refine bl_alloc ?_ _) | (refine bl_drewN ?_ _) | (refine bl_drew ?_) | (refine bl_call (by assumption) ?_) | (refine bl_set _ _ (by simp <;> omega) ?_) | assumption))
        clear hW
        have b0 : W.cell? ⟨w.heap.size, 0, none⟩ = some (.int .i64 2) := blk_cell hk_ 0
        have b1 : W.cell? ⟨w.heap.size, 1, none⟩ = some (.string u) := blk_cell hk_ 1
        have b2 : W.cell? ⟨w.heap.size, 2, none⟩ = some (.string n) := blk_cell hk_ 2
        have b3 : W.cell? ⟨w.heap.size, 3, none⟩ = some (.string s) := blk_cell hk_ 3
        have b4 : W.cell? ⟨w.heap.size, 4, none⟩ = some (.int .i64 i) := blk_cell hk_ 4
        have b5 : W.cell? ⟨w.heap.size, 5, none⟩ = some (.string p) := blk_cell hk_ 5
        have b6 : W.cell? ⟨w.heap.size, 6, none⟩ = some (.string g) := blk_cell hk_ 6
        have b7 : W.cell? ⟨w.heap.size, 7, none⟩ = some (.string f) := blk_cell hk_ 7
        clear hk_
        go_wp2_with fail
        exact bodyPost_ret (v := .bool false) (by simp [results, Tryz.results9, go_sem]) rfl ⟨by rw [hX2.out], hAb⟩
  · obtain ⟨es1, es2⟩ := emp_no hs
    by_cases hg : g = ⟨#[]⟩
    · obtain ⟨eg1, eg2⟩ := emp_yes hg
      by_cases hu : u = ⟨#[]⟩
      · obtain ⟨eu1, eu2⟩ := emp_yes hu
        by_cases hp : p = ⟨#[]⟩
        · obtain ⟨ep1, ep2⟩ := emp_yes hp
          by_cases hf : f = ⟨#[]⟩
          · obtain ⟨ef1, ef2⟩ := emp_yes hf
            cases hV2 : nonceOk n.data.toList
            · rw [hV2] at hNon
              have hX2 := Lib.hid (show X = false by rw [hX.out]; simp [hg, hu, hp, hf, hV2])
              clear hX hg hu hp hf hV2 hs
              go_enter Tryz.func9, Tryz.ntmps9
              go_upto_region 1 with fail
              refine gen_world fun W hW => ?_
              have hk_ : W.heap[w.heap.size]? = some (.cells (mA ⟨2, u, n, s, i, p, g, f⟩) 23 (0, 0)) := by subst hW; exact blk_new _ _
              have hAb : Below w.heap.size w W := by subst hW; (repeat (first | exact Below.refl _ _ | (refine bl_alloc ?_ _) | (refine bl_drewN ?_ _) | (refine bl_drew ?_) | (refine bl_call (by assumption) ?_) | (refine bl_set _ _ (by simp <;> omega) ?_) | assumption))
              clear hW
              have b0 : W.cell? ⟨w.heap.size, 0, none⟩ = some (.int .i64 2) := blk_cell hk_ 0
              have b1 : W.cell? ⟨w.heap.size, 1, none⟩ = some (.string u) := blk_cell hk_ 1
              have b2 : W.cell? ⟨w.heap.size, 2, none⟩ = some (.string n) := blk_cell hk_ 2
              have b3 : W.cell? ⟨w.heap.size, 3, none⟩ = some (.string s) := blk_cell hk_ 3
              have b4 : W.cell? ⟨w.heap.size, 4, none⟩ = some (.int .i64 i) := blk_cell hk_ 4
              have b5 : W.cell? ⟨w.heap.size, 5, none⟩ = some (.string p) := blk_cell hk_ 5
              have b6 : W.cell? ⟨w.heap.size, 6, none⟩ = some (.string g) := blk_cell hk_ 6
              have b7 : W.cell? ⟨w.heap.size, 7, none⟩ = some (.string f) := blk_cell hk_ 7
              clear hk_
              go_wp2_with (first | (go_at_call 23; refine (hNon _).mono ?_; rintro e w6 ⟨rfl, hb6⟩; have hb_ := bl_call hb6 hAb; replace hAb := hb_; have d0 := grow_cell hb6 b0; have d1 := grow_cell hb6 b1; have d2 := grow_cell hb6 b2; have d3 := grow_cell hb6 b3; have d4 := grow_cell hb6 b4; have d5 := grow_cell hb6 b5; have d6 := grow_cell hb6 b6; have d7 := grow_cell hb6 b7))
              exact bodyPost_ret (v := .bool false) (by simp [results, Tryz.results9, go_sem]) rfl ⟨by rw [hX2.out], hAb⟩
            · rw [hV2] at hNon
              by_cases hVS : 1 ≤ s.size ∧ s.size ≤ 64
              · rw [show inside 1 (s.size : Int) 64 = true by simp [inside]; omega] at hSalt
                by_cases hVI : 1 ≤ i ∧ i ≤ 16777216
                · rw [show inside 1 i 16777216 = true by simp [inside]; omega] at hIter
                  have hX2 := Lib.hid (show X = true by rw [hX.out]; simp [hg, hu, hp, hf, hV2, hVS, hVI])
                  clear hX hg hu hp hf hV2 hVS hVI hs
                  go_enter Tryz.func9, Tryz.ntmps9
                  go_upto_region 1 with fail
                  refine gen_world fun W hW => ?_
                  have hk_ : W.heap[w.heap.size]? = some (.cells (mA ⟨2, u, n, s, i, p, g, f⟩) 23 (0, 0)) := by subst hW; exact blk_new _ _
                  have hAb : Below w.heap.size w W := by subst hW; (repeat (first | exact Below.refl _ _ | (refine bl_alloc ?_ _) | (refine bl_drewN ?_ _) | (refine bl_drew ?_) | (refine bl_call (by assumption) ?_) | (refine bl_set _ _ (by simp <;> omega) ?_) | assumption))
                  clear hW
                  have b0 : W.cell? ⟨w.heap.size, 0, none⟩ = some (.int .i64 2) := blk_cell hk_ 0
                  have b1 : W.cell? ⟨w.heap.size, 1, none⟩ = some (.string u) := blk_cell hk_ 1
                  have b2 : W.cell? ⟨w.heap.size, 2, none⟩ = some (.string n) := blk_cell hk_ 2
                  have b3 : W.cell? ⟨w.heap.size, 3, none⟩ = some (.string s) := blk_cell hk_ 3
                  have b4 : W.cell? ⟨w.heap.size, 4, none⟩ = some (.int .i64 i) := blk_cell hk_ 4
                  have b5 : W.cell? ⟨w.heap.size, 5, none⟩ = some (.string p) := blk_cell hk_ 5
                  have b6 : W.cell? ⟨w.heap.size, 6, none⟩ = some (.string g) := blk_cell hk_ 6
                  have b7 : W.cell? ⟨w.heap.size, 7, none⟩ = some (.string f) := blk_cell hk_ 7
                  clear hk_
                  go_wp2_with (first | (go_at_call 23; refine (hNon _).mono ?_; rintro e w6 ⟨rfl, hb6⟩; have hb_ := bl_call hb6 hAb; replace hAb := hb_; have d0 := grow_cell hb6 b0; have d1 := grow_cell hb6 b1; have d2 := grow_cell hb6 b2; have d3 := grow_cell hb6 b3; have d4 := grow_cell hb6 b4; have d5 := grow_cell hb6 b5; have d6 := grow_cell hb6 b6; have d7 := grow_cell hb6 b7) | (go_at_call 24; refine (hSalt _).mono ?_; rintro e w7 ⟨rfl, rfl⟩) | (go_at_call 25; refine (hIter _).mono ?_; rintro e w8 ⟨rfl, rfl⟩))
                  exact bodyPost_ret (v := .bool true) (by simp [results, Tryz.results9, go_sem]) rfl ⟨by rw [hX2.out], hAb⟩
                · rw [show inside 1 i 16777216 = false by simp only [inside, decide_eq_false_iff_not]; omega] at hIter
                  have hX2 := Lib.hid (show X = false by rw [hX.out]; simp [hg, hu, hp, hf, hV2, hVS, hVI])
                  clear hX hg hu hp hf hV2 hVS hVI hs
                  go_enter Tryz.func9, Tryz.ntmps9
                  go_upto_region 1 with fail
                  refine gen_world fun W hW => ?_
                  have hk_ : W.heap[w.heap.size]? = some (.cells (mA ⟨2, u, n, s, i, p, g, f⟩) 23 (0, 0)) := by subst hW; exact blk_new _ _
                  have hAb : Below w.heap.size w W := by subst hW; (repeat (first | exact Below.refl _ _ | (refine bl_alloc ?_ _) | (refine bl_drewN ?_ _) | (refine bl_drew ?_) | (refine bl_call (by assumption) ?_) | (refine bl_set _ _ (by simp <;> omega) ?_) | assumption))
                  clear hW
                  have b0 : W.cell? ⟨w.heap.size, 0, none⟩ = some (.int .i64 2) := blk_cell hk_ 0
                  have b1 : W.cell? ⟨w.heap.size, 1, none⟩ = some (.string u) := blk_cell hk_ 1
                  have b2 : W.cell? ⟨w.heap.size, 2, none⟩ = some (.string n) := blk_cell hk_ 2
                  have b3 : W.cell? ⟨w.heap.size, 3, none⟩ = some (.string s) := blk_cell hk_ 3
                  have b4 : W.cell? ⟨w.heap.size, 4, none⟩ = some (.int .i64 i) := blk_cell hk_ 4
                  have b5 : W.cell? ⟨w.heap.size, 5, none⟩ = some (.string p) := blk_cell hk_ 5
                  have b6 : W.cell? ⟨w.heap.size, 6, none⟩ = some (.string g) := blk_cell hk_ 6
                  have b7 : W.cell? ⟨w.heap.size, 7, none⟩ = some (.string f) := blk_cell hk_ 7
                  clear hk_
                  go_wp2_with (first | (go_at_call 23; refine (hNon _).mono ?_; rintro e w6 ⟨rfl, hb6⟩; have hb_ := bl_call hb6 hAb; replace hAb := hb_; have d0 := grow_cell hb6 b0; have d1 := grow_cell hb6 b1; have d2 := grow_cell hb6 b2; have d3 := grow_cell hb6 b3; have d4 := grow_cell hb6 b4; have d5 := grow_cell hb6 b5; have d6 := grow_cell hb6 b6; have d7 := grow_cell hb6 b7) | (go_at_call 24; refine (hSalt _).mono ?_; rintro e w7 ⟨rfl, rfl⟩) | (go_at_call 25; refine (hIter _).mono ?_; rintro e w8 ⟨rfl, rfl⟩))
                  exact bodyPost_ret (v := .bool false) (by simp [results, Tryz.results9, go_sem]) rfl ⟨by rw [hX2.out], hAb⟩
              · rw [show inside 1 (s.size : Int) 64 = false by simp only [inside, decide_eq_false_iff_not]; omega] at hSalt
                have hX2 := Lib.hid (show X = false by rw [hX.out]; simp [hg, hu, hp, hf, hV2, hVS])
                clear hX hg hu hp hf hV2 hVS hs
                go_enter Tryz.func9, Tryz.ntmps9
                go_upto_region 1 with fail
                refine gen_world fun W hW => ?_
                have hk_ : W.heap[w.heap.size]? = some (.cells (mA ⟨2, u, n, s, i, p, g, f⟩) 23 (0, 0)) := by subst hW; exact blk_new _ _
                have hAb : Below w.heap.size w W := by subst hW; (repeat (first | exact Below.refl _ _ | (refine bl_alloc ?_ _) | (refine bl_drewN ?_ _) | (refine bl_drew ?_) | (refine bl_call (by assumption) ?_) | (refine bl_set _ _ (by simp <;> omega) ?_) | assumption))
                clear hW
                have b0 : W.cell? ⟨w.heap.size, 0, none⟩ = some (.int .i64 2) := blk_cell hk_ 0
                have b1 : W.cell? ⟨w.heap.size, 1, none⟩ = some (.string u) := blk_cell hk_ 1
                have b2 : W.cell? ⟨w.heap.size, 2, none⟩ = some (.string n) := blk_cell hk_ 2
                have b3 : W.cell? ⟨w.heap.size, 3, none⟩ = some (.string s) := blk_cell hk_ 3
                have b4 : W.cell? ⟨w.heap.size, 4, none⟩ = some (.int .i64 i) := blk_cell hk_ 4
                have b5 : W.cell? ⟨w.heap.size, 5, none⟩ = some (.string p) := blk_cell hk_ 5
                have b6 : W.cell? ⟨w.heap.size, 6, none⟩ = some (.string g) := blk_cell hk_ 6
                have b7 : W.cell? ⟨w.heap.size, 7, none⟩ = some (.string f) := blk_cell hk_ 7
                clear hk_
                go_wp2_with (first | (go_at_call 23; refine (hNon _).mono ?_; rintro e w6 ⟨rfl, hb6⟩; have hb_ := bl_call hb6 hAb; replace hAb := hb_; have d0 := grow_cell hb6 b0; have d1 := grow_cell hb6 b1; have d2 := grow_cell hb6 b2; have d3 := grow_cell hb6 b3; have d4 := grow_cell hb6 b4; have d5 := grow_cell hb6 b5; have d6 := grow_cell hb6 b6; have d7 := grow_cell hb6 b7) | (go_at_call 24; refine (hSalt _).mono ?_; rintro e w7 ⟨rfl, rfl⟩))
                exact bodyPost_ret (v := .bool false) (by simp [results, Tryz.results9, go_sem]) rfl ⟨by rw [hX2.out], hAb⟩
          · obtain ⟨ef1, ef2⟩ := emp_no hf
            have hX2 := Lib.hid (show X = false by rw [hX.out]; simp [hg, hu, hp, hf])
            clear hX hg hu hp hf hs
            go_enter Tryz.func9, Tryz.ntmps9
            go_upto_region 1 with fail
            refine gen_world fun W hW => ?_
            have hk_ : W.heap[w.heap.size]? = some (.cells (mA ⟨2, u, n, s, i, p, g, f⟩) 23 (0, 0)) := by subst hW; exact blk_new _ _
            have hAb : Below w.heap.size w W := by subst hW; (repeat (first | exact Below.refl _ _ | (refine bl_alloc ?_ _) | (refine bl_drewN ?_ _) | (refine bl_drew ?_) | (refine bl_call (by assumption) ?_) | (refine bl_set _ _ (by simp <;> omega) ?_) | assumption))
            clear hW
            have b0 : W.cell? ⟨w.heap.size, 0, none⟩ = some (.int .i64 2) := blk_cell hk_ 0
            have b1 : W.cell? ⟨w.heap.size, 1, none⟩ = some (.string u) := blk_cell hk_ 1
            have b2 : W.cell? ⟨w.heap.size, 2, none⟩ = some (.string n) := blk_cell hk_ 2
            have b3 : W.cell? ⟨w.heap.size, 3, none⟩ = some (.string s) := blk_cell hk_ 3
            have b4 : W.cell? ⟨w.heap.size, 4, none⟩ = some (.int .i64 i) := blk_cell hk_ 4
            have b5 : W.cell? ⟨w.heap.size, 5, none⟩ = some (.string p) := blk_cell hk_ 5
            have b6 : W.cell? ⟨w.heap.size, 6, none⟩ = some (.string g) := blk_cell hk_ 6
            have b7 : W.cell? ⟨w.heap.size, 7, none⟩ = some (.string f) := blk_cell hk_ 7
            clear hk_
            go_wp2_with fail
            exact bodyPost_ret (v := .bool false) (by simp [results, Tryz.results9, go_sem]) rfl ⟨by rw [hX2.out], hAb⟩
        · obtain ⟨ep1, ep2⟩ := emp_no hp
          have hX2 := Lib.hid (show X = false by rw [hX.out]; simp [hg, hu, hp])
          clear hX hg hu hp hs
          go_enter Tryz.func9, Tryz.ntmps9
          go_upto_region 1 with fail
          refine gen_world fun W hW => ?_
          have hk_ : W.heap[w.heap.size]? = some (.cells (mA ⟨2, u, n, s, i, p, g, f⟩) 23 (0, 0)) := by subst hW; exact blk_new _ _
          have hAb : Below w.heap.size w W := by subst hW; (repeat (first | exact Below.refl _ _ | (refine bl_alloc ?_ _) | (refine bl_drewN ?_ _) | (refine bl_drew ?_) | (refine bl_call (by assumption) ?_) | (refine bl_set _ _ (by simp <;> omega) ?_) | assumption))
          clear hW
          have b0 : W.cell? ⟨w.heap.size, 0, none⟩ = some (.int .i64 2) := blk_cell hk_ 0
          have b1 : W.cell? ⟨w.heap.size, 1, none⟩ = some (.string u) := blk_cell hk_ 1
          have b2 : W.cell? ⟨w.heap.size, 2, none⟩ = some (.string n) := blk_cell hk_ 2
          have b3 : W.cell? ⟨w.heap.size, 3, none⟩ = some (.string s) := blk_cell hk_ 3
          have b4 : W.cell? ⟨w.heap.size, 4, none⟩ = some (.int .i64 i) := blk_cell hk_ 4
          have b5 : W.cell? ⟨w.heap.size, 5, none⟩ = some (.string p) := blk_cell hk_ 5
          have b6 : W.cell? ⟨w.heap.size, 6, none⟩ = some (.string g) := blk_cell hk_ 6
          have b7 : W.cell? ⟨w.heap.size, 7, none⟩ = some (.string f) := blk_cell hk_ 7
          clear hk_
          go_wp2_with fail
          exact bodyPost_ret (v := .bool false) (by simp [results, Tryz.results9, go_sem]) rfl ⟨by rw [hX2.out], hAb⟩
      · obtain ⟨eu1, eu2⟩ := emp_no hu
        have hX2 := Lib.hid (show X = false by rw [hX.out]; simp [hg, hu])
        clear hX hg hu hs
        go_enter Tryz.func9, Tryz.ntmps9
        go_upto_region 1 with fail
        refine gen_world fun W hW => ?_
        have hk_ : W.heap[w.heap.size]? = some (.cells (mA ⟨2, u, n, s, i, p, g, f⟩) 23 (0, 0)) := by subst hW; exact blk_new _ _
        have hAb : Below w.heap.size w W := by subst hW; (repeat (first | exact Below.refl _ _ | (refine bl_alloc ?_ _) | (refine bl_drewN ?_ _) | (refine bl_drew ?_) | (refine bl_call (by assumption) ?_) | (refine bl_set _ _ (by simp <;> omega) ?_) | assumption))
        clear hW
        have b0 : W.cell? ⟨w.heap.size, 0, none⟩ = some (.int .i64 2) := blk_cell hk_ 0
        have b1 : W.cell? ⟨w.heap.size, 1, none⟩ = some (.string u) := blk_cell hk_ 1
        have b2 : W.cell? ⟨w.heap.size, 2, none⟩ = some (.string n) := blk_cell hk_ 2
        have b3 : W.cell? ⟨w.heap.size, 3, none⟩ = some (.string s) := blk_cell hk_ 3
        have b4 : W.cell? ⟨w.heap.size, 4, none⟩ = some (.int .i64 i) := blk_cell hk_ 4
        have b5 : W.cell? ⟨w.heap.size, 5, none⟩ = some (.string p) := blk_cell hk_ 5
        have b6 : W.cell? ⟨w.heap.size, 6, none⟩ = some (.string g) := blk_cell hk_ 6
        have b7 : W.cell? ⟨w.heap.size, 7, none⟩ = some (.string f) := blk_cell hk_ 7
        clear hk_
        go_wp2_with fail
        exact bodyPost_ret (v := .bool false) (by simp [results, Tryz.results9, go_sem]) rfl ⟨by rw [hX2.out], hAb⟩
    · obtain ⟨eg1, eg2⟩ := emp_no hg
      by_cases hu : u = ⟨#[]⟩
      · obtain ⟨eu1, eu2⟩ := emp_yes hu
        by_cases hp : p = ⟨#[]⟩
        · obtain ⟨ep1, ep2⟩ := emp_yes hp
          have hX2 := Lib.hid (show X = false by rw [hX.out]; simp [hg, hu, hp])
          clear hX hg hu hp hs
          go_enter Tryz.func9, Tryz.ntmps9
          go_upto_region 1 with fail
          refine gen_world fun W hW => ?_
          have hk_ : W.heap[w.heap.size]? = some (.cells (mA ⟨2, u, n, s, i, p, g, f⟩) 23 (0, 0)) := by subst hW; exact blk_new _ _
          have hAb : Below w.heap.size w W := by subst hW; (repeat (first | exact Below.refl _ _ | (refine bl_alloc ?_ _) | (refine bl_drewN ?_ _) | (refine bl_drew ?_) | (refine bl_call (by assumption) ?_) | (refine bl_set _ _ (by simp <;> omega) ?_) | assumption))
          clear hW
          have b0 : W.cell? ⟨w.heap.size, 0, none⟩ = some (.int .i64 2) := blk_cell hk_ 0
          have b1 : W.cell? ⟨w.heap.size, 1, none⟩ = some (.string u) := blk_cell hk_ 1
          have b2 : W.cell? ⟨w.heap.size, 2, none⟩ = some (.string n) := blk_cell hk_ 2
          have b3 : W.cell? ⟨w.heap.size, 3, none⟩ = some (.string s) := blk_cell hk_ 3
          have b4 : W.cell? ⟨w.heap.size, 4, none⟩ = some (.int .i64 i) := blk_cell hk_ 4
          have b5 : W.cell? ⟨w.heap.size, 5, none⟩ = some (.string p) := blk_cell hk_ 5
          have b6 : W.cell? ⟨w.heap.size, 6, none⟩ = some (.string g) := blk_cell hk_ 6
          have b7 : W.cell? ⟨w.heap.size, 7, none⟩ = some (.string f) := blk_cell hk_ 7
          clear hk_
          go_wp2_with fail
          exact bodyPost_ret (v := .bool false) (by simp [results, Tryz.results9, go_sem]) rfl ⟨by rw [hX2.out], hAb⟩
        · obtain ⟨ep1, ep2⟩ := emp_no hp
          have hX2 := Lib.hid (show X = false by rw [hX.out]; simp [hg, hu, hp])
          clear hX hg hu hp hs
          go_enter Tryz.func9, Tryz.ntmps9
          go_upto_region 1 with fail
          refine gen_world fun W hW => ?_
          have hk_ : W.heap[w.heap.size]? = some (.cells (mA ⟨2, u, n, s, i, p, g, f⟩) 23 (0, 0)) := by subst hW; exact blk_new _ _
          have hAb : Below w.heap.size w W := by subst hW; (repeat (first | exact Below.refl _ _ | (refine bl_alloc ?_ _) | (refine bl_drewN ?_ _) | (refine bl_drew ?_) | (refine bl_call (by assumption) ?_) | (refine bl_set _ _ (by simp <;> omega) ?_) | assumption))
          clear hW
          have b0 : W.cell? ⟨w.heap.size, 0, none⟩ = some (.int .i64 2) := blk_cell hk_ 0
          have b1 : W.cell? ⟨w.heap.size, 1, none⟩ = some (.string u) := blk_cell hk_ 1
          have b2 : W.cell? ⟨w.heap.size, 2, none⟩ = some (.string n) := blk_cell hk_ 2
          have b3 : W.cell? ⟨w.heap.size, 3, none⟩ = some (.string s) := blk_cell hk_ 3
          have b4 : W.cell? ⟨w.heap.size, 4, none⟩ = some (.int .i64 i) := blk_cell hk_ 4
          have b5 : W.cell? ⟨w.heap.size, 5, none⟩ = some (.string p) := blk_cell hk_ 5
          have b6 : W.cell? ⟨w.heap.size, 6, none⟩ = some (.string g) := blk_cell hk_ 6
          have b7 : W.cell? ⟨w.heap.size, 7, none⟩ = some (.string f) := blk_cell hk_ 7
          clear hk_
          go_wp2_with fail
          exact bodyPost_ret (v := .bool false) (by simp [results, Tryz.results9, go_sem]) rfl ⟨by rw [hX2.out], hAb⟩
      · obtain ⟨eu1, eu2⟩ := emp_no hu
        have hX2 := Lib.hid (show X = false by rw [hX.out]; simp [hg, hu])
        clear hX hg hu hs
        go_enter Tryz.func9, Tryz.ntmps9
        go_upto_region 1 with fail
        refine gen_world fun W hW => ?_
        have hk_ : W.heap[w.heap.size]? = some (.cells (mA ⟨2, u, n, s, i, p, g, f⟩) 23 (0, 0)) := by subst hW; exact blk_new _ _
        have hAb : Below w.heap.size w W := by subst hW; (repeat (first | exact Below.refl _ _ | (refine bl_alloc ?_ _) | (refine bl_drewN ?_ _) | (refine bl_drew ?_) | (refine bl_call (by assumption) ?_) | (refine bl_set _ _ (by simp <;> omega) ?_) | assumption))
        clear hW
        have b0 : W.cell? ⟨w.heap.size, 0, none⟩ = some (.int .i64 2) := blk_cell hk_ 0
        have b1 : W.cell? ⟨w.heap.size, 1, none⟩ = some (.string u) := blk_cell hk_ 1
        have b2 : W.cell? ⟨w.heap.size, 2, none⟩ = some (.string n) := blk_cell hk_ 2
        have b3 : W.cell? ⟨w.heap.size, 3, none⟩ = some (.string s) := blk_cell hk_ 3
        have b4 : W.cell? ⟨w.heap.size, 4, none⟩ = some (.int .i64 i) := blk_cell hk_ 4
        have b5 : W.cell? ⟨w.heap.size, 5, none⟩ = some (.string p) := blk_cell hk_ 5
        have b6 : W.cell? ⟨w.heap.size, 6, none⟩ = some (.string g) := blk_cell hk_ 6
        have b7 : W.cell? ⟨w.heap.size, 7, none⟩ = some (.string f) := blk_cell hk_ 7
        clear hk_
        go_wp2_with fail
        exact bodyPost_ret (v := .bool false) (by simp [results, Tryz.results9, go_sem]) rfl ⟨by rw [hX2.out], hAb⟩
set_option maxHeartbeats 8000000 in
theorem rRight_3 (u n s p g f : ByteArray) (i : Int) (hz : SzM ⟨3, u, n, s, i, p, g, f⟩) (w : World) : Calls Tryz.prog 9 #[mv ⟨3, u, n, s, i, p, g, f⟩] w fun e w' => e = .returned (.bool (decide (rightM (toM ⟨3, u, n, s, i, p, g, f⟩)))) ∧ Below w.heap.size w w' := by
  have hNon := fun w => rnonce_c n (by have := hz.n; simp only at this; omega) w
  obtain ⟨X, hX⟩ : ∃ X, X = decide (rightM (toM ⟨3, u, n, s, i, p, g, f⟩)) := ⟨_, rfl⟩
  rw [← hX]
  have hd := r3_iff u n s p g f i
  replace hX : X = decide _ := hX.trans (decide_eq_decide.2 hd)
  clear hd hz
  replace hX := Lib.hid hX
  unfold mv
  by_cases hs : s = ⟨#[]⟩
  · obtain ⟨es1, es2⟩ := emp_yes hs
    by_cases hg : g = ⟨#[]⟩
    · obtain ⟨eg1, eg2⟩ := emp_yes hg
      by_cases hu : u = ⟨#[]⟩
      · obtain ⟨eu1, eu2⟩ := emp_yes hu
        by_cases hi : i = 0
        · subst hi
          by_cases hf : f = ⟨#[]⟩
          · obtain ⟨ef1, ef2⟩ := emp_yes hf
            cases hV2 : nonceOk n.data.toList
            · rw [hV2] at hNon
              have hX2 := Lib.hid (show X = false by rw [hX.out]; simp [hs, hg, hu, hf, hV2])
              clear hX hs hg hu hf hV2
              go_enter Tryz.func9, Tryz.ntmps9
              go_upto_region 1 with fail
              refine gen_world fun W hW => ?_
              have hk_ : W.heap[w.heap.size]? = some (.cells (mA ⟨3, u, n, s, 0, p, g, f⟩) 23 (0, 0)) := by subst hW; exact blk_new _ _
              have hAb : Below w.heap.size w W := by subst hW; (repeat (first | exact Below.refl _ _ | (refine bl_alloc ?_ _) | (refine bl_drewN ?_ _) | (refine bl_drew ?_) | (refine bl_call (by assumption) ?_) | (refine bl_set _ _ (by simp <;> omega) ?_) | assumption))
              clear hW
              have b0 : W.cell? ⟨w.heap.size, 0, none⟩ = some (.int .i64 3) := blk_cell hk_ 0
              have b1 : W.cell? ⟨w.heap.size, 1, none⟩ = some (.string u) := blk_cell hk_ 1
              have b2 : W.cell? ⟨w.heap.size, 2, none⟩ = some (.string n) := blk_cell hk_ 2
              have b3 : W.cell? ⟨w.heap.size, 3, none⟩ = some (.string s) := blk_cell hk_ 3
              have b4 : W.cell? ⟨w.heap.size, 4, none⟩ = some (.int .i64 0) := blk_cell hk_ 4
              have b5 : W.cell? ⟨w.heap.size, 5, none⟩ = some (.string p) := blk_cell hk_ 5
              have b6 : W.cell? ⟨w.heap.size, 6, none⟩ = some (.string g) := blk_cell hk_ 6
              have b7 : W.cell? ⟨w.heap.size, 7, none⟩ = some (.string f) := blk_cell hk_ 7
              clear hk_
              go_wp2_with (first | (go_at_call 23; refine (hNon _).mono ?_; rintro e w6 ⟨rfl, hb6⟩; have hb_ := bl_call hb6 hAb; replace hAb := hb_; have d0 := grow_cell hb6 b0; have d1 := grow_cell hb6 b1; have d2 := grow_cell hb6 b2; have d3 := grow_cell hb6 b3; have d4 := grow_cell hb6 b4; have d5 := grow_cell hb6 b5; have d6 := grow_cell hb6 b6; have d7 := grow_cell hb6 b7))
              exact bodyPost_ret (v := .bool false) (by simp [results, Tryz.results9, go_sem]) rfl ⟨by rw [hX2.out], hAb⟩
            · rw [hV2] at hNon
              by_cases hVP : p.size = 32
              · have jp : ((p.size : Int) == 32) = true := beq_iff_eq.2 (by omega)
                have j2p : (p.size : Int) = 32 := by omega
                have hX2 := Lib.hid (show X = true by rw [hX.out]; simp [hs, hg, hu, hf, hV2, hVP])
                clear hX hs hg hu hf hV2 hVP
                go_enter Tryz.func9, Tryz.ntmps9
                go_upto_region 1 with fail
                refine gen_world fun W hW => ?_
                have hk_ : W.heap[w.heap.size]? = some (.cells (mA ⟨3, u, n, s, 0, p, g, f⟩) 23 (0, 0)) := by subst hW; exact blk_new _ _
                have hAb : Below w.heap.size w W := by subst hW; (repeat (first | exact Below.refl _ _ | (refine bl_alloc ?_ _) | (refine bl_drewN ?_ _) | (refine bl_drew ?_) | (refine bl_call (by assumption) ?_) | (refine bl_set _ _ (by simp <;> omega) ?_) | assumption))
                clear hW
                have b0 : W.cell? ⟨w.heap.size, 0, none⟩ = some (.int .i64 3) := blk_cell hk_ 0
                have b1 : W.cell? ⟨w.heap.size, 1, none⟩ = some (.string u) := blk_cell hk_ 1
                have b2 : W.cell? ⟨w.heap.size, 2, none⟩ = some (.string n) := blk_cell hk_ 2
                have b3 : W.cell? ⟨w.heap.size, 3, none⟩ = some (.string s) := blk_cell hk_ 3
                have b4 : W.cell? ⟨w.heap.size, 4, none⟩ = some (.int .i64 0) := blk_cell hk_ 4
                have b5 : W.cell? ⟨w.heap.size, 5, none⟩ = some (.string p) := blk_cell hk_ 5
                have b6 : W.cell? ⟨w.heap.size, 6, none⟩ = some (.string g) := blk_cell hk_ 6
                have b7 : W.cell? ⟨w.heap.size, 7, none⟩ = some (.string f) := blk_cell hk_ 7
                clear hk_
                go_wp2_with (first | (go_at_call 23; refine (hNon _).mono ?_; rintro e w6 ⟨rfl, hb6⟩; have hb_ := bl_call hb6 hAb; replace hAb := hb_; have d0 := grow_cell hb6 b0; have d1 := grow_cell hb6 b1; have d2 := grow_cell hb6 b2; have d3 := grow_cell hb6 b3; have d4 := grow_cell hb6 b4; have d5 := grow_cell hb6 b5; have d6 := grow_cell hb6 b6; have d7 := grow_cell hb6 b7))
                exact bodyPost_ret (v := .bool true) (by simp [results, Tryz.results9, go_sem]) rfl ⟨by rw [hX2.out], hAb⟩
              · have jp : ((p.size : Int) == 32) = false := beq_eq_false_iff_ne.2 (by omega)
                have j2p : ¬ (p.size : Int) = 32 := by omega
                have hX2 := Lib.hid (show X = false by rw [hX.out]; simp [hs, hg, hu, hf, hV2, hVP])
                clear hX hs hg hu hf hV2 hVP
                go_enter Tryz.func9, Tryz.ntmps9
                go_upto_region 1 with fail
                refine gen_world fun W hW => ?_
                have hk_ : W.heap[w.heap.size]? = some (.cells (mA ⟨3, u, n, s, 0, p, g, f⟩) 23 (0, 0)) := by subst hW; exact blk_new _ _
                have hAb : Below w.heap.size w W := by subst hW; (repeat (first | exact Below.refl _ _ | (refine bl_alloc ?_ _) | (refine bl_drewN ?_ _) | (refine bl_drew ?_) | (refine bl_call (by assumption) ?_) | (refine bl_set _ _ (by simp <;> omega) ?_) | assumption))
                clear hW
                have b0 : W.cell? ⟨w.heap.size, 0, none⟩ = some (.int .i64 3) := blk_cell hk_ 0
                have b1 : W.cell? ⟨w.heap.size, 1, none⟩ = some (.string u) := blk_cell hk_ 1
                have b2 : W.cell? ⟨w.heap.size, 2, none⟩ = some (.string n) := blk_cell hk_ 2
                have b3 : W.cell? ⟨w.heap.size, 3, none⟩ = some (.string s) := blk_cell hk_ 3
                have b4 : W.cell? ⟨w.heap.size, 4, none⟩ = some (.int .i64 0) := blk_cell hk_ 4
                have b5 : W.cell? ⟨w.heap.size, 5, none⟩ = some (.string p) := blk_cell hk_ 5
                have b6 : W.cell? ⟨w.heap.size, 6, none⟩ = some (.string g) := blk_cell hk_ 6
                have b7 : W.cell? ⟨w.heap.size, 7, none⟩ = some (.string f) := blk_cell hk_ 7
                clear hk_
                go_wp2_with (first | (go_at_call 23; refine (hNon _).mono ?_; rintro e w6 ⟨rfl, hb6⟩; have hb_ := bl_call hb6 hAb; replace hAb := hb_; have d0 := grow_cell hb6 b0; have d1 := grow_cell hb6 b1; have d2 := grow_cell hb6 b2; have d3 := grow_cell hb6 b3; have d4 := grow_cell hb6 b4; have d5 := grow_cell hb6 b5; have d6 := grow_cell hb6 b6; have d7 := grow_cell hb6 b7))
                exact bodyPost_ret (v := .bool false) (by simp [results, Tryz.results9, go_sem]) rfl ⟨by rw [hX2.out], hAb⟩
          · obtain ⟨ef1, ef2⟩ := emp_no hf
            have hX2 := Lib.hid (show X = false by rw [hX.out]; simp [hs, hg, hu, hf])
            clear hX hs hg hu hf
            go_enter Tryz.func9, Tryz.ntmps9
            go_upto_region 1 with fail
            refine gen_world fun W hW => ?_
            have hk_ : W.heap[w.heap.size]? = some (.cells (mA ⟨3, u, n, s, 0, p, g, f⟩) 23 (0, 0)) := by subst hW; exact blk_new _ _
            have hAb : Below w.heap.size w W := by subst hW; (repeat (first | exact Below.refl _ _ | (refine bl_alloc ?_ _) | (refine bl_drewN ?_ _) | (refine bl_drew ?_) | (refine bl_call (by assumption) ?_) | (refine bl_set _ _ (by simp <;> omega) ?_) | assumption))
            clear hW
            have b0 : W.cell? ⟨w.heap.size, 0, none⟩ = some (.int .i64 3) := blk_cell hk_ 0
            have b1 : W.cell? ⟨w.heap.size, 1, none⟩ = some (.string u) := blk_cell hk_ 1
            have b2 : W.cell? ⟨w.heap.size, 2, none⟩ = some (.string n) := blk_cell hk_ 2
            have b3 : W.cell? ⟨w.heap.size, 3, none⟩ = some (.string s) := blk_cell hk_ 3
            have b4 : W.cell? ⟨w.heap.size, 4, none⟩ = some (.int .i64 0) := blk_cell hk_ 4
            have b5 : W.cell? ⟨w.heap.size, 5, none⟩ = some (.string p) := blk_cell hk_ 5
            have b6 : W.cell? ⟨w.heap.size, 6, none⟩ = some (.string g) := blk_cell hk_ 6
            have b7 : W.cell? ⟨w.heap.size, 7, none⟩ = some (.string f) := blk_cell hk_ 7
            clear hk_
            go_wp2_with fail
            exact bodyPost_ret (v := .bool false) (by simp [results, Tryz.results9, go_sem]) rfl ⟨by rw [hX2.out], hAb⟩
        · have hi2 : (i == 0) = false := beq_eq_false_iff_ne.2 hi
          have hX2 := Lib.hid (show X = false by rw [hX.out]; simp [hs, hg, hu, hi])
          clear hX hs hg hu
          go_enter Tryz.func9, Tryz.ntmps9
          go_upto_region 1 with fail
          refine gen_world fun W hW => ?_
          have hk_ : W.heap[w.heap.size]? = some (.cells (mA ⟨3, u, n, s, i, p, g, f⟩) 23 (0, 0)) := by subst hW; exact blk_new _ _
          have hAb : Below w.heap.size w W := by subst hW; (repeat (first | exact Below.refl _ _ | (refine bl_alloc ?_ _) | (refine bl_drewN ?_ _) | (refine bl_drew ?_) | (refine bl_call (by assumption) ?_) | (refine bl_set _ _ (by simp <;> omega) ?_) | assumption))
          clear hW
          have b0 : W.cell? ⟨w.heap.size, 0, none⟩ = some (.int .i64 3) := blk_cell hk_ 0
          have b1 : W.cell? ⟨w.heap.size, 1, none⟩ = some (.string u) := blk_cell hk_ 1
          have b2 : W.cell? ⟨w.heap.size, 2, none⟩ = some (.string n) := blk_cell hk_ 2
          have b3 : W.cell? ⟨w.heap.size, 3, none⟩ = some (.string s) := blk_cell hk_ 3
          have b4 : W.cell? ⟨w.heap.size, 4, none⟩ = some (.int .i64 i) := blk_cell hk_ 4
          have b5 : W.cell? ⟨w.heap.size, 5, none⟩ = some (.string p) := blk_cell hk_ 5
          have b6 : W.cell? ⟨w.heap.size, 6, none⟩ = some (.string g) := blk_cell hk_ 6
          have b7 : W.cell? ⟨w.heap.size, 7, none⟩ = some (.string f) := blk_cell hk_ 7
          clear hk_
          go_wp2_with fail
          exact bodyPost_ret (v := .bool false) (by simp [results, Tryz.results9, go_sem]) rfl ⟨by rw [hX2.out], hAb⟩
      · obtain ⟨eu1, eu2⟩ := emp_no hu
        have hX2 := Lib.hid (show X = false by rw [hX.out]; simp [hs, hg, hu])
        clear hX hs hg hu
        go_enter Tryz.func9, Tryz.ntmps9
        go_upto_region 1 with fail
        refine gen_world fun W hW => ?_
        have hk_ : W.heap[w.heap.size]? = some (.cells (mA ⟨3, u, n, s, i, p, g, f⟩) 23 (0, 0)) := by subst hW; exact blk_new _ _
        have hAb : Below w.heap.size w W := by subst hW; (repeat (first | exact Below.refl _ _ | (refine bl_alloc ?_ _) | (refine bl_drewN ?_ _) | (refine bl_drew ?_) | (refine bl_call (by assumption) ?_) | (refine bl_set _ _ (by simp <;> omega) ?_) | assumption))
        clear hW
        have b0 : W.cell? ⟨w.heap.size, 0, none⟩ = some (.int .i64 3) := blk_cell hk_ 0
        have b1 : W.cell? ⟨w.heap.size, 1, none⟩ = some (.string u) := blk_cell hk_ 1
        have b2 : W.cell? ⟨w.heap.size, 2, none⟩ = some (.string n) := blk_cell hk_ 2
        have b3 : W.cell? ⟨w.heap.size, 3, none⟩ = some (.string s) := blk_cell hk_ 3
        have b4 : W.cell? ⟨w.heap.size, 4, none⟩ = some (.int .i64 i) := blk_cell hk_ 4
        have b5 : W.cell? ⟨w.heap.size, 5, none⟩ = some (.string p) := blk_cell hk_ 5
        have b6 : W.cell? ⟨w.heap.size, 6, none⟩ = some (.string g) := blk_cell hk_ 6
        have b7 : W.cell? ⟨w.heap.size, 7, none⟩ = some (.string f) := blk_cell hk_ 7
        clear hk_
        go_wp2_with fail
        exact bodyPost_ret (v := .bool false) (by simp [results, Tryz.results9, go_sem]) rfl ⟨by rw [hX2.out], hAb⟩
    · obtain ⟨eg1, eg2⟩ := emp_no hg
      by_cases hu : u = ⟨#[]⟩
      · obtain ⟨eu1, eu2⟩ := emp_yes hu
        by_cases hi : i = 0
        · subst hi
          have hX2 := Lib.hid (show X = false by rw [hX.out]; simp [hs, hg, hu])
          clear hX hs hg hu
          go_enter Tryz.func9, Tryz.ntmps9
          go_upto_region 1 with fail
          refine gen_world fun W hW => ?_
          have hk_ : W.heap[w.heap.size]? = some (.cells (mA ⟨3, u, n, s, 0, p, g, f⟩) 23 (0, 0)) := by subst hW; exact blk_new _ _
          have hAb : Below w.heap.size w W := by subst hW; (repeat (first | exact Below.refl _ _ | (refine bl_alloc ?_ _) | (refine bl_drewN ?_ _) | (refine bl_drew ?_) | (refine bl_call (by assumption) ?_) | (refine bl_set _ _ (by simp <;> omega) ?_) | assumption))
          clear hW
          have b0 : W.cell? ⟨w.heap.size, 0, none⟩ = some (.int .i64 3) := blk_cell hk_ 0
          have b1 : W.cell? ⟨w.heap.size, 1, none⟩ = some (.string u) := blk_cell hk_ 1
          have b2 : W.cell? ⟨w.heap.size, 2, none⟩ = some (.string n) := blk_cell hk_ 2
          have b3 : W.cell? ⟨w.heap.size, 3, none⟩ = some (.string s) := blk_cell hk_ 3
          have b4 : W.cell? ⟨w.heap.size, 4, none⟩ = some (.int .i64 0) := blk_cell hk_ 4
          have b5 : W.cell? ⟨w.heap.size, 5, none⟩ = some (.string p) := blk_cell hk_ 5
          have b6 : W.cell? ⟨w.heap.size, 6, none⟩ = some (.string g) := blk_cell hk_ 6
          have b7 : W.cell? ⟨w.heap.size, 7, none⟩ = some (.string f) := blk_cell hk_ 7
          clear hk_
          go_wp2_with fail
          exact bodyPost_ret (v := .bool false) (by simp [results, Tryz.results9, go_sem]) rfl ⟨by rw [hX2.out], hAb⟩
        · have hi2 : (i == 0) = false := beq_eq_false_iff_ne.2 hi
          have hX2 := Lib.hid (show X = false by rw [hX.out]; simp [hs, hg, hu, hi])
          clear hX hs hg hu
          go_enter Tryz.func9, Tryz.ntmps9
          go_upto_region 1 with fail
          refine gen_world fun W hW => ?_
          have hk_ : W.heap[w.heap.size]? = some (.cells (mA ⟨3, u, n, s, i, p, g, f⟩) 23 (0, 0)) := by subst hW; exact blk_new _ _
          have hAb : Below w.heap.size w W := by subst hW; (repeat (first | exact Below.refl _ _ | (refine bl_alloc ?_ _) | (refine bl_drewN ?_ _) | (refine bl_drew ?_) | (refine bl_call (by assumption) ?_) | (refine bl_set _ _ (by simp <;> omega) ?_) | assumption))
          clear hW
          have b0 : W.cell? ⟨w.heap.size, 0, none⟩ = some (.int .i64 3) := blk_cell hk_ 0
          have b1 : W.cell? ⟨w.heap.size, 1, none⟩ = some (.string u) := blk_cell hk_ 1
          have b2 : W.cell? ⟨w.heap.size, 2, none⟩ = some (.string n) := blk_cell hk_ 2
          have b3 : W.cell? ⟨w.heap.size, 3, none⟩ = some (.string s) := blk_cell hk_ 3
          have b4 : W.cell? ⟨w.heap.size, 4, none⟩ = some (.int .i64 i) := blk_cell hk_ 4
          have b5 : W.cell? ⟨w.heap.size, 5, none⟩ = some (.string p) := blk_cell hk_ 5
          have b6 : W.cell? ⟨w.heap.size, 6, none⟩ = some (.string g) := blk_cell hk_ 6
          have b7 : W.cell? ⟨w.heap.size, 7, none⟩ = some (.string f) := blk_cell hk_ 7
          clear hk_
          go_wp2_with fail
          exact bodyPost_ret (v := .bool false) (by simp [results, Tryz.results9, go_sem]) rfl ⟨by rw [hX2.out], hAb⟩
      · obtain ⟨eu1, eu2⟩ := emp_no hu
        have hX2 := Lib.hid (show X = false by rw [hX.out]; simp [hs, hg, hu])
        clear hX hs hg hu
        go_enter Tryz.func9, Tryz.ntmps9
        go_upto_region 1 with fail
        refine gen_world fun W hW => ?_
        have hk_ : W.heap[w.heap.size]? = some (.cells (mA ⟨3, u, n, s, i, p, g, f⟩) 23 (0, 0)) := by subst hW; exact blk_new _ _
        have hAb : Below w.heap.size w W := by subst hW; (repeat (first | exact Below.refl _ _ | (refine bl_alloc ?_ _) | (refine bl_drewN ?_ _) | (refine bl_drew ?_) | (refine bl_call (by assumption) ?_) | (refine bl_set _ _ (by simp <;> omega) ?_) | assumption))
        clear hW
        have b0 : W.cell? ⟨w.heap.size, 0, none⟩ = some (.int .i64 3) := blk_cell hk_ 0
        have b1 : W.cell? ⟨w.heap.size, 1, none⟩ = some (.string u) := blk_cell hk_ 1
        have b2 : W.cell? ⟨w.heap.size, 2, none⟩ = some (.string n) := blk_cell hk_ 2
        have b3 : W.cell? ⟨w.heap.size, 3, none⟩ = some (.string s) := blk_cell hk_ 3
        have b4 : W.cell? ⟨w.heap.size, 4, none⟩ = some (.int .i64 i) := blk_cell hk_ 4
        have b5 : W.cell? ⟨w.heap.size, 5, none⟩ = some (.string p) := blk_cell hk_ 5
        have b6 : W.cell? ⟨w.heap.size, 6, none⟩ = some (.string g) := blk_cell hk_ 6
        have b7 : W.cell? ⟨w.heap.size, 7, none⟩ = some (.string f) := blk_cell hk_ 7
        clear hk_
        go_wp2_with fail
        exact bodyPost_ret (v := .bool false) (by simp [results, Tryz.results9, go_sem]) rfl ⟨by rw [hX2.out], hAb⟩
  · obtain ⟨es1, es2⟩ := emp_no hs
    by_cases hg : g = ⟨#[]⟩
    · obtain ⟨eg1, eg2⟩ := emp_yes hg
      by_cases hu : u = ⟨#[]⟩
      · obtain ⟨eu1, eu2⟩ := emp_yes hu
        have hX2 := Lib.hid (show X = false by rw [hX.out]; simp [hs, hg, hu])
        clear hX hs hg hu
        go_enter Tryz.func9, Tryz.ntmps9
        go_upto_region 1 with fail
        refine gen_world fun W hW => ?_
        have hk_ : W.heap[w.heap.size]? = some (.cells (mA ⟨3, u, n, s, i, p, g, f⟩) 23 (0, 0)) := by subst hW; exact blk_new _ _
        have hAb : Below w.heap.size w W := by subst hW; (repeat (first | exact Below.refl _ _ | (refine bl_alloc ?_ _) | (refine bl_drewN ?_ _) | (refine bl_drew ?_) | (refine bl_call (by assumption) ?_) | (refine bl_set _ _ (by simp <;> omega) ?_) | assumption))
        clear hW
        have b0 : W.cell? ⟨w.heap.size, 0, none⟩ = some (.int .i64 3) := blk_cell hk_ 0
        have b1 : W.cell? ⟨w.heap.size, 1, none⟩ = some (.string u) := blk_cell hk_ 1
        have b2 : W.cell? ⟨w.heap.size, 2, none⟩ = some (.string n) := blk_cell hk_ 2
        have b3 : W.cell? ⟨w.heap.size, 3, none⟩ = some (.string s) := blk_cell hk_ 3
        have b4 : W.cell? ⟨w.heap.size, 4, none⟩ = some (.int .i64 i) := blk_cell hk_ 4
        have b5 : W.cell? ⟨w.heap.size, 5, none⟩ = some (.string p) := blk_cell hk_ 5
        have b6 : W.cell? ⟨w.heap.size, 6, none⟩ = some (.string g) := blk_cell hk_ 6
        have b7 : W.cell? ⟨w.heap.size, 7, none⟩ = some (.string f) := blk_cell hk_ 7
        clear hk_
        go_wp2_with fail
        exact bodyPost_ret (v := .bool false) (by simp [results, Tryz.results9, go_sem]) rfl ⟨by rw [hX2.out], hAb⟩
      · obtain ⟨eu1, eu2⟩ := emp_no hu
        have hX2 := Lib.hid (show X = false by rw [hX.out]; simp [hs, hg, hu])
        clear hX hs hg hu
        go_enter Tryz.func9, Tryz.ntmps9
        go_upto_region 1 with fail
        refine gen_world fun W hW => ?_
        have hk_ : W.heap[w.heap.size]? = some (.cells (mA ⟨3, u, n, s, i, p, g, f⟩) 23 (0, 0)) := by subst hW; exact blk_new _ _
        have hAb : Below w.heap.size w W := by subst hW; (repeat (first | exact Below.refl _ _ | (refine bl_alloc ?_ _) | (refine bl_drewN ?_ _) | (refine bl_drew ?_) | (refine bl_call (by assumption) ?_) | (refine bl_set _ _ (by simp <;> omega) ?_) | assumption))
        clear hW
        have b0 : W.cell? ⟨w.heap.size, 0, none⟩ = some (.int .i64 3) := blk_cell hk_ 0
        have b1 : W.cell? ⟨w.heap.size, 1, none⟩ = some (.string u) := blk_cell hk_ 1
        have b2 : W.cell? ⟨w.heap.size, 2, none⟩ = some (.string n) := blk_cell hk_ 2
        have b3 : W.cell? ⟨w.heap.size, 3, none⟩ = some (.string s) := blk_cell hk_ 3
        have b4 : W.cell? ⟨w.heap.size, 4, none⟩ = some (.int .i64 i) := blk_cell hk_ 4
        have b5 : W.cell? ⟨w.heap.size, 5, none⟩ = some (.string p) := blk_cell hk_ 5
        have b6 : W.cell? ⟨w.heap.size, 6, none⟩ = some (.string g) := blk_cell hk_ 6
        have b7 : W.cell? ⟨w.heap.size, 7, none⟩ = some (.string f) := blk_cell hk_ 7
        clear hk_
        go_wp2_with fail
        exact bodyPost_ret (v := .bool false) (by simp [results, Tryz.results9, go_sem]) rfl ⟨by rw [hX2.out], hAb⟩
    · obtain ⟨eg1, eg2⟩ := emp_no hg
      by_cases hu : u = ⟨#[]⟩
      · obtain ⟨eu1, eu2⟩ := emp_yes hu
        have hX2 := Lib.hid (show X = false by rw [hX.out]; simp [hs, hg, hu])
        clear hX hs hg hu
        go_enter Tryz.func9, Tryz.ntmps9
        go_upto_region 1 with fail
        refine gen_world fun W hW => ?_
        have hk_ : W.heap[w.heap.size]? = some (.cells (mA ⟨3, u, n, s, i, p, g, f⟩) 23 (0, 0)) := by subst hW; exact blk_new _ _
        have hAb : Below w.heap.size w W := by subst hW; (repeat (first | exact Below.refl _ _ | (refine bl_alloc ?_ _) | (refine bl_drewN ?_ _) | (refine bl_drew ?_) | (refine bl_call (by assumption) ?_) | (refine bl_set _ _ (by simp <;> omega) ?_) | assumption))
        clear hW
        have b0 : W.cell? ⟨w.heap.size, 0, none⟩ = some (.int .i64 3) := blk_cell hk_ 0
        have b1 : W.cell? ⟨w.heap.size, 1, none⟩ = some (.string u) := blk_cell hk_ 1
        have b2 : W.cell? ⟨w.heap.size, 2, none⟩ = some (.string n) := blk_cell hk_ 2
        have b3 : W.cell? ⟨w.heap.size, 3, none⟩ = some (.string s) := blk_cell hk_ 3
        have b4 : W.cell? ⟨w.heap.size, 4, none⟩ = some (.int .i64 i) := blk_cell hk_ 4
        have b5 : W.cell? ⟨w.heap.size, 5, none⟩ = some (.string p) := blk_cell hk_ 5
        have b6 : W.cell? ⟨w.heap.size, 6, none⟩ = some (.string g) := blk_cell hk_ 6
        have b7 : W.cell? ⟨w.heap.size, 7, none⟩ = some (.string f) := blk_cell hk_ 7
        clear hk_
        go_wp2_with fail
        exact bodyPost_ret (v := .bool false) (by simp [results, Tryz.results9, go_sem]) rfl ⟨by rw [hX2.out], hAb⟩
      · obtain ⟨eu1, eu2⟩ := emp_no hu
        have hX2 := Lib.hid (show X = false by rw [hX.out]; simp [hs, hg, hu])
        clear hX hs hg hu
        go_enter Tryz.func9, Tryz.ntmps9
        go_upto_region 1 with fail
        refine gen_world fun W hW => ?_
        have hk_ : W.heap[w.heap.size]? = some (.cells (mA ⟨3, u, n, s, i, p, g, f⟩) 23 (0, 0)) := by subst hW; exact blk_new _ _
        have hAb : Below w.heap.size w W := by subst hW; (repeat (first | exact Below.refl _ _ | (refine bl_alloc ?_ _) | (refine bl_drewN ?_ _) | (refine bl_drew ?_) | (refine bl_call (by assumption) ?_) | (refine bl_set _ _ (by simp <;> omega) ?_) | assumption))
        clear hW
        have b0 : W.cell? ⟨w.heap.size, 0, none⟩ = some (.int .i64 3) := blk_cell hk_ 0
        have b1 : W.cell? ⟨w.heap.size, 1, none⟩ = some (.string u) := blk_cell hk_ 1
        have b2 : W.cell? ⟨w.heap.size, 2, none⟩ = some (.string n) := blk_cell hk_ 2
        have b3 : W.cell? ⟨w.heap.size, 3, none⟩ = some (.string s) := blk_cell hk_ 3
        have b4 : W.cell? ⟨w.heap.size, 4, none⟩ = some (.int .i64 i) := blk_cell hk_ 4
        have b5 : W.cell? ⟨w.heap.size, 5, none⟩ = some (.string p) := blk_cell hk_ 5
        have b6 : W.cell? ⟨w.heap.size, 6, none⟩ = some (.string g) := blk_cell hk_ 6
        have b7 : W.cell? ⟨w.heap.size, 7, none⟩ = some (.string f) := blk_cell hk_ 7
        clear hk_
        go_wp2_with fail
        exact bodyPost_ret (v := .bool false) (by simp [results, Tryz.results9, go_sem]) rfl ⟨by rw [hX2.out], hAb⟩
set_option maxHeartbeats 8000000 in
theorem rRight_4 (u n s p g f : ByteArray) (i : Int) (hz : SzM ⟨4, u, n, s, i, p, g, f⟩) (w : World) : Calls Tryz.prog 9 #[mv ⟨4, u, n, s, i, p, g, f⟩] w fun e w' => e = .returned (.bool (decide (rightM (toM ⟨4, u, n, s, i, p, g, f⟩)))) ∧ Below w.heap.size w w' := by
  have hFail := fun w => rfail_c f (by have := hz.f; simp only at this; omega) w
  obtain ⟨X, hX⟩ : ∃ X, X = decide (rightM (toM ⟨4, u, n, s, i, p, g, f⟩)) := ⟨_, rfl⟩
  rw [← hX]
  have hd := r4_iff u n s p g f i
  replace hX : X = decide _ := hX.trans (decide_eq_decide.2 hd)
  clear hd hz
  replace hX := Lib.hid hX
  unfold mv
  by_cases hs : s = ⟨#[]⟩
  · obtain ⟨es1, es2⟩ := emp_yes hs
    by_cases hg : g = ⟨#[]⟩
    · obtain ⟨eg1, eg2⟩ := emp_yes hg
      have g0g := size_zero hg
      have g1g : (g.size : Int) = 0 := by omega
      by_cases hu : u = ⟨#[]⟩
      · obtain ⟨eu1, eu2⟩ := emp_yes hu
        by_cases hn : n = ⟨#[]⟩
        · obtain ⟨en1, en2⟩ := emp_yes hn
          by_cases hi : i = 0
          · subst hi
            by_cases hp : p = ⟨#[]⟩
            · obtain ⟨ep1, ep2⟩ := emp_yes hp
              cases hV3 : failOk f.data.toList
              · rw [hV3] at hFail
                have hX2 := Lib.hid (show X = false by rw [hX.out]; simp [hs, hg, hu, hn, hp, hV3, bz00])
                clear hX hs hg hu hn hp hV3
                go_enter Tryz.func9, Tryz.ntmps9
                go_upto_region 1 with fail
                refine gen_world fun W hW => ?_
                have hk_ : W.heap[w.heap.size]? = some (.cells (mA ⟨4, u, n, s, 0, p, g, f⟩) 23 (0, 0)) := by subst hW; exact blk_new _ _
                have hAb : Below w.heap.size w W := by subst hW; (repeat (first | exact Below.refl _ _ | (refine bl_alloc ?_ _) | (refine bl_drewN ?_ _) | (refine bl_drew ?_) | (refine bl_call (by assumption) ?_) | (refine bl_set _ _ (by simp <;> omega) ?_) | assumption))
                clear hW
                have b0 : W.cell? ⟨w.heap.size, 0, none⟩ = some (.int .i64 4) := blk_cell hk_ 0
                have b1 : W.cell? ⟨w.heap.size, 1, none⟩ = some (.string u) := blk_cell hk_ 1
                have b2 : W.cell? ⟨w.heap.size, 2, none⟩ = some (.string n) := blk_cell hk_ 2
                have b3 : W.cell? ⟨w.heap.size, 3, none⟩ = some (.string s) := blk_cell hk_ 3
                have b4 : W.cell? ⟨w.heap.size, 4, none⟩ = some (.int .i64 0) := blk_cell hk_ 4
                have b5 : W.cell? ⟨w.heap.size, 5, none⟩ = some (.string p) := blk_cell hk_ 5
                have b6 : W.cell? ⟨w.heap.size, 6, none⟩ = some (.string g) := blk_cell hk_ 6
                have b7 : W.cell? ⟨w.heap.size, 7, none⟩ = some (.string f) := blk_cell hk_ 7
                clear hk_
                go_wp2_with (first | (go_at_call 26; refine (hFail _).mono ?_; rintro e w9 ⟨rfl, hb9⟩; have hb_ := bl_call hb9 hAb; replace hAb := hb_))
                exact bodyPost_ret (v := .bool false) (by simp [results, Tryz.results9, go_sem]) rfl ⟨by rw [hX2.out], hAb⟩
              · rw [hV3] at hFail
                have hX2 := Lib.hid (show X = true by rw [hX.out]; simp [hs, hg, hu, hn, hp, hV3, bz00])
                clear hX hs hg hu hn hp hV3
                go_enter Tryz.func9, Tryz.ntmps9
                go_upto_region 1 with fail
                refine gen_world fun W hW => ?_
                have hk_ : W.heap[w.heap.size]? = some (.cells (mA ⟨4, u, n, s, 0, p, g, f⟩) 23 (0, 0)) := by subst hW; exact blk_new _ _
                have hAb : Below w.heap.size w W := by subst hW; (repeat (first | exact Below.refl _ _ | (refine bl_alloc ?_ _) | (refine bl_drewN ?_ _) | (refine bl_drew ?_) | (refine bl_call (by assumption) ?_) | (refine bl_set _ _ (by simp <;> omega) ?_) | assumption))
                clear hW
                have b0 : W.cell? ⟨w.heap.size, 0, none⟩ = some (.int .i64 4) := blk_cell hk_ 0
                have b1 : W.cell? ⟨w.heap.size, 1, none⟩ = some (.string u) := blk_cell hk_ 1
                have b2 : W.cell? ⟨w.heap.size, 2, none⟩ = some (.string n) := blk_cell hk_ 2
                have b3 : W.cell? ⟨w.heap.size, 3, none⟩ = some (.string s) := blk_cell hk_ 3
                have b4 : W.cell? ⟨w.heap.size, 4, none⟩ = some (.int .i64 0) := blk_cell hk_ 4
                have b5 : W.cell? ⟨w.heap.size, 5, none⟩ = some (.string p) := blk_cell hk_ 5
                have b6 : W.cell? ⟨w.heap.size, 6, none⟩ = some (.string g) := blk_cell hk_ 6
                have b7 : W.cell? ⟨w.heap.size, 7, none⟩ = some (.string f) := blk_cell hk_ 7
                clear hk_
                go_wp2_with (first | (go_at_call 26; refine (hFail _).mono ?_; rintro e w9 ⟨rfl, hb9⟩; have hb_ := bl_call hb9 hAb; replace hAb := hb_))
                exact bodyPost_ret (v := .bool true) (by simp [results, Tryz.results9, go_sem]) rfl ⟨by rw [hX2.out], hAb⟩
            · obtain ⟨ep1, ep2⟩ := emp_no hp
              have hX2 := Lib.hid (show X = false by rw [hX.out]; simp [hs, hg, hu, hn, hp, bz00])
              clear hX hs hg hu hn hp
              go_enter Tryz.func9, Tryz.ntmps9
              go_upto_region 1 with fail
              refine gen_world fun W hW => ?_
              have hk_ : W.heap[w.heap.size]? = some (.cells (mA ⟨4, u, n, s, 0, p, g, f⟩) 23 (0, 0)) := by subst hW; exact blk_new _ _
              have hAb : Below w.heap.size w W := by subst hW; (repeat (first | exact Below.refl _ _ | (refine bl_alloc ?_ _) | (refine bl_drewN ?_ _) | (refine bl_drew ?_) | (refine bl_call (by assumption) ?_) | (refine bl_set _ _ (by simp <;> omega) ?_) | assumption))
              clear hW
              have b0 : W.cell? ⟨w.heap.size, 0, none⟩ = some (.int .i64 4) := blk_cell hk_ 0
              have b1 : W.cell? ⟨w.heap.size, 1, none⟩ = some (.string u) := blk_cell hk_ 1
              have b2 : W.cell? ⟨w.heap.size, 2, none⟩ = some (.string n) := blk_cell hk_ 2
              have b3 : W.cell? ⟨w.heap.size, 3, none⟩ = some (.string s) := blk_cell hk_ 3
              have b4 : W.cell? ⟨w.heap.size, 4, none⟩ = some (.int .i64 0) := blk_cell hk_ 4
              have b5 : W.cell? ⟨w.heap.size, 5, none⟩ = some (.string p) := blk_cell hk_ 5
              have b6 : W.cell? ⟨w.heap.size, 6, none⟩ = some (.string g) := blk_cell hk_ 6
              have b7 : W.cell? ⟨w.heap.size, 7, none⟩ = some (.string f) := blk_cell hk_ 7
              clear hk_
              go_wp2_with fail
              exact bodyPost_ret (v := .bool false) (by simp [results, Tryz.results9, go_sem]) rfl ⟨by rw [hX2.out], hAb⟩
          · have hi2 : (i == 0) = false := beq_eq_false_iff_ne.2 hi
            have hX2 := Lib.hid (show X = false by rw [hX.out]; simp [hs, hg, hu, hn, hi, bz00])
            clear hX hs hg hu hn
            go_enter Tryz.func9, Tryz.ntmps9
            go_upto_region 1 with fail
            refine gen_world fun W hW => ?_
            have hk_ : W.heap[w.heap.size]? = some (.cells (mA ⟨4, u, n, s, i, p, g, f⟩) 23 (0, 0)) := by subst hW; exact blk_new _ _
            have hAb : Below w.heap.size w W := by subst hW; (repeat (first | exact Below.refl _ _ | (refine bl_alloc ?_ _) | (refine bl_drewN ?_ _) | (refine bl_drew ?_) | (refine bl_call (by assumption) ?_) | (refine bl_set _ _ (by simp <;> omega) ?_) | assumption))
            clear hW
            have b0 : W.cell? ⟨w.heap.size, 0, none⟩ = some (.int .i64 4) := blk_cell hk_ 0
            have b1 : W.cell? ⟨w.heap.size, 1, none⟩ = some (.string u) := blk_cell hk_ 1
            have b2 : W.cell? ⟨w.heap.size, 2, none⟩ = some (.string n) := blk_cell hk_ 2
            have b3 : W.cell? ⟨w.heap.size, 3, none⟩ = some (.string s) := blk_cell hk_ 3
            have b4 : W.cell? ⟨w.heap.size, 4, none⟩ = some (.int .i64 i) := blk_cell hk_ 4
            have b5 : W.cell? ⟨w.heap.size, 5, none⟩ = some (.string p) := blk_cell hk_ 5
            have b6 : W.cell? ⟨w.heap.size, 6, none⟩ = some (.string g) := blk_cell hk_ 6
            have b7 : W.cell? ⟨w.heap.size, 7, none⟩ = some (.string f) := blk_cell hk_ 7
            clear hk_
            go_wp2_with fail
            exact bodyPost_ret (v := .bool false) (by simp [results, Tryz.results9, go_sem]) rfl ⟨by rw [hX2.out], hAb⟩
        · obtain ⟨en1, en2⟩ := emp_no hn
          have hX2 := Lib.hid (show X = false by rw [hX.out]; simp [hs, hg, hu, hn, bz00])
          clear hX hs hg hu hn
          go_enter Tryz.func9, Tryz.ntmps9
          go_upto_region 1 with fail
          refine gen_world fun W hW => ?_
          have hk_ : W.heap[w.heap.size]? = some (.cells (mA ⟨4, u, n, s, i, p, g, f⟩) 23 (0, 0)) := by subst hW; exact blk_new _ _
          have hAb : Below w.heap.size w W := by subst hW; (repeat (first | exact Below.refl _ _ | (refine bl_alloc ?_ _) | (refine bl_drewN ?_ _) | (refine bl_drew ?_) | (refine bl_call (by assumption) ?_) | (refine bl_set _ _ (by simp <;> omega) ?_) | assumption))
          clear hW
          have b0 : W.cell? ⟨w.heap.size, 0, none⟩ = some (.int .i64 4) := blk_cell hk_ 0
          have b1 : W.cell? ⟨w.heap.size, 1, none⟩ = some (.string u) := blk_cell hk_ 1
          have b2 : W.cell? ⟨w.heap.size, 2, none⟩ = some (.string n) := blk_cell hk_ 2
          have b3 : W.cell? ⟨w.heap.size, 3, none⟩ = some (.string s) := blk_cell hk_ 3
          have b4 : W.cell? ⟨w.heap.size, 4, none⟩ = some (.int .i64 i) := blk_cell hk_ 4
          have b5 : W.cell? ⟨w.heap.size, 5, none⟩ = some (.string p) := blk_cell hk_ 5
          have b6 : W.cell? ⟨w.heap.size, 6, none⟩ = some (.string g) := blk_cell hk_ 6
          have b7 : W.cell? ⟨w.heap.size, 7, none⟩ = some (.string f) := blk_cell hk_ 7
          clear hk_
          go_wp2_with fail
          exact bodyPost_ret (v := .bool false) (by simp [results, Tryz.results9, go_sem]) rfl ⟨by rw [hX2.out], hAb⟩
      · obtain ⟨eu1, eu2⟩ := emp_no hu
        have hX2 := Lib.hid (show X = false by rw [hX.out]; simp [hs, hg, hu, bz00])
        clear hX hs hg hu
        go_enter Tryz.func9, Tryz.ntmps9
        go_upto_region 1 with fail
        refine gen_world fun W hW => ?_
        have hk_ : W.heap[w.heap.size]? = some (.cells (mA ⟨4, u, n, s, i, p, g, f⟩) 23 (0, 0)) := by subst hW; exact blk_new _ _
        have hAb : Below w.heap.size w W := by subst hW; (repeat (first | exact Below.refl _ _ | (refine bl_alloc ?_ _) | (refine bl_drewN ?_ _) | (refine bl_drew ?_) | (refine bl_call (by assumption) ?_) | (refine bl_set _ _ (by simp <;> omega) ?_) | assumption))
        clear hW
        have b0 : W.cell? ⟨w.heap.size, 0, none⟩ = some (.int .i64 4) := blk_cell hk_ 0
        have b1 : W.cell? ⟨w.heap.size, 1, none⟩ = some (.string u) := blk_cell hk_ 1
        have b2 : W.cell? ⟨w.heap.size, 2, none⟩ = some (.string n) := blk_cell hk_ 2
        have b3 : W.cell? ⟨w.heap.size, 3, none⟩ = some (.string s) := blk_cell hk_ 3
        have b4 : W.cell? ⟨w.heap.size, 4, none⟩ = some (.int .i64 i) := blk_cell hk_ 4
        have b5 : W.cell? ⟨w.heap.size, 5, none⟩ = some (.string p) := blk_cell hk_ 5
        have b6 : W.cell? ⟨w.heap.size, 6, none⟩ = some (.string g) := blk_cell hk_ 6
        have b7 : W.cell? ⟨w.heap.size, 7, none⟩ = some (.string f) := blk_cell hk_ 7
        clear hk_
        go_wp2_with fail
        exact bodyPost_ret (v := .bool false) (by simp [results, Tryz.results9, go_sem]) rfl ⟨by rw [hX2.out], hAb⟩
    · obtain ⟨eg1, eg2⟩ := emp_no hg
      by_cases hu : u = ⟨#[]⟩
      · obtain ⟨eu1, eu2⟩ := emp_yes hu
        by_cases hn : n = ⟨#[]⟩
        · obtain ⟨en1, en2⟩ := emp_yes hn
          by_cases hi : i = 0
          · subst hi
            by_cases hp : p = ⟨#[]⟩
            · obtain ⟨ep1, ep2⟩ := emp_yes hp
              by_cases hVG : g.size = 32
              · have jg : ((g.size : Int) == 32) = true := beq_iff_eq.2 (by omega)
                have j2g : (g.size : Int) = 32 := by omega
                by_cases hf : f = ⟨#[]⟩
                · obtain ⟨ef1, ef2⟩ := emp_yes hf
                  have hX2 := Lib.hid (show X = true by rw [hX.out]; simp [hs, hg, hu, hn, hp, hVG, hf])
                  clear hX hs hg hu hn hp hVG hf
                  go_enter Tryz.func9, Tryz.ntmps9
                  go_upto_region 1 with fail
                  refine gen_world fun W hW => ?_
                  have hk_ : W.heap[w.heap.size]? = some (.cells (mA ⟨4, u, n, s, 0, p, g, f⟩) 23 (0, 0)) := by subst hW; exact blk_new _ _
                  have hAb : Below w.heap.size w W := by subst hW; (repeat (first | exact Below.refl _ _ | (refine bl_alloc ?_ _) | (refine bl_drewN ?_ _) | (refine bl_drew ?_) | (refine bl_call (by assumption) ?_) | (refine bl_set _ _ (by simp <;> omega) ?_) | assumption))
                  clear hW
                  have b0 : W.cell? ⟨w.heap.size, 0, none⟩ = some (.int .i64 4) := blk_cell hk_ 0
                  have b1 : W.cell? ⟨w.heap.size, 1, none⟩ = some (.string u) := blk_cell hk_ 1
                  have b2 : W.cell? ⟨w.heap.size, 2, none⟩ = some (.string n) := blk_cell hk_ 2
                  have b3 : W.cell? ⟨w.heap.size, 3, none⟩ = some (.string s) := blk_cell hk_ 3
                  have b4 : W.cell? ⟨w.heap.size, 4, none⟩ = some (.int .i64 0) := blk_cell hk_ 4
                  have b5 : W.cell? ⟨w.heap.size, 5, none⟩ = some (.string p) := blk_cell hk_ 5
                  have b6 : W.cell? ⟨w.heap.size, 6, none⟩ = some (.string g) := blk_cell hk_ 6
                  have b7 : W.cell? ⟨w.heap.size, 7, none⟩ = some (.string f) := blk_cell hk_ 7
                  clear hk_
                  go_wp2_with fail
                  exact bodyPost_ret (v := .bool true) (by simp [results, Tryz.results9, go_sem]) rfl ⟨by rw [hX2.out], hAb⟩
                · obtain ⟨ef1, ef2⟩ := emp_no hf
                  have hX2 := Lib.hid (show X = false by rw [hX.out]; simp [hs, hg, hu, hn, hp, hVG, hf])
                  clear hX hs hg hu hn hp hVG hf
                  go_enter Tryz.func9, Tryz.ntmps9
                  go_upto_region 1 with fail
                  refine gen_world fun W hW => ?_
                  have hk_ : W.heap[w.heap.size]? = some (.cells (mA ⟨4, u, n, s, 0, p, g, f⟩) 23 (0, 0)) := by subst hW; exact blk_new _ _
                  have hAb : Below w.heap.size w W := by subst hW; (repeat (first | exact Below.refl _ _ | (refine bl_alloc ?_ _) | (refine bl_drewN ?_ _) | (refine bl_drew ?_) | (refine bl_call (by assumption) ?_) | (refine bl_set _ _ (by simp <;> omega) ?_) | assumption))
                  clear hW
                  have b0 : W.cell? ⟨w.heap.size, 0, none⟩ = some (.int .i64 4) := blk_cell hk_ 0
                  have b1 : W.cell? ⟨w.heap.size, 1, none⟩ = some (.string u) := blk_cell hk_ 1
                  have b2 : W.cell? ⟨w.heap.size, 2, none⟩ = some (.string n) := blk_cell hk_ 2
                  have b3 : W.cell? ⟨w.heap.size, 3, none⟩ = some (.string s) := blk_cell hk_ 3
                  have b4 : W.cell? ⟨w.heap.size, 4, none⟩ = some (.int .i64 0) := blk_cell hk_ 4
                  have b5 : W.cell? ⟨w.heap.size, 5, none⟩ = some (.string p) := blk_cell hk_ 5
                  have b6 : W.cell? ⟨w.heap.size, 6, none⟩ = some (.string g) := blk_cell hk_ 6
                  have b7 : W.cell? ⟨w.heap.size, 7, none⟩ = some (.string f) := blk_cell hk_ 7
                  clear hk_
                  go_wp2_with fail
                  exact bodyPost_ret (v := .bool false) (by simp [results, Tryz.results9, go_sem]) rfl ⟨by rw [hX2.out], hAb⟩
              · have jg : ((g.size : Int) == 32) = false := beq_eq_false_iff_ne.2 (by omega)
                have j2g : ¬ (g.size : Int) = 32 := by omega
                have hX2 := Lib.hid (show X = false by rw [hX.out]; simp [hs, hg, hu, hn, hp, hVG])
                clear hX hs hg hu hn hp hVG
                go_enter Tryz.func9, Tryz.ntmps9
                go_upto_region 1 with fail
                refine gen_world fun W hW => ?_
                have hk_ : W.heap[w.heap.size]? = some (.cells (mA ⟨4, u, n, s, 0, p, g, f⟩) 23 (0, 0)) := by subst hW; exact blk_new _ _
                have hAb : Below w.heap.size w W := by subst hW; (repeat (first | exact Below.refl _ _ | (refine bl_alloc ?_ _) | (refine bl_drewN ?_ _) | (refine bl_drew ?_) | (refine bl_call (by assumption) ?_) | (refine bl_set _ _ (by simp <;> omega) ?_) | assumption))
                clear hW
                have b0 : W.cell? ⟨w.heap.size, 0, none⟩ = some (.int .i64 4) := blk_cell hk_ 0
                have b1 : W.cell? ⟨w.heap.size, 1, none⟩ = some (.string u) := blk_cell hk_ 1
                have b2 : W.cell? ⟨w.heap.size, 2, none⟩ = some (.string n) := blk_cell hk_ 2
                have b3 : W.cell? ⟨w.heap.size, 3, none⟩ = some (.string s) := blk_cell hk_ 3
                have b4 : W.cell? ⟨w.heap.size, 4, none⟩ = some (.int .i64 0) := blk_cell hk_ 4
                have b5 : W.cell? ⟨w.heap.size, 5, none⟩ = some (.string p) := blk_cell hk_ 5
                have b6 : W.cell? ⟨w.heap.size, 6, none⟩ = some (.string g) := blk_cell hk_ 6
                have b7 : W.cell? ⟨w.heap.size, 7, none⟩ = some (.string f) := blk_cell hk_ 7
                clear hk_
                go_wp2_with fail
                exact bodyPost_ret (v := .bool false) (by simp [results, Tryz.results9, go_sem]) rfl ⟨by rw [hX2.out], hAb⟩
            · obtain ⟨ep1, ep2⟩ := emp_no hp
              have hX2 := Lib.hid (show X = false by rw [hX.out]; simp [hs, hg, hu, hn, hp])
              clear hX hs hg hu hn hp
              go_enter Tryz.func9, Tryz.ntmps9
              go_upto_region 1 with fail
              refine gen_world fun W hW => ?_
              have hk_ : W.heap[w.heap.size]? = some (.cells (mA ⟨4, u, n, s, 0, p, g, f⟩) 23 (0, 0)) := by subst hW; exact blk_new _ _
              have hAb : Below w.heap.size w W := by subst hW; (repeat (first | exact Below.refl _ _ | (refine bl_alloc ?_ _) | (refine bl_drewN ?_ _) | (refine bl_drew ?_) | (refine bl_call (by assumption) ?_) | (refine bl_set _ _ (by simp <;> omega) ?_) | assumption))
              clear hW
              have b0 : W.cell? ⟨w.heap.size, 0, none⟩ = some (.int .i64 4) := blk_cell hk_ 0
              have b1 : W.cell? ⟨w.heap.size, 1, none⟩ = some (.string u) := blk_cell hk_ 1
              have b2 : W.cell? ⟨w.heap.size, 2, none⟩ = some (.string n) := blk_cell hk_ 2
              have b3 : W.cell? ⟨w.heap.size, 3, none⟩ = some (.string s) := blk_cell hk_ 3
              have b4 : W.cell? ⟨w.heap.size, 4, none⟩ = some (.int .i64 0) := blk_cell hk_ 4
              have b5 : W.cell? ⟨w.heap.size, 5, none⟩ = some (.string p) := blk_cell hk_ 5
              have b6 : W.cell? ⟨w.heap.size, 6, none⟩ = some (.string g) := blk_cell hk_ 6
              have b7 : W.cell? ⟨w.heap.size, 7, none⟩ = some (.string f) := blk_cell hk_ 7
              clear hk_
              go_wp2_with fail
              exact bodyPost_ret (v := .bool false) (by simp [results, Tryz.results9, go_sem]) rfl ⟨by rw [hX2.out], hAb⟩
          · have hi2 : (i == 0) = false := beq_eq_false_iff_ne.2 hi
            have hX2 := Lib.hid (show X = false by rw [hX.out]; simp [hs, hg, hu, hn, hi])
            clear hX hs hg hu hn
            go_enter Tryz.func9, Tryz.ntmps9
            go_upto_region 1 with fail
            refine gen_world fun W hW => ?_
            have hk_ : W.heap[w.heap.size]? = some (.cells (mA ⟨4, u, n, s, i, p, g, f⟩) 23 (0, 0)) := by subst hW; exact blk_new _ _
            have hAb : Below w.heap.size w W := by subst hW; (repeat (first | exact Below.refl _ _ | (refine bl_alloc ?_ _) | (refine bl_drewN ?_ _) | (refine bl_drew ?_) | (refine bl_call (by assumption) ?_) | (refine bl_set _ _ (by simp <;> omega) ?_) | assumption))
            clear hW
            have b0 : W.cell? ⟨w.heap.size, 0, none⟩ = some (.int .i64 4) := blk_cell hk_ 0
            have b1 : W.cell? ⟨w.heap.size, 1, none⟩ = some (.string u) := blk_cell hk_ 1
            have b2 : W.cell? ⟨w.heap.size, 2, none⟩ = some (.string n) := blk_cell hk_ 2
            have b3 : W.cell? ⟨w.heap.size, 3, none⟩ = some (.string s) := blk_cell hk_ 3
            have b4 : W.cell? ⟨w.heap.size, 4, none⟩ = some (.int .i64 i) := blk_cell hk_ 4
            have b5 : W.cell? ⟨w.heap.size, 5, none⟩ = some (.string p) := blk_cell hk_ 5
            have b6 : W.cell? ⟨w.heap.size, 6, none⟩ = some (.string g) := blk_cell hk_ 6
            have b7 : W.cell? ⟨w.heap.size, 7, none⟩ = some (.string f) := blk_cell hk_ 7
            clear hk_
            go_wp2_with fail
            exact bodyPost_ret (v := .bool false) (by simp [results, Tryz.results9, go_sem]) rfl ⟨by rw [hX2.out], hAb⟩
        · obtain ⟨en1, en2⟩ := emp_no hn
          have hX2 := Lib.hid (show X = false by rw [hX.out]; simp [hs, hg, hu, hn])
          clear hX hs hg hu hn
          go_enter Tryz.func9, Tryz.ntmps9
          go_upto_region 1 with fail
          refine gen_world fun W hW => ?_
          have hk_ : W.heap[w.heap.size]? = some (.cells (mA ⟨4, u, n, s, i, p, g, f⟩) 23 (0, 0)) := by subst hW; exact blk_new _ _
          have hAb : Below w.heap.size w W := by subst hW; (repeat (first | exact Below.refl _ _ | (refine bl_alloc ?_ _) | (refine bl_drewN ?_ _) | (refine bl_drew ?_) | (refine bl_call (by assumption) ?_) | (refine bl_set _ _ (by simp <;> omega) ?_) | assumption))
          clear hW
          have b0 : W.cell? ⟨w.heap.size, 0, none⟩ = some (.int .i64 4) := blk_cell hk_ 0
          have b1 : W.cell? ⟨w.heap.size, 1, none⟩ = some (.string u) := blk_cell hk_ 1
          have b2 : W.cell? ⟨w.heap.size, 2, none⟩ = some (.string n) := blk_cell hk_ 2
          have b3 : W.cell? ⟨w.heap.size, 3, none⟩ = some (.string s) := blk_cell hk_ 3
          have b4 : W.cell? ⟨w.heap.size, 4, none⟩ = some (.int .i64 i) := blk_cell hk_ 4
          have b5 : W.cell? ⟨w.heap.size, 5, none⟩ = some (.string p) := blk_cell hk_ 5
          have b6 : W.cell? ⟨w.heap.size, 6, none⟩ = some (.string g) := blk_cell hk_ 6
          have b7 : W.cell? ⟨w.heap.size, 7, none⟩ = some (.string f) := blk_cell hk_ 7
          clear hk_
          go_wp2_with fail
          exact bodyPost_ret (v := .bool false) (by simp [results, Tryz.results9, go_sem]) rfl ⟨by rw [hX2.out], hAb⟩
      · obtain ⟨eu1, eu2⟩ := emp_no hu
        have hX2 := Lib.hid (show X = false by rw [hX.out]; simp [hs, hg, hu])
        clear hX hs hg hu
        go_enter Tryz.func9, Tryz.ntmps9
        go_upto_region 1 with fail
        refine gen_world fun W hW => ?_
        have hk_ : W.heap[w.heap.size]? = some (.cells (mA ⟨4, u, n, s, i, p, g, f⟩) 23 (0, 0)) := by subst hW; exact blk_new _ _
        have hAb : Below w.heap.size w W := by subst hW; (repeat (first | exact Below.refl _ _ | (refine bl_alloc ?_ _) | (refine bl_drewN ?_ _) | (refine bl_drew ?_) | (refine bl_call (by assumption) ?_) | (refine bl_set _ _ (by simp <;> omega) ?_) | assumption))
        clear hW
        have b0 : W.cell? ⟨w.heap.size, 0, none⟩ = some (.int .i64 4) := blk_cell hk_ 0
        have b1 : W.cell? ⟨w.heap.size, 1, none⟩ = some (.string u) := blk_cell hk_ 1
        have b2 : W.cell? ⟨w.heap.size, 2, none⟩ = some (.string n) := blk_cell hk_ 2
        have b3 : W.cell? ⟨w.heap.size, 3, none⟩ = some (.string s) := blk_cell hk_ 3
        have b4 : W.cell? ⟨w.heap.size, 4, none⟩ = some (.int .i64 i) := blk_cell hk_ 4
        have b5 : W.cell? ⟨w.heap.size, 5, none⟩ = some (.string p) := blk_cell hk_ 5
        have b6 : W.cell? ⟨w.heap.size, 6, none⟩ = some (.string g) := blk_cell hk_ 6
        have b7 : W.cell? ⟨w.heap.size, 7, none⟩ = some (.string f) := blk_cell hk_ 7
        clear hk_
        go_wp2_with fail
        exact bodyPost_ret (v := .bool false) (by simp [results, Tryz.results9, go_sem]) rfl ⟨by rw [hX2.out], hAb⟩
  · obtain ⟨es1, es2⟩ := emp_no hs
    by_cases hg : g = ⟨#[]⟩
    · obtain ⟨eg1, eg2⟩ := emp_yes hg
      have g0g := size_zero hg
      have g1g : (g.size : Int) = 0 := by omega
      by_cases hu : u = ⟨#[]⟩
      · obtain ⟨eu1, eu2⟩ := emp_yes hu
        by_cases hn : n = ⟨#[]⟩
        · obtain ⟨en1, en2⟩ := emp_yes hn
          have hX2 := Lib.hid (show X = false by rw [hX.out]; simp [hs, hg, hu, hn, bz00])
          clear hX hs hg hu hn
          go_enter Tryz.func9, Tryz.ntmps9
          go_upto_region 1 with fail
          refine gen_world fun W hW => ?_
          have hk_ : W.heap[w.heap.size]? = some (.cells (mA ⟨4, u, n, s, i, p, g, f⟩) 23 (0, 0)) := by subst hW; exact blk_new _ _
          have hAb : Below w.heap.size w W := by subst hW; (repeat (first | exact Below.refl _ _ | (refine bl_alloc ?_ _) | (refine bl_drewN ?_ _) | (refine bl_drew ?_) | (refine bl_call (by assumption) ?_) | (refine bl_set _ _ (by simp <;> omega) ?_) | assumption))
          clear hW
          have b0 : W.cell? ⟨w.heap.size, 0, none⟩ = some (.int .i64 4) := blk_cell hk_ 0
          have b1 : W.cell? ⟨w.heap.size, 1, none⟩ = some (.string u) := blk_cell hk_ 1
          have b2 : W.cell? ⟨w.heap.size, 2, none⟩ = some (.string n) := blk_cell hk_ 2
          have b3 : W.cell? ⟨w.heap.size, 3, none⟩ = some (.string s) := blk_cell hk_ 3
          have b4 : W.cell? ⟨w.heap.size, 4, none⟩ = some (.int .i64 i) := blk_cell hk_ 4
          have b5 : W.cell? ⟨w.heap.size, 5, none⟩ = some (.string p) := blk_cell hk_ 5
          have b6 : W.cell? ⟨w.heap.size, 6, none⟩ = some (.string g) := blk_cell hk_ 6
          have b7 : W.cell? ⟨w.heap.size, 7, none⟩ = some (.string f) := blk_cell hk_ 7
          clear hk_
          go_wp2_with fail
          exact bodyPost_ret (v := .bool false) (by simp [results, Tryz.results9, go_sem]) rfl ⟨by rw [hX2.out], hAb⟩
        · obtain ⟨en1, en2⟩ := emp_no hn
          have hX2 := Lib.hid (show X = false by rw [hX.out]; simp [hs, hg, hu, hn, bz00])
          clear hX hs hg hu hn
          go_enter Tryz.func9, Tryz.ntmps9
          go_upto_region 1 with fail
          refine gen_world fun W hW => ?_
          have hk_ : W.heap[w.heap.size]? = some (.cells (mA ⟨4, u, n, s, i, p, g, f⟩) 23 (0, 0)) := by subst hW; exact blk_new _ _
          have hAb : Below w.heap.size w W := by subst hW; (repeat (first | exact Below.refl _ _ | (refine bl_alloc ?_ _) | (refine bl_drewN ?_ _) | (refine bl_drew ?_) | (refine bl_call (by assumption) ?_) | (refine bl_set _ _ (by simp <;> omega) ?_) | assumption))
          clear hW
          have b0 : W.cell? ⟨w.heap.size, 0, none⟩ = some (.int .i64 4) := blk_cell hk_ 0
          have b1 : W.cell? ⟨w.heap.size, 1, none⟩ = some (.string u) := blk_cell hk_ 1
          have b2 : W.cell? ⟨w.heap.size, 2, none⟩ = some (.string n) := blk_cell hk_ 2
          have b3 : W.cell? ⟨w.heap.size, 3, none⟩ = some (.string s) := blk_cell hk_ 3
          have b4 : W.cell? ⟨w.heap.size, 4, none⟩ = some (.int .i64 i) := blk_cell hk_ 4
          have b5 : W.cell? ⟨w.heap.size, 5, none⟩ = some (.string p) := blk_cell hk_ 5
          have b6 : W.cell? ⟨w.heap.size, 6, none⟩ = some (.string g) := blk_cell hk_ 6
          have b7 : W.cell? ⟨w.heap.size, 7, none⟩ = some (.string f) := blk_cell hk_ 7
          clear hk_
          go_wp2_with fail
          exact bodyPost_ret (v := .bool false) (by simp [results, Tryz.results9, go_sem]) rfl ⟨by rw [hX2.out], hAb⟩
      · obtain ⟨eu1, eu2⟩ := emp_no hu
        have hX2 := Lib.hid (show X = false by rw [hX.out]; simp [hs, hg, hu, bz00])
        clear hX hs hg hu
        go_enter Tryz.func9, Tryz.ntmps9
        go_upto_region 1 with fail
        refine gen_world fun W hW => ?_
        have hk_ : W.heap[w.heap.size]? = some (.cells (mA ⟨4, u, n, s, i, p, g, f⟩) 23 (0, 0)) := by subst hW; exact blk_new _ _
        have hAb : Below w.heap.size w W := by subst hW; (repeat (first | exact Below.refl _ _ | (refine bl_alloc ?_ _) | (refine bl_drewN ?_ _) | (refine bl_drew ?_) | (refine bl_call (by assumption) ?_) | (refine bl_set _ _ (by simp <;> omega) ?_) | assumption))
        clear hW
        have b0 : W.cell? ⟨w.heap.size, 0, none⟩ = some (.int .i64 4) := blk_cell hk_ 0
        have b1 : W.cell? ⟨w.heap.size, 1, none⟩ = some (.string u) := blk_cell hk_ 1
        have b2 : W.cell? ⟨w.heap.size, 2, none⟩ = some (.string n) := blk_cell hk_ 2
        have b3 : W.cell? ⟨w.heap.size, 3, none⟩ = some (.string s) := blk_cell hk_ 3
        have b4 : W.cell? ⟨w.heap.size, 4, none⟩ = some (.int .i64 i) := blk_cell hk_ 4
        have b5 : W.cell? ⟨w.heap.size, 5, none⟩ = some (.string p) := blk_cell hk_ 5
        have b6 : W.cell? ⟨w.heap.size, 6, none⟩ = some (.string g) := blk_cell hk_ 6
        have b7 : W.cell? ⟨w.heap.size, 7, none⟩ = some (.string f) := blk_cell hk_ 7
        clear hk_
        go_wp2_with fail
        exact bodyPost_ret (v := .bool false) (by simp [results, Tryz.results9, go_sem]) rfl ⟨by rw [hX2.out], hAb⟩
    · obtain ⟨eg1, eg2⟩ := emp_no hg
      by_cases hu : u = ⟨#[]⟩
      · obtain ⟨eu1, eu2⟩ := emp_yes hu
        by_cases hn : n = ⟨#[]⟩
        · obtain ⟨en1, en2⟩ := emp_yes hn
          have hX2 := Lib.hid (show X = false by rw [hX.out]; simp [hs, hg, hu, hn])
          clear hX hs hg hu hn
          go_enter Tryz.func9, Tryz.ntmps9
          go_upto_region 1 with fail
          refine gen_world fun W hW => ?_
          have hk_ : W.heap[w.heap.size]? = some (.cells (mA ⟨4, u, n, s, i, p, g, f⟩) 23 (0, 0)) := by subst hW; exact blk_new _ _
          have hAb : Below w.heap.size w W := by subst hW; (repeat (first | exact Below.refl _ _ | (refine bl_alloc ?_ _) | (refine bl_drewN ?_ _) | (refine bl_drew ?_) | (refine bl_call (by assumption) ?_) | (refine bl_set _ _ (by simp <;> omega) ?_) | assumption))
          clear hW
          have b0 : W.cell? ⟨w.heap.size, 0, none⟩ = some (.int .i64 4) := blk_cell hk_ 0
          have b1 : W.cell? ⟨w.heap.size, 1, none⟩ = some (.string u) := blk_cell hk_ 1
          have b2 : W.cell? ⟨w.heap.size, 2, none⟩ = some (.string n) := blk_cell hk_ 2
          have b3 : W.cell? ⟨w.heap.size, 3, none⟩ = some (.string s) := blk_cell hk_ 3
          have b4 : W.cell? ⟨w.heap.size, 4, none⟩ = some (.int .i64 i) := blk_cell hk_ 4
          have b5 : W.cell? ⟨w.heap.size, 5, none⟩ = some (.string p) := blk_cell hk_ 5
          have b6 : W.cell? ⟨w.heap.size, 6, none⟩ = some (.string g) := blk_cell hk_ 6
          have b7 : W.cell? ⟨w.heap.size, 7, none⟩ = some (.string f) := blk_cell hk_ 7
          clear hk_
          go_wp2_with fail
          exact bodyPost_ret (v := .bool false) (by simp [results, Tryz.results9, go_sem]) rfl ⟨by rw [hX2.out], hAb⟩
        · obtain ⟨en1, en2⟩ := emp_no hn
          have hX2 := Lib.hid (show X = false by rw [hX.out]; simp [hs, hg, hu, hn])
          clear hX hs hg hu hn
          go_enter Tryz.func9, Tryz.ntmps9
          go_upto_region 1 with fail
          refine gen_world fun W hW => ?_
          have hk_ : W.heap[w.heap.size]? = some (.cells (mA ⟨4, u, n, s, i, p, g, f⟩) 23 (0, 0)) := by subst hW; exact blk_new _ _
          have hAb : Below w.heap.size w W := by subst hW; (repeat (first | exact Below.refl _ _ | (refine bl_alloc ?_ _) | (refine bl_drewN ?_ _) | (refine bl_drew ?_) | (refine bl_call (by assumption) ?_) | (refine bl_set _ _ (by simp <;> omega) ?_) | assumption))
          clear hW
          have b0 : W.cell? ⟨w.heap.size, 0, none⟩ = some (.int .i64 4) := blk_cell hk_ 0
          have b1 : W.cell? ⟨w.heap.size, 1, none⟩ = some (.string u) := blk_cell hk_ 1
          have b2 : W.cell? ⟨w.heap.size, 2, none⟩ = some (.string n) := blk_cell hk_ 2
          have b3 : W.cell? ⟨w.heap.size, 3, none⟩ = some (.string s) := blk_cell hk_ 3
          have b4 : W.cell? ⟨w.heap.size, 4, none⟩ = some (.int .i64 i) := blk_cell hk_ 4
          have b5 : W.cell? ⟨w.heap.size, 5, none⟩ = some (.string p) := blk_cell hk_ 5
          have b6 : W.cell? ⟨w.heap.size, 6, none⟩ = some (.string g) := blk_cell hk_ 6
          have b7 : W.cell? ⟨w.heap.size, 7, none⟩ = some (.string f) := blk_cell hk_ 7
          clear hk_
          go_wp2_with fail
          exact bodyPost_ret (v := .bool false) (by simp [results, Tryz.results9, go_sem]) rfl ⟨by rw [hX2.out], hAb⟩
      · obtain ⟨eu1, eu2⟩ := emp_no hu
        have hX2 := Lib.hid (show X = false by rw [hX.out]; simp [hs, hg, hu])
        clear hX hs hg hu
        go_enter Tryz.func9, Tryz.ntmps9
        go_upto_region 1 with fail
        refine gen_world fun W hW => ?_
        have hk_ : W.heap[w.heap.size]? = some (.cells (mA ⟨4, u, n, s, i, p, g, f⟩) 23 (0, 0)) := by subst hW; exact blk_new _ _
        have hAb : Below w.heap.size w W := by subst hW; (repeat (first | exact Below.refl _ _ | (refine bl_alloc ?_ _) | (refine bl_drewN ?_ _) | (refine bl_drew ?_) | (refine bl_call (by assumption) ?_) | (refine bl_set _ _ (by simp <;> omega) ?_) | assumption))
        clear hW
        have b0 : W.cell? ⟨w.heap.size, 0, none⟩ = some (.int .i64 4) := blk_cell hk_ 0
        have b1 : W.cell? ⟨w.heap.size, 1, none⟩ = some (.string u) := blk_cell hk_ 1
        have b2 : W.cell? ⟨w.heap.size, 2, none⟩ = some (.string n) := blk_cell hk_ 2
        have b3 : W.cell? ⟨w.heap.size, 3, none⟩ = some (.string s) := blk_cell hk_ 3
        have b4 : W.cell? ⟨w.heap.size, 4, none⟩ = some (.int .i64 i) := blk_cell hk_ 4
        have b5 : W.cell? ⟨w.heap.size, 5, none⟩ = some (.string p) := blk_cell hk_ 5
        have b6 : W.cell? ⟨w.heap.size, 6, none⟩ = some (.string g) := blk_cell hk_ 6
        have b7 : W.cell? ⟨w.heap.size, 7, none⟩ = some (.string f) := blk_cell hk_ 7
        clear hk_
        go_wp2_with fail
        exact bodyPost_ret (v := .bool false) (by simp [results, Tryz.results9, go_sem]) rfl ⟨by rw [hX2.out], hAb⟩
theorem rRight_0 (k : Int) (u n s p g f : ByteArray) (i : Int) (h1 : ¬ k = 1) (h2 : ¬ k = 2) (h3 : ¬ k = 3) (h4 : ¬ k = 4) (w : World) : Calls Tryz.prog 9 #[mv ⟨k, u, n, s, i, p, g, f⟩] w fun e w' => e = .returned (.bool (decide (rightM (toM ⟨k, u, n, s, i, p, g, f⟩)))) ∧ Below w.heap.size w w' := by
  have hX : decide (rightM (toM ⟨k, u, n, s, i, p, g, f⟩)) = false := decide_eq_false (by
    rintro (q | q | q | q)
    · exact h1 q.1
    · exact h2 q.1
    · exact h3 q.1
    · exact h4 q.1)
  rw [hX]
  have d1 : (k == 1) = false := beq_eq_false_iff_ne.2 h1
  have d2 : (k == 2) = false := beq_eq_false_iff_ne.2 h2
  have d3 : (k == 3) = false := beq_eq_false_iff_ne.2 h3
  have d4 : (k == 4) = false := beq_eq_false_iff_ne.2 h4
  clear hX
  unfold mv
  by_cases hs : s = ⟨#[]⟩
  · obtain ⟨es1, es2⟩ := emp_yes hs
    by_cases hg : g = ⟨#[]⟩
    · obtain ⟨eg1, eg2⟩ := emp_yes hg
      clear hs hg
      go_enter Tryz.func9, Tryz.ntmps9
      go_upto_region 1 with fail
      refine gen_world fun W hW => ?_
      have hk_ : W.heap[w.heap.size]? = some (.cells (mA ⟨k, u, n, s, i, p, g, f⟩) 23 (0, 0)) := by subst hW; exact blk_new _ _
      have hAb : Below w.heap.size w W := by subst hW; (repeat (first | exact Below.refl _ _ | (refine bl_alloc ?_ _) | (refine bl_drewN ?_ _) | (refine bl_drew ?_) | (refine bl_call (by assumption) ?_) | (refine bl_set _ _ (by simp <;> omega) ?_) | assumption))
      clear hW
      have b0 : W.cell? ⟨w.heap.size, 0, none⟩ = some (.int .i64 k) := blk_cell hk_ 0
      have b1 : W.cell? ⟨w.heap.size, 1, none⟩ = some (.string u) := blk_cell hk_ 1
      have b2 : W.cell? ⟨w.heap.size, 2, none⟩ = some (.string n) := blk_cell hk_ 2
      have b3 : W.cell? ⟨w.heap.size, 3, none⟩ = some (.string s) := blk_cell hk_ 3
      have b4 : W.cell? ⟨w.heap.size, 4, none⟩ = some (.int .i64 i) := blk_cell hk_ 4
      have b5 : W.cell? ⟨w.heap.size, 5, none⟩ = some (.string p) := blk_cell hk_ 5
      have b6 : W.cell? ⟨w.heap.size, 6, none⟩ = some (.string g) := blk_cell hk_ 6
      have b7 : W.cell? ⟨w.heap.size, 7, none⟩ = some (.string f) := blk_cell hk_ 7
      clear hk_
      go_wp2_with fail
      exact bodyPost_ret (v := .bool false) (by simp [results, Tryz.results9, go_sem]) rfl ⟨rfl, hAb⟩
    · obtain ⟨eg1, eg2⟩ := emp_no hg
      clear hs hg
      go_enter Tryz.func9, Tryz.ntmps9
      go_upto_region 1 with fail
      refine gen_world fun W hW => ?_
      have hk_ : W.heap[w.heap.size]? = some (.cells (mA ⟨k, u, n, s, i, p, g, f⟩) 23 (0, 0)) := by subst hW; exact blk_new _ _
      have hAb : Below w.heap.size w W := by subst hW; (repeat (first | exact Below.refl _ _ | (refine bl_alloc ?_ _) | (refine bl_drewN ?_ _) | (refine bl_drew ?_) | (refine bl_call (by assumption) ?_) | (refine bl_set _ _ (by simp <;> omega) ?_) | assumption))
      clear hW
      have b0 : W.cell? ⟨w.heap.size, 0, none⟩ = some (.int .i64 k) := blk_cell hk_ 0
      have b1 : W.cell? ⟨w.heap.size, 1, none⟩ = some (.string u) := blk_cell hk_ 1
      have b2 : W.cell? ⟨w.heap.size, 2, none⟩ = some (.string n) := blk_cell hk_ 2
      have b3 : W.cell? ⟨w.heap.size, 3, none⟩ = some (.string s) := blk_cell hk_ 3
      have b4 : W.cell? ⟨w.heap.size, 4, none⟩ = some (.int .i64 i) := blk_cell hk_ 4
      have b5 : W.cell? ⟨w.heap.size, 5, none⟩ = some (.string p) := blk_cell hk_ 5
      have b6 : W.cell? ⟨w.heap.size, 6, none⟩ = some (.string g) := blk_cell hk_ 6
      have b7 : W.cell? ⟨w.heap.size, 7, none⟩ = some (.string f) := blk_cell hk_ 7
      clear hk_
      go_wp2_with fail
      exact bodyPost_ret (v := .bool false) (by simp [results, Tryz.results9, go_sem]) rfl ⟨rfl, hAb⟩
  · obtain ⟨es1, es2⟩ := emp_no hs
    by_cases hg : g = ⟨#[]⟩
    · obtain ⟨eg1, eg2⟩ := emp_yes hg
      clear hs hg
      go_enter Tryz.func9, Tryz.ntmps9
      go_upto_region 1 with fail
      refine gen_world fun W hW => ?_
      have hk_ : W.heap[w.heap.size]? = some (.cells (mA ⟨k, u, n, s, i, p, g, f⟩) 23 (0, 0)) := by subst hW; exact blk_new _ _
      have hAb : Below w.heap.size w W := by subst hW; (repeat (first | exact Below.refl _ _ | (refine bl_alloc ?_ _) | (refine bl_drewN ?_ _) | (refine bl_drew ?_) | (refine bl_call (by assumption) ?_) | (refine bl_set _ _ (by simp <;> omega) ?_) | assumption))
      clear hW
      have b0 : W.cell? ⟨w.heap.size, 0, none⟩ = some (.int .i64 k) := blk_cell hk_ 0
      have b1 : W.cell? ⟨w.heap.size, 1, none⟩ = some (.string u) := blk_cell hk_ 1
      have b2 : W.cell? ⟨w.heap.size, 2, none⟩ = some (.string n) := blk_cell hk_ 2
      have b3 : W.cell? ⟨w.heap.size, 3, none⟩ = some (.string s) := blk_cell hk_ 3
      have b4 : W.cell? ⟨w.heap.size, 4, none⟩ = some (.int .i64 i) := blk_cell hk_ 4
      have b5 : W.cell? ⟨w.heap.size, 5, none⟩ = some (.string p) := blk_cell hk_ 5
      have b6 : W.cell? ⟨w.heap.size, 6, none⟩ = some (.string g) := blk_cell hk_ 6
      have b7 : W.cell? ⟨w.heap.size, 7, none⟩ = some (.string f) := blk_cell hk_ 7
      clear hk_
      go_wp2_with fail
      exact bodyPost_ret (v := .bool false) (by simp [results, Tryz.results9, go_sem]) rfl ⟨rfl, hAb⟩
    · obtain ⟨eg1, eg2⟩ := emp_no hg
      clear hs hg
      go_enter Tryz.func9, Tryz.ntmps9
      go_upto_region 1 with fail
      refine gen_world fun W hW => ?_
      have hk_ : W.heap[w.heap.size]? = some (.cells (mA ⟨k, u, n, s, i, p, g, f⟩) 23 (0, 0)) := by subst hW; exact blk_new _ _
      have hAb : Below w.heap.size w W := by subst hW; (repeat (first | exact Below.refl _ _ | (refine bl_alloc ?_ _) | (refine bl_drewN ?_ _) | (refine bl_drew ?_) | (refine bl_call (by assumption) ?_) | (refine bl_set _ _ (by simp <;> omega) ?_) | assumption))
      clear hW
      have b0 : W.cell? ⟨w.heap.size, 0, none⟩ = some (.int .i64 k) := blk_cell hk_ 0
      have b1 : W.cell? ⟨w.heap.size, 1, none⟩ = some (.string u) := blk_cell hk_ 1
      have b2 : W.cell? ⟨w.heap.size, 2, none⟩ = some (.string n) := blk_cell hk_ 2
      have b3 : W.cell? ⟨w.heap.size, 3, none⟩ = some (.string s) := blk_cell hk_ 3
      have b4 : W.cell? ⟨w.heap.size, 4, none⟩ = some (.int .i64 i) := blk_cell hk_ 4
      have b5 : W.cell? ⟨w.heap.size, 5, none⟩ = some (.string p) := blk_cell hk_ 5
      have b6 : W.cell? ⟨w.heap.size, 6, none⟩ = some (.string g) := blk_cell hk_ 6
      have b7 : W.cell? ⟨w.heap.size, 7, none⟩ = some (.string f) := blk_cell hk_ 7
      clear hk_
      go_wp2_with fail
      exact bodyPost_ret (v := .bool false) (by simp [results, Tryz.results9, go_sem]) rfl ⟨rfl, hAb⟩
theorem rRight_c (m : MsgS) (hz : SzM m) (w : World) : Calls Tryz.prog 9 #[mv m] w fun e w' => e = .returned (.bool (decide (rightM (toM m)))) ∧ Below w.heap.size w w' := by
  obtain ⟨k, u, n, s, i, p, g, f⟩ := m
  by_cases h1 : k = 1
  · subst h1; exact rRight_1 u n s p g f i hz w
  by_cases h2 : k = 2
  · subst h2; exact rRight_2 u n s p g f i hz w
  by_cases h3 : k = 3
  · subst h3; exact rRight_3 u n s p g f i hz w
  by_cases h4 : k = 4
  · subst h4; exact rRight_4 u n s p g f i hz w
  exact rRight_0 k u n s p g f i h1 h2 h3 h4 w
end Go.Proofs.YtjigckibbjfkmaaGreatDoor

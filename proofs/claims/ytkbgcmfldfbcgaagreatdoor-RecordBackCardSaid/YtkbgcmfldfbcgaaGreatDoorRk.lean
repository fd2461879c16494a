/- The reference of law 26: Decode. -/
import Derived.Test.YtkbgcmfldfbcgaaGreatDoorRj
import Derived.Test.YtkbgcmfldfbcgaaGreatDoorRf
import Derived.Test.YtkbgcmfldfbcgaaGreatDoorBh
import Derived.Deep.QuietTactic
namespace Go.Proofs.YtkbgcmfldfbcgaaGreatDoor
open Go.RowKit
set_option maxRecDepth 100000
set_option linter.unusedSimpArgs false
set_option linter.unusedVariables false
/-- Where the reference decodes: the result's block (the call's first), the block of nothing, the list's, the record's. -/
structure DQ (w : World) (N L V : Nat) (W : World) (l : List ByteArray) (r : Rcd) : Prop where
  kR : W.heap[w.heap.size]? = some (.cells (recA noR) 24 (0, 0))
  kN : W.heap[N]? = some (.cells (recA noR) 24 (0, 0))
  kL : ∃ cur : Array Value, W.heap[L]? = some (.cells cur 9 (0, 0)) ∧ cur.toList.take l.length = l.map Value.string
  kV : W.heap[V]? = some (.cells (recA r) 24 (0, 0))
  hA : Below w.heap.size w W
  hN : w.heap.size < N
  hL : N < L
  hV : L < V
section
variable {w W w1 : World} {N L V : Nat} {l : List ByteArray} {r : Rcd}
theorem DQ.grow (h : DQ w N L V W l r) (hb : Below W.heap.size W w1) : DQ w N L V w1 l r := by
  obtain ⟨cur, h1, h2⟩ := h.kL
  exact ⟨grow_blk hb h.kR, grow_blk hb h.kN, ⟨cur, grow_blk hb h1, h2⟩, grow_blk hb h.kV, bl_call hb h.hA, h.hN, h.hL, h.hV⟩
theorem DQ.same (h : DQ w N L V W l r) (hh : w1.heap = W.heap) (hb : Below w.heap.size w w1) : DQ w N L V w1 l r := by
  obtain ⟨cur, h1, h2⟩ := h.kL
  exact ⟨by rw [hh]; exact h.kR, by rw [hh]; exact h.kN, ⟨cur, by rw [hh]; exact h1, h2⟩, by rw [hh]; exact h.kV, hb, h.hN, h.hL, h.hV⟩
theorem DQ.far (h : DQ w N L V W l r) (p : Addr) (hp : V < p.block) (v : Value) : DQ w N L V (W.setCell p v) l r := by
  obtain ⟨cur, h1, h2⟩ := h.kL
  have a1 := h.hN
  have a2 := h.hL
  have a3 := h.hV
  exact ⟨blk_far h.kR (by omega) v, blk_far h.kN (by omega) v, ⟨cur, blk_far h1 (by omega) v, h2⟩, blk_far h.kV (by omega) v, bl_set _ _ (by omega) h.hA, h.hN, h.hL, h.hV⟩
theorem DQ.set (h : DQ w N L V W l r) (i : Nat) (v : Value) (r2 : Rcd) (hr : (recA r).setIfInBounds i v = recA r2) : DQ w N L V (W.setCell ⟨V, i, none⟩ v) l r2 := by
  obtain ⟨cur, h1, h2⟩ := h.kL
  have a1 := h.hN
  have a2 := h.hL
  have a3 := h.hV
  refine ⟨blk_far h.kR (by simp; omega) v, blk_far h.kN (by simp; omega) v, ⟨cur, blk_far h1 (by simp; omega) v, h2⟩, ?_, bl_set _ _ (by simp; omega) h.hA, h.hN, h.hL, h.hV⟩
  rw [← hr]
  exact blk_set h.kV i v
theorem DQ.setp (h : DQ w N L V W l r) (x : Int) : DQ w N L V (W.setCell ⟨V, 0, none⟩ (.int .i64 x)) l { r with p := x } := h.set 0 _ _ (by simp [recA])
theorem DQ.setn (h : DQ w N L V W l r) (x : Int) : DQ w N L V (W.setCell ⟨V, 1, none⟩ (.int .i64 x)) l { r with n := x } := h.set 1 _ _ (by simp [recA])
theorem DQ.vc (h : DQ w N L V W l r) (i : Nat) : W.cell? ⟨V, i, none⟩ = (recA r)[i]? := blk_cell h.kV i
theorem DQ.vf (h : DQ w N L V W l r) (i : Nat) : W.frozen? ⟨V, i, none⟩ = false := blk_frozen h.kV i
theorem DQ.rc (h : DQ w N L V W l r) (i : Nat) : W.cell? ⟨w.heap.size, i, none⟩ = (recA noR)[i]? := blk_cell h.kR i
theorem DQ.rf (h : DQ w N L V W l r) (i : Nat) : W.frozen? ⟨w.heap.size, i, none⟩ = false := blk_frozen h.kR i
theorem DQ.nc (h : DQ w N L V W l r) (i : Nat) : W.cell? ⟨N, i, none⟩ = (recA noR)[i]? := blk_cell h.kN i
theorem DQ.lc (h : DQ w N L V W l r) (i : Nat) (x : ByteArray) (hx : l[i]? = some x) : W.cell? ⟨L, i, none⟩ = some (.string x) := by
  obtain ⟨cur, h1, h2⟩ := h.kL
  have hi : i < l.length := (List.getElem?_eq_some_iff.1 hx).1
  rw [own_cell h1 h2 hi, List.getElem?_map, hx]
  rfl
theorem DQ.ret5 (h : DQ w N L V W l r) (v0 v1 v2 v3 v4 : Value) : ∃ W3, W3 = ((((W.setCell ⟨w.heap.size, 0, none⟩ v0).setCell ⟨w.heap.size, 1, none⟩ v1).setCell ⟨w.heap.size, 2, none⟩ v2).setCell ⟨w.heap.size, 3, none⟩ v3).setCell ⟨w.heap.size, 4, none⟩ v4 ∧ W3.heap[w.heap.size]? = some (.cells #[v0, v1, v2, v3, v4] 24 (0, 0)) ∧ Below w.heap.size w W3 := by
  refine ⟨_, rfl, ?_, ?_⟩
  · exact blk_set (blk_set (blk_set (blk_set (blk_set h.kR 0 v0) 1 v1) 2 v2) 3 v3) 4 v4
  · exact bl_set _ _ (Nat.le_refl _) (bl_set _ _ (Nat.le_refl _) (bl_set _ _ (Nat.le_refl _) (bl_set _ _ (Nat.le_refl _) (bl_set _ _ (Nat.le_refl _) h.hA))))
end
theorem Ret5 {w W : World} (kR : W.heap[w.heap.size]? = some (.cells (recA noR) 24 (0, 0))) (hA : Below w.heap.size w W) (v0 v1 v2 v3 v4 : Value) : ∃ W3, W3 = ((((W.setCell ⟨w.heap.size, 0, none⟩ v0).setCell ⟨w.heap.size, 1, none⟩ v1).setCell ⟨w.heap.size, 2, none⟩ v2).setCell ⟨w.heap.size, 3, none⟩ v3).setCell ⟨w.heap.size, 4, none⟩ v4 ∧ W3.heap[w.heap.size]? = some (.cells #[v0, v1, v2, v3, v4] 24 (0, 0)) ∧ Below w.heap.size w W3 := by
  refine ⟨_, rfl, ?_, ?_⟩
  · exact blk_set (blk_set (blk_set (blk_set (blk_set kR 0 v0) 1 v1) 2 v2) 3 v3) 4 v4
  · exact bl_set _ _ (Nat.le_refl _) (bl_set _ _ (Nat.le_refl _) (bl_set _ _ (Nat.le_refl _) (bl_set _ _ (Nat.le_refl _) (bl_set _ _ (Nat.le_refl _) hA))))
theorem qDec_long (s : ByteArray) (h : 2000 < s.size) (w : World) : Calls Tryz.prog 7 #[.string s] w fun x w' => x = .returned (drV (.bad 4)) ∧ Below w.heap.size w w' := by
  have h2 : 2000 < (s.size : Int) := by omega
  go_enter Tryz.func7, Tryz.ntmps7
  go_wp2
  exact bodyPost_ret (v := drV (.bad 4)) (by simp [results, Tryz.results7, go_sem, drV, recV, noR]) rfl ⟨rfl, by (repeat (first | exact Below.refl _ _ | (refine bl_alloc ?_ _) | (refine bl_drewN ?_ _) | (refine bl_drew ?_) | (refine bl_call (by assumption) ?_) | (refine bl_set _ _ (by simp <;> omega) ?_) | assumption))⟩
/-- The reference's Split at '$', its parts as strings. -/
theorem qSplit_c (s : ByteArray) (hs : s.size ≤ 2000) (w : World) : Calls Tryz.prog 18 #[.string s, .int .u8 36] w fun e w' => (∃ g cap, e = .returned (.slice (some ⟨g, 0, none⟩) (splitS 36 s).length cap) ∧ w.heap.size ≤ g ∧ ∃ cur : Array Value, w'.heap[g]? = some (.cells cur 9 (0, 0)) ∧ cur.toList.take (splitS 36 s).length = (splitS 36 s).map Value.string) ∧ Below w.heap.size w w' := by
  refine (rSplit_c s 36 (by omega) w).mono ?_
  rintro e w' ⟨⟨g, cap, rfl, hO⟩, hb⟩
  have hl : (splitS 36 s).length = (splitL 36 s.data.toList).length := by unfold splitS; rw [List.length_map]
  have hm : (splitS 36 s).map Value.string = (splitL 36 s.data.toList).map sv := by unfold splitS; rw [List.map_map]; rfl
  rw [hl, hm]
  refine ⟨⟨g, cap, rfl, ?_⟩, hb⟩
  rcases hO.2 with ⟨q, _⟩ | ⟨g', cap', cur, e, hb1, hk, h1, h2, h3, h4⟩
  · cases q
  · cases e
    exact ⟨hb1, cur, hk, by rw [Nat.mul_one] at h4; exact h4⟩
set_option maxHeartbeats 1000000 in
theorem qDec_form (s : ByteArray) (h : s.size ≤ 2000) (hf : (splitS 36 s).length ≠ 6 ∨ ∃ x l, splitS 36 s = x :: l ∧ x ≠ sabS) (w : World) : Calls Tryz.prog 7 #[.string s] w fun x w' => x = .returned (drV (.bad 4)) ∧ Below w.heap.size w w' := by
  have hS := fun w => qSplit_c s h w
  generalize splitS 36 s = LS at hS hf
  have h2 : ¬ 2000 < (s.size : Int) := by omega
  by_cases h6 : LS.length = 6
  rotate_left
  · have q6 : ¬ (LS.length : Int) = 6 := by omega
    have d6 : ((LS.length : Int) != 6) = true := by rw [bne_iff_ne]; exact q6
    generalize LS.length = LL at hS q6 d6
    clear hf h6
    go_enter Tryz.func7, Tryz.ntmps7
    go_upto_region 4 with fail
    refine gen_world fun W hW => ?_
    have kR : W.heap[w.heap.size]? = some (.cells (recA noR) 24 (0, 0)) := by subst hW; exact blk_alloc (blk_new _ _) _
    obtain ⟨N, hN⟩ : ∃ N, N = w.heap.size + 1 := ⟨_, rfl⟩
    rw [← hN]
    have kN : W.heap[N]? = some (.cells (recA noR) 24 (0, 0)) := by subst hW; exact blk_new' (by rw [hN]; exact (Array.size_push _).symm) _
    have hAl : Below w.heap.size w W := by subst hW; (repeat (first | exact Below.refl _ _ | (refine bl_alloc ?_ _) | (refine bl_drewN ?_ _) | (refine bl_drew ?_) | (refine bl_call (by assumption) ?_) | (refine bl_set _ _ (by simp <;> omega) ?_) | assumption))
    clear hW
    have hN1 : w.heap.size < N := by omega
    clear hN
    go_upto_region 5 with (go_at_call 18; refine (hS _).mono ?_; rintro e w5 ⟨⟨L, cap, rfl, hLg, cur, kL, hcur⟩, hb⟩)
    replace kR := grow_blk hb kR
    replace kN := grow_blk hb kN
    replace hAl := bl_call hb hAl
    clear kL hcur hLg hb
    have r0 : w5.cell? ⟨w.heap.size, 0, none⟩ = some (.int .i64 0) := blk_cell kR 0
    have r1 : w5.cell? ⟨w.heap.size, 1, none⟩ = some (.int .i64 0) := blk_cell kR 1
    have r2 : w5.cell? ⟨w.heap.size, 2, none⟩ = some (.string ⟨#[]⟩) := blk_cell kR 2
    have r3 : w5.cell? ⟨w.heap.size, 3, none⟩ = some (.string ⟨#[]⟩) := blk_cell kR 3
    have r4 : w5.cell? ⟨w.heap.size, 4, none⟩ = some (.string ⟨#[]⟩) := blk_cell kR 4
    have n0 : w5.cell? ⟨N, 0, none⟩ = some (.int .i64 0) := blk_cell kN 0
    have n1 : w5.cell? ⟨N, 1, none⟩ = some (.int .i64 0) := blk_cell kN 1
    have n2 : w5.cell? ⟨N, 2, none⟩ = some (.string ⟨#[]⟩) := blk_cell kN 2
    have n3 : w5.cell? ⟨N, 3, none⟩ = some (.string ⟨#[]⟩) := blk_cell kN 3
    have n4 : w5.cell? ⟨N, 4, none⟩ = some (.string ⟨#[]⟩) := blk_cell kN 4
    have g0 := blk_frozen kR 0
    have g1 := blk_frozen kR 1
    have g2 := blk_frozen kR 2
    have g3 := blk_frozen kR 3
    have g4 := blk_frozen kR 4
    go_wp2
    obtain ⟨W3, hW3, k3, hb3⟩ := Ret5 kR hAl (.int .i64 0) (.int .i64 0) (.string ⟨#[]⟩) (.string ⟨#[]⟩) (.string ⟨#[]⟩)
    rw [← hW3]
    clear hW3 r0 r1 r2 r3 r4 g0 g1 g2 g3 g4 n0 n1 n2 n3 n4 kR kN hAl
    have c0 : W3.cell? ⟨w.heap.size, 0, none⟩ = some (.int .i64 0) := blk_cell k3 0
    have c1 : W3.cell? ⟨w.heap.size, 1, none⟩ = some (.int .i64 0) := blk_cell k3 1
    have c2 : W3.cell? ⟨w.heap.size, 2, none⟩ = some (.string ⟨#[]⟩) := blk_cell k3 2
    have c3 : W3.cell? ⟨w.heap.size, 3, none⟩ = some (.string ⟨#[]⟩) := blk_cell k3 3
    have c4 : W3.cell? ⟨w.heap.size, 4, none⟩ = some (.string ⟨#[]⟩) := blk_cell k3 4
    exact bodyPost_ret (v := drV (.bad 4)) (by simp [results, Tryz.results7, go_sem, c0, c1, c2, c3, c4, drV, recV, noR]) rfl ⟨rfl, hb3⟩
  · obtain ⟨x, l, rfl, hx⟩ : ∃ x l, LS = x :: l ∧ x ≠ sabS := by
      rcases hf with q | q
      · exact absurd h6 q
      · exact q
    rw [h6] at hS
    have hx2 : ¬ x = ⟨#[115, 97, 98]⟩ := hx
    have hx3 : (x.toList == [115, 97, 98]) = false := by
      rw [beq_eq_false_iff_ne, ByteArray.toList_eq]
      intro q
      exact hx (ByteArray.ext (Array.ext' q))
    have hx4 : ¬ x.toList = [115, 97, 98] := by simpa using hx3
    clear hx h6
    go_enter Tryz.func7, Tryz.ntmps7
    go_upto_region 4 with fail
    refine gen_world fun W hW => ?_
    have kR : W.heap[w.heap.size]? = some (.cells (recA noR) 24 (0, 0)) := by subst hW; exact blk_alloc (blk_new _ _) _
    obtain ⟨N, hN⟩ : ∃ N, N = w.heap.size + 1 := ⟨_, rfl⟩
    rw [← hN]
    have kN : W.heap[N]? = some (.cells (recA noR) 24 (0, 0)) := by subst hW; exact blk_new' (by rw [hN]; exact (Array.size_push _).symm) _
    have hAl : Below w.heap.size w W := by subst hW; (repeat (first | exact Below.refl _ _ | (refine bl_alloc ?_ _) | (refine bl_drewN ?_ _) | (refine bl_drew ?_) | (refine bl_call (by assumption) ?_) | (refine bl_set _ _ (by simp <;> omega) ?_) | assumption))
    clear hW
    have hN1 : w.heap.size < N := by omega
    clear hN
    go_upto_region 5 with (go_at_call 18; refine (hS _).mono ?_; rintro e w5 ⟨⟨L, cap, rfl, hLg, cur, kL, hcur⟩, hb⟩)
    have l0 : w5.cell? ⟨L, 0, none⟩ = some (.string x) := by
      rw [own_cell kL hcur (by omega)]; rfl
    replace kR := grow_blk hb kR
    replace kN := grow_blk hb kN
    replace hAl := bl_call hb hAl
    clear kL hcur hLg hb
    have r0 : w5.cell? ⟨w.heap.size, 0, none⟩ = some (.int .i64 0) := blk_cell kR 0
    have r1 : w5.cell? ⟨w.heap.size, 1, none⟩ = some (.int .i64 0) := blk_cell kR 1
    have r2 : w5.cell? ⟨w.heap.size, 2, none⟩ = some (.string ⟨#[]⟩) := blk_cell kR 2
    have r3 : w5.cell? ⟨w.heap.size, 3, none⟩ = some (.string ⟨#[]⟩) := blk_cell kR 3
    have r4 : w5.cell? ⟨w.heap.size, 4, none⟩ = some (.string ⟨#[]⟩) := blk_cell kR 4
    have n0 : w5.cell? ⟨N, 0, none⟩ = some (.int .i64 0) := blk_cell kN 0
    have n1 : w5.cell? ⟨N, 1, none⟩ = some (.int .i64 0) := blk_cell kN 1
    have n2 : w5.cell? ⟨N, 2, none⟩ = some (.string ⟨#[]⟩) := blk_cell kN 2
    have n3 : w5.cell? ⟨N, 3, none⟩ = some (.string ⟨#[]⟩) := blk_cell kN 3
    have n4 : w5.cell? ⟨N, 4, none⟩ = some (.string ⟨#[]⟩) := blk_cell kN 4
    have g0 := blk_frozen kR 0
    have g1 := blk_frozen kR 1
    have g2 := blk_frozen kR 2
    have g3 := blk_frozen kR 3
    have g4 := blk_frozen kR 4
    go_wp2
    obtain ⟨W3, hW3, k3, hb3⟩ := Ret5 kR hAl (.int .i64 0) (.int .i64 0) (.string ⟨#[]⟩) (.string ⟨#[]⟩) (.string ⟨#[]⟩)
    rw [← hW3]
    clear hW3 r0 r1 r2 r3 r4 g0 g1 g2 g3 g4 n0 n1 n2 n3 n4 kR kN hAl
    have c0 : W3.cell? ⟨w.heap.size, 0, none⟩ = some (.int .i64 0) := blk_cell k3 0
    have c1 : W3.cell? ⟨w.heap.size, 1, none⟩ = some (.int .i64 0) := blk_cell k3 1
    have c2 : W3.cell? ⟨w.heap.size, 2, none⟩ = some (.string ⟨#[]⟩) := blk_cell k3 2
    have c3 : W3.cell? ⟨w.heap.size, 3, none⟩ = some (.string ⟨#[]⟩) := blk_cell k3 3
    have c4 : W3.cell? ⟨w.heap.size, 4, none⟩ = some (.string ⟨#[]⟩) := blk_cell k3 4
    exact bodyPost_ret (v := drV (.bad 4)) (by simp [results, Tryz.results7, go_sem, c0, c1, c2, c3, c4, drV, recV, noR]) rfl ⟨rfl, hb3⟩
def pkN (x : ByteArray) (k : Nat) : Int := if proI x < k then (proI x : Int) else 0
theorem pkN_one (x : ByteArray) : pkN x 1 = 0 := by unfold pkN; split <;> omega
theorem proI_le (x : ByteArray) : proI x ≤ 5 := by
  by_cases h : proI x = 0
  · omega
  · exact (proN_I x h).2
theorem pkN_six (x : ByteArray) : pkN x 6 = (proI x : Int) := by unfold pkN; have := proI_le x; rw [if_pos (by omega)]
theorem pkN_hit (x : ByteArray) (k : Nat) (h1 : 1 ≤ k) (h5 : k ≤ 5) (h : proN k = x) : pkN x (k + 1) = (k : Int) := by
  have := proI_N k (by omega) (by omega)
  rw [h] at this
  unfold pkN
  rw [if_pos (by omega), this]
theorem pkN_miss (x : ByteArray) (k : Nat) (h1 : 1 ≤ k) (h5 : k ≤ 5) (h : ¬ proN k = x) : pkN x (k + 1) = pkN x k := by
  have hn : proI x ≠ k := by
    intro q
    have := (proN_I x (by omega)).1
    rw [q] at this
    exact h this
  unfold pkN
  by_cases hk : proI x < k
  · rw [if_pos hk, if_pos (by omega)]
  · rw [if_neg hk, if_neg (by omega)]
theorem same_s {a b : ByteArray} (h : a = b) : (a.toList == b.toList) = true := by rw [h]; simp
theorem differ_s {a b : ByteArray} (h : ¬ a = b) : (a.toList == b.toList) = false := by
  rw [beq_eq_false_iff_ne, ByteArray.toList_eq, ByteArray.toList_eq]
  intro q
  exact h (ByteArray.ext (Array.ext' q))
theorem qB_none (x : ByteArray) (hz : x.size ≤ 2000) (h : decS x = none) (w : World) : Calls Tryz.prog 21 #[.string x] w fun e w' => e = .returned (.tuple #[.string ⟨#[]⟩, .bool false]) ∧ Below w.heap.size w w' := by
  refine (rDecode_c x hz w).mono ?_
  rintro e w' ⟨rfl, hb⟩
  refine ⟨?_, hb⟩
  unfold rres
  unfold decS at h
  rw [← dec_ref]
  cases hd : decL x.data.toList with
  | none => rfl
  | some t => rw [hd] at h; cases h
theorem qB_some (x : ByteArray) (hz : x.size ≤ 2000) (t : ByteArray) (h : decS x = some t) (w : World) : Calls Tryz.prog 21 #[.string x] w fun e w' => e = .returned (.tuple #[.string t, .bool true]) ∧ Below w.heap.size w w' := by
  refine (rDecode_c x hz w).mono ?_
  rintro e w' ⟨rfl, hb⟩
  refine ⟨?_, hb⟩
  unfold rres
  unfold decS at h
  rw [← dec_ref]
  cases hd : decL x.data.toList with
  | none => rw [hd] at h; cases h
  | some l =>
    rw [hd] at h
    obtain rfl := Option.some.inj h
    rfl
set_option maxHeartbeats 8000000 in
theorem qDec_c (s : ByteArray) (h : s.size ≤ 2000) (p n a b c : ByteArray) (hL : splitS 36 s = [sabS, p, n, a, b, c]) (hz : p.size ≤ 2000 ∧ n.size ≤ 2000 ∧ a.size ≤ 2000 ∧ b.size ≤ 2000 ∧ c.size ≤ 2000) (w : World) : Calls Tryz.prog 7 #[.string s] w fun x w' => x = .returned (drV (decR s)) ∧ Below w.heap.size w w' := by
  have h2 : ¬ 2000 < (s.size : Int) := by omega
  obtain ⟨zp, zn, za, zb, zc⟩ := hz
  have hS := fun w => qSplit_c s h w
  rw [hL] at hS
  have hl : ([sabS, p, n, a, b, c] : List ByteArray).length = 6 := rfl
  rw [hl] at hS
  have hNm := fun (k : Nat) (w : World) => rName_c (k : Int) w
  have hU := fun w => iter_c n w
  unfold decR
  rw [if_neg (by omega), hL]
  simp only []
  rw [if_neg (by simp)]
  clear hL hl zp zn
  generalize hD : (if proI p = 0 then DR.bad 9 else _ : DR) = D
  replace hD := Lib.hid hD
  replace hU := Lib.hid hU
  go_enter Tryz.func7, Tryz.ntmps7
  go_upto_region 4 with fail
  refine gen_world fun W hW => ?_
  have kR : W.heap[w.heap.size]? = some (.cells (recA noR) 24 (0, 0)) := by subst hW; exact blk_alloc (blk_new _ _) _
  obtain ⟨N, hN⟩ : ∃ N, N = w.heap.size + 1 := ⟨_, rfl⟩
  rw [← hN]
  have kN : W.heap[N]? = some (.cells (recA noR) 24 (0, 0)) := by subst hW; exact blk_new' (by rw [hN]; exact (Array.size_push _).symm) _
  have hAl : Below w.heap.size w W := by subst hW; (repeat (first | exact Below.refl _ _ | (refine bl_alloc ?_ _) | (refine bl_drewN ?_ _) | (refine bl_drew ?_) | (refine bl_call (by assumption) ?_) | (refine bl_set _ _ (by simp <;> omega) ?_) | assumption))
  clear hW
  have hN1 : w.heap.size < N := by omega
  clear hN
  go_upto_region 7 with (go_at_call 18; refine (hS _).mono ?_; rintro e w5 ⟨⟨L, cap, rfl, hLg, cur, kL, hcur⟩, hb⟩; have l0 : w5.cell? ⟨L, 0, none⟩ = some (.string ⟨#[115, 97, 98]⟩) := (own_cell kL hcur (by decide)))
  have hNL : N < L := by have := blk_lt kN; omega
  replace kR := grow_blk hb kR
  replace kN := grow_blk hb kN
  replace hAl := bl_call hb hAl
  clear hLg hb l0 hS
  go_upto_region 8 with fail
  refine gen_world fun W2 hW2 => ?_
  obtain ⟨V, hV⟩ : ∃ V, V = w5.heap.size := ⟨_, rfl⟩
  have hLV : L < V := by rw [hV]; exact blk_lt kL
  rw [← hV]
  have D0 : DQ w N L V W2 [sabS, p, n, a, b, c] noR := ⟨by rw [hW2]; exact blk_alloc kR _, by rw [hW2]; exact blk_alloc kN _, ⟨cur, by rw [hW2]; exact blk_alloc kL _, hcur⟩, by rw [hW2]; exact blk_new' hV _, by rw [hW2]; exact bl_alloc hAl _, hN1, hNL, hLV⟩
  clear hW2 hV kR kN kL hcur hAl hN1 hNL hLV
  go_wp2_with fail
  have hD0 : DQ w N L V W2 [sabS, p, n, a, b, c] ⟨pkN p 1, 0, ⟨#[]⟩, ⟨#[]⟩, ⟨#[]⟩⟩ := by rw [pkN_one]; exact D0
  clear D0
  go_loopw [7] (fun i wr => ∃ k : Nat, 1 ≤ k ∧ k ≤ 6 ∧ i = .int .i64 (k : Int) ∧ DQ w N L V wr [sabS, p, n, a, b, c] ⟨pkN p k, 0, ⟨#[]⟩, ⟨#[]⟩, ⟨#[]⟩⟩) (fun i _ => 6 - (RowKit.intOf i).toNat)
  case atStart => exact ⟨1, by omega, by omega, rfl, hD0⟩
  case round =>
    clear hD0
    obtain ⟨k, hk1, hk6, rfl, D1⟩ := hrel
    have pn : (1 : Int) ≤ (k : Int) := by omega
    by_cases hlt : k ≤ 5
    · have hlt' : (k : Int) ≤ 5 := by omega
      have l1 : wr.cell? ⟨L, 1, none⟩ = some (.string p) := D1.lc 1 p rfl
      have hNk := fun w => hNm k w
      by_cases heq : proN k = p
      · have hbq := same_s heq
        have hst := pkN_hit p k hk1 hlt heq
        rw [heq] at hNk hbq
        go_upto_region 11 with fail
        go_quiet ((go_at_call 19; refine Calls.quiet_of_same (hNk _)))
        rename_i nq
        have D2 := D1.same (w1 := wr.drewN nq) rfl (bl_drewN D1.hA _)
        have v0 : (wr.drewN nq).cell? ⟨V, 0, none⟩ = some (.int .i64 (pkN p k)) := D2.vc 0
        have f0 := D2.vf 0
        have D3 := D2.setp (k : Int)
        simp only at D3
        clear D1 D2 l1 hNk heq
        go_wp2_with fail
        go_roundw
        case measure => simp [RowKit.intOf] <;> omega
        exact ⟨k + 1, by omega, by omega, congrArg (Value.int .i64) (by omega), by rw [hst]; exact D3⟩
      · have hbq := differ_s heq
        have hst := pkN_miss p k hk1 hlt heq
        go_upto_region 11 with fail
        go_quiet ((go_at_call 19; refine Calls.quiet_of_same (hNk _)))
        rename_i nq
        have D2 := D1.same (w1 := wr.drewN nq) rfl (bl_drewN D1.hA _)
        clear D1 l1 hNk heq
        go_wp2_with fail
        go_roundw
        case measure => simp [RowKit.intOf] <;> omega
        exact ⟨k + 1, by omega, by omega, congrArg (Value.int .i64) (by omega), by rw [hst]; exact D2⟩
    · obtain rfl : k = 6 := by omega
      rw [pkN_six] at D1
      have hlt' : ¬ ((6 : Nat) : Int) ≤ 5 := by omega
      have v0 : wr.cell? ⟨V, 0, none⟩ = some (.int .i64 (proI p : Int)) := D1.vc 0
      clear hk1 hk6 hNm pn
      by_cases hp : proI p = 0
      · have hd : D = .bad 9 := by rw [← hD.out, if_pos hp]
        rw [hp] at v0
        clear hD hp
        subst hd
        obtain ⟨r0, r1, r2, r3, r4⟩ : wr.cell? ⟨w.heap.size, 0, none⟩ = some (.int .i64 0) ∧ wr.cell? ⟨w.heap.size, 1, none⟩ = some (.int .i64 0) ∧ wr.cell? ⟨w.heap.size, 2, none⟩ = some (.string ⟨#[]⟩) ∧ wr.cell? ⟨w.heap.size, 3, none⟩ = some (.string ⟨#[]⟩) ∧ wr.cell? ⟨w.heap.size, 4, none⟩ = some (.string ⟨#[]⟩) := ⟨D1.rc 0, D1.rc 1, D1.rc 2, D1.rc 3, D1.rc 4⟩
        obtain ⟨n0, n1, n2, n3, n4⟩ : wr.cell? ⟨N, 0, none⟩ = some (.int .i64 0) ∧ wr.cell? ⟨N, 1, none⟩ = some (.int .i64 0) ∧ wr.cell? ⟨N, 2, none⟩ = some (.string ⟨#[]⟩) ∧ wr.cell? ⟨N, 3, none⟩ = some (.string ⟨#[]⟩) ∧ wr.cell? ⟨N, 4, none⟩ = some (.string ⟨#[]⟩) := ⟨D1.nc 0, D1.nc 1, D1.nc 2, D1.nc 3, D1.nc 4⟩
        have g0 := D1.rf 0
        have g1 := D1.rf 1
        have g2 := D1.rf 2
        have g3 := D1.rf 3
        have g4 := D1.rf 4
        go_wp2
        obtain ⟨W3, hW3, k3, hb3⟩ := D1.ret5 (.int .i64 0) (.int .i64 0) (.string ⟨#[]⟩) (.string ⟨#[]⟩) (.string ⟨#[]⟩)
        rw [← hW3]
        clear hW3 r0 r1 r2 r3 r4 g0 g1 g2 g3 g4 n0 n1 n2 n3 n4 D1
        have c0 : W3.cell? ⟨w.heap.size, 0, none⟩ = some (.int .i64 0) := blk_cell k3 0
        have c1 : W3.cell? ⟨w.heap.size, 1, none⟩ = some (.int .i64 0) := blk_cell k3 1
        have c2 : W3.cell? ⟨w.heap.size, 2, none⟩ = some (.string ⟨#[]⟩) := blk_cell k3 2
        have c3 : W3.cell? ⟨w.heap.size, 3, none⟩ = some (.string ⟨#[]⟩) := blk_cell k3 3
        have c4 : W3.cell? ⟨w.heap.size, 4, none⟩ = some (.string ⟨#[]⟩) := blk_cell k3 4
        exact bodyPost_ret (v := drV (.bad 9)) (by simp [results, Tryz.results7, go_sem, c0, c1, c2, c3, c4, drV, recV, noR]) rfl ⟨rfl, hb3⟩
      have q0 : ¬ (proI p : Int) = 0 := by omega
      have q0' : ((proI p : Int) == 0) = false := beq_eq_false_iff_ne.2 q0
      have hd := hD.out
      rw [if_neg hp] at hd
      replace hD := Lib.hid hd
      clear hd hp
      have f1 := D1.vf 1
      have v1 : wr.cell? ⟨V, 1, none⟩ = some (.int .i64 0) := D1.vc 1
      have l2 : wr.cell? ⟨L, 2, none⟩ = some (.string n) := D1.lc 2 n rfl
      go_upto_region 16 with (go_at_call 20; refine (hU.out _).mono ?_; rintro e w6 ⟨rfl, rfl⟩)
      refine gen_world fun W3 hW3 => ?_
      have D2 : DQ w N L V W3 [sabS, p, n, a, b, c] ⟨(proI p : Int), itR n.data.toList, ⟨#[]⟩, ⟨#[]⟩, ⟨#[]⟩⟩ := by rw [hW3]; exact D1.setn _
      clear hW3 D1 v0 v1 f1 l2 hU
      have v1 : W3.cell? ⟨V, 1, none⟩ = some (.int .i64 (itR n.data.toList)) := D2.vc 1
      rcases hk : numR n.data.toList with _ | k
      · have hi : itR n.data.toList = 0 := by unfold itR; rw [hk]
        have hd : D = .bad 7 := by rw [← hD.out, hk]
        rw [hi] at v1
        clear hD hk hi za zb zc
        subst hd
        obtain ⟨r0, r1, r2, r3, r4⟩ : W3.cell? ⟨w.heap.size, 0, none⟩ = some (.int .i64 0) ∧ W3.cell? ⟨w.heap.size, 1, none⟩ = some (.int .i64 0) ∧ W3.cell? ⟨w.heap.size, 2, none⟩ = some (.string ⟨#[]⟩) ∧ W3.cell? ⟨w.heap.size, 3, none⟩ = some (.string ⟨#[]⟩) ∧ W3.cell? ⟨w.heap.size, 4, none⟩ = some (.string ⟨#[]⟩) := ⟨D2.rc 0, D2.rc 1, D2.rc 2, D2.rc 3, D2.rc 4⟩
        obtain ⟨n0, n1, n2, n3, n4⟩ : W3.cell? ⟨N, 0, none⟩ = some (.int .i64 0) ∧ W3.cell? ⟨N, 1, none⟩ = some (.int .i64 0) ∧ W3.cell? ⟨N, 2, none⟩ = some (.string ⟨#[]⟩) ∧ W3.cell? ⟨N, 3, none⟩ = some (.string ⟨#[]⟩) ∧ W3.cell? ⟨N, 4, none⟩ = some (.string ⟨#[]⟩) := ⟨D2.nc 0, D2.nc 1, D2.nc 2, D2.nc 3, D2.nc 4⟩
        have g0 := D2.rf 0
        have g1 := D2.rf 1
        have g2 := D2.rf 2
        have g3 := D2.rf 3
        have g4 := D2.rf 4
        go_wp2
        obtain ⟨W3, hW3, k3, hb3⟩ := D2.ret5 (.int .i64 0) (.int .i64 0) (.string ⟨#[]⟩) (.string ⟨#[]⟩) (.string ⟨#[]⟩)
        rw [← hW3]
        clear hW3 r0 r1 r2 r3 r4 g0 g1 g2 g3 g4 n0 n1 n2 n3 n4 D2
        have c0 : W3.cell? ⟨w.heap.size, 0, none⟩ = some (.int .i64 0) := blk_cell k3 0
        have c1 : W3.cell? ⟨w.heap.size, 1, none⟩ = some (.int .i64 0) := blk_cell k3 1
        have c2 : W3.cell? ⟨w.heap.size, 2, none⟩ = some (.string ⟨#[]⟩) := blk_cell k3 2
        have c3 : W3.cell? ⟨w.heap.size, 3, none⟩ = some (.string ⟨#[]⟩) := blk_cell k3 3
        have c4 : W3.cell? ⟨w.heap.size, 4, none⟩ = some (.string ⟨#[]⟩) := blk_cell k3 4
        exact bodyPost_ret (v := drV (.bad 7)) (by simp [results, Tryz.results7, go_sem, c0, c1, c2, c3, c4, drV, recV, noR]) rfl ⟨rfl, hb3⟩
      have hi : itR n.data.toList = (k : Int) := by unfold itR; rw [hk]
      have hk1 := (itoa_numR _ _ hk).2.1
      rw [hi] at v1 D2
      rw [hi]
      have hd := hD.out
      rw [hk] at hd
      simp only at hd
      replace hD := Lib.hid hd
      have k0 : ¬ (k : Int) = 0 := by omega
      have k0' : ((k : Int) == 0) = false := beq_eq_false_iff_ne.2 k0
      clear hd hk hi
      go_upto_region 19 with fail
      refine gen_world fun W4 hW4 => ?_
      obtain ⟨T, hT⟩ : ∃ T, T = W3.heap.size := ⟨_, rfl⟩
      have hVT : V < T := by rw [hT]; exact blk_lt D2.kV
      rw [← hT]
      have hb4 : Below W3.heap.size W3 W4 := by rw [hW4]; exact (Below.refl _ _).alloc (Nat.le_refl _) _
      have kT : W4.heap[T]? = some (.cells #[.string ⟨#[]⟩, .string ⟨#[]⟩, .string ⟨#[]⟩] 44 (0, 0)) := by rw [hW4]; exact blk_new' hT _
      have D3 := D2.grow hb4
      clear hW4 hT hb4 D2 v1
      go_wp2_with fail
      refine wp_loop_rounds 4 ?_
      rw [rounds_succ]
      have lj : W4.cell? ⟨L, 3, none⟩ = some (.string a) := D3.lc 3 a rfl
      rcases hx : decS a with _ | ta
      · have hd : D = .bad 5 := by rw [← hD.out, hx]
        have hA := Lib.hid (fun w => qB_none a za hx w)
        clear hD hx za zb zc kT hVT
        subst hd
        go_upto_region 24 with (go_at_call 21; refine (hA.out _).mono ?_; rintro e v6 ⟨rfl, hb⟩)
        have Dx := D3.grow hb
        clear D3 hb lj hA
        obtain ⟨r0, r1, r2, r3, r4⟩ : v6.cell? ⟨w.heap.size, 0, none⟩ = some (.int .i64 0) ∧ v6.cell? ⟨w.heap.size, 1, none⟩ = some (.int .i64 0) ∧ v6.cell? ⟨w.heap.size, 2, none⟩ = some (.string ⟨#[]⟩) ∧ v6.cell? ⟨w.heap.size, 3, none⟩ = some (.string ⟨#[]⟩) ∧ v6.cell? ⟨w.heap.size, 4, none⟩ = some (.string ⟨#[]⟩) := ⟨Dx.rc 0, Dx.rc 1, Dx.rc 2, Dx.rc 3, Dx.rc 4⟩
        obtain ⟨n0, n1, n2, n3, n4⟩ : v6.cell? ⟨N, 0, none⟩ = some (.int .i64 0) ∧ v6.cell? ⟨N, 1, none⟩ = some (.int .i64 0) ∧ v6.cell? ⟨N, 2, none⟩ = some (.string ⟨#[]⟩) ∧ v6.cell? ⟨N, 3, none⟩ = some (.string ⟨#[]⟩) ∧ v6.cell? ⟨N, 4, none⟩ = some (.string ⟨#[]⟩) := ⟨Dx.nc 0, Dx.nc 1, Dx.nc 2, Dx.nc 3, Dx.nc 4⟩
        have g0 := Dx.rf 0
        have g1 := Dx.rf 1
        have g2 := Dx.rf 2
        have g3 := Dx.rf 3
        have g4 := Dx.rf 4
        go_wp2
        obtain ⟨W3, hW3, k3, hb3⟩ := Dx.ret5 (.int .i64 0) (.int .i64 0) (.string ⟨#[]⟩) (.string ⟨#[]⟩) (.string ⟨#[]⟩)
        rw [← hW3]
        clear hW3 r0 r1 r2 r3 r4 g0 g1 g2 g3 g4 n0 n1 n2 n3 n4 Dx
        have c0 : W3.cell? ⟨w.heap.size, 0, none⟩ = some (.int .i64 0) := blk_cell k3 0
        have c1 : W3.cell? ⟨w.heap.size, 1, none⟩ = some (.int .i64 0) := blk_cell k3 1
        have c2 : W3.cell? ⟨w.heap.size, 2, none⟩ = some (.string ⟨#[]⟩) := blk_cell k3 2
        have c3 : W3.cell? ⟨w.heap.size, 3, none⟩ = some (.string ⟨#[]⟩) := blk_cell k3 3
        have c4 : W3.cell? ⟨w.heap.size, 4, none⟩ = some (.string ⟨#[]⟩) := blk_cell k3 4
        exact bodyPost_ret (v := drV (.bad 5)) (by simp [results, Tryz.results7, go_sem, c0, c1, c2, c3, c4, drV, recV, noR]) rfl ⟨rfl, hb3⟩
      have hA := Lib.hid (fun w => qB_some a za ta hx w)
      have hd := hD.out
      rw [hx] at hd
      simp only at hd
      replace hD := Lib.hid hd
      clear hd hx
      have hSl := fun w => rSalt_c ta w
      by_cases hs : 1 ≤ ta.size ∧ ta.size ≤ 64
      rotate_left
      · have hd : D = .bad 6 := by rw [← hD.out, if_pos hs]
        have hi : inside 1 (ta.size : Int) 64 = false := by simp only [inside, decide_eq_false_iff_not]; omega
        rw [hi] at hSl
        replace hSl := Lib.hid hSl
        clear hD hs hi za zb zc kT hVT
        subst hd
        go_upto_region 26 with (first | (go_at_call 21; refine (hA.out _).mono ?_; rintro e v6 ⟨rfl, hb⟩) | (go_at_call 22; refine (hSl.out _).mono ?_; rintro e v6 ⟨rfl, rfl⟩))
        have Dx := D3.grow hb
        clear D3 hb lj hA hSl
        obtain ⟨r0, r1, r2, r3, r4⟩ : v6.cell? ⟨w.heap.size, 0, none⟩ = some (.int .i64 0) ∧ v6.cell? ⟨w.heap.size, 1, none⟩ = some (.int .i64 0) ∧ v6.cell? ⟨w.heap.size, 2, none⟩ = some (.string ⟨#[]⟩) ∧ v6.cell? ⟨w.heap.size, 3, none⟩ = some (.string ⟨#[]⟩) ∧ v6.cell? ⟨w.heap.size, 4, none⟩ = some (.string ⟨#[]⟩) := ⟨Dx.rc 0, Dx.rc 1, Dx.rc 2, Dx.rc 3, Dx.rc 4⟩
        obtain ⟨n0, n1, n2, n3, n4⟩ : v6.cell? ⟨N, 0, none⟩ = some (.int .i64 0) ∧ v6.cell? ⟨N, 1, none⟩ = some (.int .i64 0) ∧ v6.cell? ⟨N, 2, none⟩ = some (.string ⟨#[]⟩) ∧ v6.cell? ⟨N, 3, none⟩ = some (.string ⟨#[]⟩) ∧ v6.cell? ⟨N, 4, none⟩ = some (.string ⟨#[]⟩) := ⟨Dx.nc 0, Dx.nc 1, Dx.nc 2, Dx.nc 3, Dx.nc 4⟩
        have g0 := Dx.rf 0
        have g1 := Dx.rf 1
        have g2 := Dx.rf 2
        have g3 := Dx.rf 3
        have g4 := Dx.rf 4
        go_wp2
        obtain ⟨W3, hW3, k3, hb3⟩ := Dx.ret5 (.int .i64 0) (.int .i64 0) (.string ⟨#[]⟩) (.string ⟨#[]⟩) (.string ⟨#[]⟩)
        rw [← hW3]
        clear hW3 r0 r1 r2 r3 r4 g0 g1 g2 g3 g4 n0 n1 n2 n3 n4 Dx
        have c0 : W3.cell? ⟨w.heap.size, 0, none⟩ = some (.int .i64 0) := blk_cell k3 0
        have c1 : W3.cell? ⟨w.heap.size, 1, none⟩ = some (.int .i64 0) := blk_cell k3 1
        have c2 : W3.cell? ⟨w.heap.size, 2, none⟩ = some (.string ⟨#[]⟩) := blk_cell k3 2
        have c3 : W3.cell? ⟨w.heap.size, 3, none⟩ = some (.string ⟨#[]⟩) := blk_cell k3 3
        have c4 : W3.cell? ⟨w.heap.size, 4, none⟩ = some (.string ⟨#[]⟩) := blk_cell k3 4
        exact bodyPost_ret (v := drV (.bad 6)) (by simp [results, Tryz.results7, go_sem, c0, c1, c2, c3, c4, drV, recV, noR]) rfl ⟨rfl, hb3⟩
      have hi : inside 1 (ta.size : Int) 64 = true := by simp only [inside, decide_eq_true_eq]; omega
      rw [hi] at hSl
      replace hSl := Lib.hid hSl
      have hd := hD.out
      rw [if_neg (not_not_intro hs)] at hd
      replace hD := Lib.hid hd
      clear hd hs hi
      go_upto_region 29 with (first | (go_at_call 21; refine (hA.out _).mono ?_; rintro e v6 ⟨rfl, hb⟩) | (go_at_call 22; refine (hSl.out _).mono ?_; rintro e v6 ⟨rfl, rfl⟩))
      have Dy := D3.grow hb
      have kY := grow_blk hb kT
      have tq : v6.cell? ⟨T, 0, none⟩ = some (.string ⟨#[]⟩) := blk_cell kY 0
      have tf := blk_frozen kY 0
      clear D3 hb lj hA kT hSl
      go_upto_region 21 with fail
      refine gen_world fun W5 hW4 => ?_
      have D4 : DQ w N L V W5 [sabS, p, n, a, b, c] ⟨(proI p : Int), (k : Int), ⟨#[]⟩, ⟨#[]⟩, ⟨#[]⟩⟩ := by rw [hW4]; exact Dy.far _ hVT _
      have kT : W5.heap[T]? = some (.cells #[.string ta, .string ⟨#[]⟩, .string ⟨#[]⟩] 44 (0, 0)) := by rw [hW4]; exact blk_set kY 0 _
      clear hW4 Dy kY tq tf
      go_wp2_with fail
      rw [rounds_succ]
      have lj : W5.cell? ⟨L, 4, none⟩ = some (.string b) := D4.lc 4 b rfl
      rcases hx : decS b with _ | tb
      · have hd : D = .bad 5 := by rw [← hD.out, hx]
        have hA := Lib.hid (fun w => qB_none b zb hx w)
        clear hD hx za zb zc kT hVT
        subst hd
        go_upto_region 24 with (go_at_call 21; refine (hA.out _).mono ?_; rintro e v6 ⟨rfl, hb⟩)
        have Dx := D4.grow hb
        clear D4 hb lj hA
        obtain ⟨r0, r1, r2, r3, r4⟩ : v6.cell? ⟨w.heap.size, 0, none⟩ = some (.int .i64 0) ∧ v6.cell? ⟨w.heap.size, 1, none⟩ = some (.int .i64 0) ∧ v6.cell? ⟨w.heap.size, 2, none⟩ = some (.string ⟨#[]⟩) ∧ v6.cell? ⟨w.heap.size, 3, none⟩ = some (.string ⟨#[]⟩) ∧ v6.cell? ⟨w.heap.size, 4, none⟩ = some (.string ⟨#[]⟩) := ⟨Dx.rc 0, Dx.rc 1, Dx.rc 2, Dx.rc 3, Dx.rc 4⟩
        obtain ⟨n0, n1, n2, n3, n4⟩ : v6.cell? ⟨N, 0, none⟩ = some (.int .i64 0) ∧ v6.cell? ⟨N, 1, none⟩ = some (.int .i64 0) ∧ v6.cell? ⟨N, 2, none⟩ = some (.string ⟨#[]⟩) ∧ v6.cell? ⟨N, 3, none⟩ = some (.string ⟨#[]⟩) ∧ v6.cell? ⟨N, 4, none⟩ = some (.string ⟨#[]⟩) := ⟨Dx.nc 0, Dx.nc 1, Dx.nc 2, Dx.nc 3, Dx.nc 4⟩
        have g0 := Dx.rf 0
        have g1 := Dx.rf 1
        have g2 := Dx.rf 2
        have g3 := Dx.rf 3
        have g4 := Dx.rf 4
        go_wp2
        obtain ⟨W3, hW3, k3, hb3⟩ := Dx.ret5 (.int .i64 0) (.int .i64 0) (.string ⟨#[]⟩) (.string ⟨#[]⟩) (.string ⟨#[]⟩)
        rw [← hW3]
        clear hW3 r0 r1 r2 r3 r4 g0 g1 g2 g3 g4 n0 n1 n2 n3 n4 Dx
        have c0 : W3.cell? ⟨w.heap.size, 0, none⟩ = some (.int .i64 0) := blk_cell k3 0
        have c1 : W3.cell? ⟨w.heap.size, 1, none⟩ = some (.int .i64 0) := blk_cell k3 1
        have c2 : W3.cell? ⟨w.heap.size, 2, none⟩ = some (.string ⟨#[]⟩) := blk_cell k3 2
        have c3 : W3.cell? ⟨w.heap.size, 3, none⟩ = some (.string ⟨#[]⟩) := blk_cell k3 3
        have c4 : W3.cell? ⟨w.heap.size, 4, none⟩ = some (.string ⟨#[]⟩) := blk_cell k3 4
        exact bodyPost_ret (v := drV (.bad 5)) (by simp [results, Tryz.results7, go_sem, c0, c1, c2, c3, c4, drV, recV, noR]) rfl ⟨rfl, hb3⟩
      have hA := Lib.hid (fun w => qB_some b zb tb hx w)
      have hd := hD.out
      rw [hx] at hd
      simp only at hd
      replace hD := Lib.hid hd
      clear hd hx
      by_cases hs : tb.size = 32
      rotate_left
      · have hd : D = .bad 4 := by rw [← hD.out, if_pos hs]
        have q3 : ¬ (tb.size : Int) = 32 := by omega
        have q3' : ((tb.size : Int) != 32) = true := bne_iff_ne.2 q3
        clear hD hs za zb zc kT hVT
        subst hd
        go_upto_region 28 with (go_at_call 21; refine (hA.out _).mono ?_; rintro e v6 ⟨rfl, hb⟩)
        have Dx := D4.grow hb
        clear D4 hb lj hA
        obtain ⟨r0, r1, r2, r3, r4⟩ : v6.cell? ⟨w.heap.size, 0, none⟩ = some (.int .i64 0) ∧ v6.cell? ⟨w.heap.size, 1, none⟩ = some (.int .i64 0) ∧ v6.cell? ⟨w.heap.size, 2, none⟩ = some (.string ⟨#[]⟩) ∧ v6.cell? ⟨w.heap.size, 3, none⟩ = some (.string ⟨#[]⟩) ∧ v6.cell? ⟨w.heap.size, 4, none⟩ = some (.string ⟨#[]⟩) := ⟨Dx.rc 0, Dx.rc 1, Dx.rc 2, Dx.rc 3, Dx.rc 4⟩
        obtain ⟨n0, n1, n2, n3, n4⟩ : v6.cell? ⟨N, 0, none⟩ = some (.int .i64 0) ∧ v6.cell? ⟨N, 1, none⟩ = some (.int .i64 0) ∧ v6.cell? ⟨N, 2, none⟩ = some (.string ⟨#[]⟩) ∧ v6.cell? ⟨N, 3, none⟩ = some (.string ⟨#[]⟩) ∧ v6.cell? ⟨N, 4, none⟩ = some (.string ⟨#[]⟩) := ⟨Dx.nc 0, Dx.nc 1, Dx.nc 2, Dx.nc 3, Dx.nc 4⟩
        have g0 := Dx.rf 0
        have g1 := Dx.rf 1
        have g2 := Dx.rf 2
        have g3 := Dx.rf 3
        have g4 := Dx.rf 4
        go_wp2
        obtain ⟨W3, hW3, k3, hb3⟩ := Dx.ret5 (.int .i64 0) (.int .i64 0) (.string ⟨#[]⟩) (.string ⟨#[]⟩) (.string ⟨#[]⟩)
        rw [← hW3]
        clear hW3 r0 r1 r2 r3 r4 g0 g1 g2 g3 g4 n0 n1 n2 n3 n4 Dx
        have c0 : W3.cell? ⟨w.heap.size, 0, none⟩ = some (.int .i64 0) := blk_cell k3 0
        have c1 : W3.cell? ⟨w.heap.size, 1, none⟩ = some (.int .i64 0) := blk_cell k3 1
        have c2 : W3.cell? ⟨w.heap.size, 2, none⟩ = some (.string ⟨#[]⟩) := blk_cell k3 2
        have c3 : W3.cell? ⟨w.heap.size, 3, none⟩ = some (.string ⟨#[]⟩) := blk_cell k3 3
        have c4 : W3.cell? ⟨w.heap.size, 4, none⟩ = some (.string ⟨#[]⟩) := blk_cell k3 4
        exact bodyPost_ret (v := drV (.bad 4)) (by simp [results, Tryz.results7, go_sem, c0, c1, c2, c3, c4, drV, recV, noR]) rfl ⟨rfl, hb3⟩
      have q3 : (tb.size : Int) = 32 := by omega
      have q3' : ((tb.size : Int) != 32) = false := by rw [q3]; rfl
      have hd := hD.out
      rw [if_neg (not_not_intro hs)] at hd
      replace hD := Lib.hid hd
      clear hd hs
      go_upto_region 29 with (go_at_call 21; refine (hA.out _).mono ?_; rintro e v6 ⟨rfl, hb⟩)
      clear q3 q3'
      have Dy := D4.grow hb
      have kY := grow_blk hb kT
      have tq : v6.cell? ⟨T, 1, none⟩ = some (.string ⟨#[]⟩) := blk_cell kY 1
      have tf := blk_frozen kY 1
      clear D4 hb lj hA kT
      go_upto_region 21 with fail
      refine gen_world fun W6 hW4 => ?_
      have D5 : DQ w N L V W6 [sabS, p, n, a, b, c] ⟨(proI p : Int), (k : Int), ⟨#[]⟩, ⟨#[]⟩, ⟨#[]⟩⟩ := by rw [hW4]; exact Dy.far _ hVT _
      have kT : W6.heap[T]? = some (.cells #[.string ta, .string tb, .string ⟨#[]⟩] 44 (0, 0)) := by rw [hW4]; exact blk_set kY 1 _
      clear hW4 Dy kY tq tf
      go_wp2_with fail
      rw [rounds_succ]
      have lj : W6.cell? ⟨L, 5, none⟩ = some (.string c) := D5.lc 5 c rfl
      rcases hx : decS c with _ | tc
      · have hd : D = .bad 5 := by rw [← hD.out, hx]
        have hA := Lib.hid (fun w => qB_none c zc hx w)
        clear hD hx za zb zc kT hVT
        subst hd
        go_upto_region 24 with (go_at_call 21; refine (hA.out _).mono ?_; rintro e v6 ⟨rfl, hb⟩)
        have Dx := D5.grow hb
        clear D5 hb lj hA
        obtain ⟨r0, r1, r2, r3, r4⟩ : v6.cell? ⟨w.heap.size, 0, none⟩ = some (.int .i64 0) ∧ v6.cell? ⟨w.heap.size, 1, none⟩ = some (.int .i64 0) ∧ v6.cell? ⟨w.heap.size, 2, none⟩ = some (.string ⟨#[]⟩) ∧ v6.cell? ⟨w.heap.size, 3, none⟩ = some (.string ⟨#[]⟩) ∧ v6.cell? ⟨w.heap.size, 4, none⟩ = some (.string ⟨#[]⟩) := ⟨Dx.rc 0, Dx.rc 1, Dx.rc 2, Dx.rc 3, Dx.rc 4⟩
        obtain ⟨n0, n1, n2, n3, n4⟩ : v6.cell? ⟨N, 0, none⟩ = some (.int .i64 0) ∧ v6.cell? ⟨N, 1, none⟩ = some (.int .i64 0) ∧ v6.cell? ⟨N, 2, none⟩ = some (.string ⟨#[]⟩) ∧ v6.cell? ⟨N, 3, none⟩ = some (.string ⟨#[]⟩) ∧ v6.cell? ⟨N, 4, none⟩ = some (.string ⟨#[]⟩) := ⟨Dx.nc 0, Dx.nc 1, Dx.nc 2, Dx.nc 3, Dx.nc 4⟩
        have g0 := Dx.rf 0
        have g1 := Dx.rf 1
        have g2 := Dx.rf 2
        have g3 := Dx.rf 3
        have g4 := Dx.rf 4
        go_wp2
        obtain ⟨W3, hW3, k3, hb3⟩ := Dx.ret5 (.int .i64 0) (.int .i64 0) (.string ⟨#[]⟩) (.string ⟨#[]⟩) (.string ⟨#[]⟩)
        rw [← hW3]
        clear hW3 r0 r1 r2 r3 r4 g0 g1 g2 g3 g4 n0 n1 n2 n3 n4 Dx
        have c0 : W3.cell? ⟨w.heap.size, 0, none⟩ = some (.int .i64 0) := blk_cell k3 0
        have c1 : W3.cell? ⟨w.heap.size, 1, none⟩ = some (.int .i64 0) := blk_cell k3 1
        have c2 : W3.cell? ⟨w.heap.size, 2, none⟩ = some (.string ⟨#[]⟩) := blk_cell k3 2
        have c3 : W3.cell? ⟨w.heap.size, 3, none⟩ = some (.string ⟨#[]⟩) := blk_cell k3 3
        have c4 : W3.cell? ⟨w.heap.size, 4, none⟩ = some (.string ⟨#[]⟩) := blk_cell k3 4
        exact bodyPost_ret (v := drV (.bad 5)) (by simp [results, Tryz.results7, go_sem, c0, c1, c2, c3, c4, drV, recV, noR]) rfl ⟨rfl, hb3⟩
      have hA := Lib.hid (fun w => qB_some c zc tc hx w)
      have hd := hD.out
      rw [hx] at hd
      simp only at hd
      replace hD := Lib.hid hd
      clear hd hx
      by_cases hs : tc.size = 32
      rotate_left
      · have hd : D = .bad 4 := by rw [← hD.out, if_pos hs]
        have q3 : ¬ (tc.size : Int) = 32 := by omega
        have q3' : ((tc.size : Int) != 32) = true := bne_iff_ne.2 q3
        clear hD hs za zb zc kT hVT
        subst hd
        go_upto_region 28 with (go_at_call 21; refine (hA.out _).mono ?_; rintro e v6 ⟨rfl, hb⟩)
        have Dx := D5.grow hb
        clear D5 hb lj hA
        obtain ⟨r0, r1, r2, r3, r4⟩ : v6.cell? ⟨w.heap.size, 0, none⟩ = some (.int .i64 0) ∧ v6.cell? ⟨w.heap.size, 1, none⟩ = some (.int .i64 0) ∧ v6.cell? ⟨w.heap.size, 2, none⟩ = some (.string ⟨#[]⟩) ∧ v6.cell? ⟨w.heap.size, 3, none⟩ = some (.string ⟨#[]⟩) ∧ v6.cell? ⟨w.heap.size, 4, none⟩ = some (.string ⟨#[]⟩) := ⟨Dx.rc 0, Dx.rc 1, Dx.rc 2, Dx.rc 3, Dx.rc 4⟩
        obtain ⟨n0, n1, n2, n3, n4⟩ : v6.cell? ⟨N, 0, none⟩ = some (.int .i64 0) ∧ v6.cell? ⟨N, 1, none⟩ = some (.int .i64 0) ∧ v6.cell? ⟨N, 2, none⟩ = some (.string ⟨#[]⟩) ∧ v6.cell? ⟨N, 3, none⟩ = some (.string ⟨#[]⟩) ∧ v6.cell? ⟨N, 4, none⟩ = some (.string ⟨#[]⟩) := ⟨Dx.nc 0, Dx.nc 1, Dx.nc 2, Dx.nc 3, Dx.nc 4⟩
        have g0 := Dx.rf 0
        have g1 := Dx.rf 1
        have g2 := Dx.rf 2
        have g3 := Dx.rf 3
        have g4 := Dx.rf 4
        go_wp2
        obtain ⟨W3, hW3, k3, hb3⟩ := Dx.ret5 (.int .i64 0) (.int .i64 0) (.string ⟨#[]⟩) (.string ⟨#[]⟩) (.string ⟨#[]⟩)
        rw [← hW3]
        clear hW3 r0 r1 r2 r3 r4 g0 g1 g2 g3 g4 n0 n1 n2 n3 n4 Dx
        have c0 : W3.cell? ⟨w.heap.size, 0, none⟩ = some (.int .i64 0) := blk_cell k3 0
        have c1 : W3.cell? ⟨w.heap.size, 1, none⟩ = some (.int .i64 0) := blk_cell k3 1
        have c2 : W3.cell? ⟨w.heap.size, 2, none⟩ = some (.string ⟨#[]⟩) := blk_cell k3 2
        have c3 : W3.cell? ⟨w.heap.size, 3, none⟩ = some (.string ⟨#[]⟩) := blk_cell k3 3
        have c4 : W3.cell? ⟨w.heap.size, 4, none⟩ = some (.string ⟨#[]⟩) := blk_cell k3 4
        exact bodyPost_ret (v := drV (.bad 4)) (by simp [results, Tryz.results7, go_sem, c0, c1, c2, c3, c4, drV, recV, noR]) rfl ⟨rfl, hb3⟩
      have q3 : (tc.size : Int) = 32 := by omega
      have q3' : ((tc.size : Int) != 32) = false := by rw [q3]; rfl
      have hd := hD.out
      rw [if_neg (not_not_intro hs)] at hd
      replace hD := Lib.hid hd
      clear hd hs
      go_upto_region 29 with (go_at_call 21; refine (hA.out _).mono ?_; rintro e v6 ⟨rfl, hb⟩)
      clear q3 q3'
      have Dy := D5.grow hb
      have kY := grow_blk hb kT
      have tq : v6.cell? ⟨T, 2, none⟩ = some (.string ⟨#[]⟩) := blk_cell kY 2
      have tf := blk_frozen kY 2
      clear D5 hb lj hA kT
      go_upto_region 21 with fail
      refine gen_world fun W7 hW4 => ?_
      have D6 : DQ w N L V W7 [sabS, p, n, a, b, c] ⟨(proI p : Int), (k : Int), ⟨#[]⟩, ⟨#[]⟩, ⟨#[]⟩⟩ := by rw [hW4]; exact Dy.far _ hVT _
      have kT : W7.heap[T]? = some (.cells #[.string ta, .string tb, .string tc] 44 (0, 0)) := by rw [hW4]; exact blk_set kY 2 _
      clear hW4 Dy kY tq tf
      go_wp2_with fail
      rw [rounds_succ]
      have hd := hD.out
      subst hd
      have t0 : W7.cell? ⟨T, 0, none⟩ = some (.string ta) := blk_cell kT 0
      have t1 : W7.cell? ⟨T, 1, none⟩ = some (.string tb) := blk_cell kT 1
      have t2 : W7.cell? ⟨T, 2, none⟩ = some (.string tc) := blk_cell kT 2
      have v2 : W7.cell? ⟨V, 2, none⟩ = some (.string ⟨#[]⟩) := D6.vc 2
      have v3 : W7.cell? ⟨V, 3, none⟩ = some (.string ⟨#[]⟩) := D6.vc 3
      have v4 : W7.cell? ⟨V, 4, none⟩ = some (.string ⟨#[]⟩) := D6.vc 4
      have f2 := D6.vf 2
      have f3 := D6.vf 3
      have f4 := D6.vf 4
      have hTV : ¬ T = V := by omega
      have hVT' : ¬ V = T := by omega
      clear kT hD za zb zc
      go_upto_region 33 with fail
      refine gen_world fun W8 hW8 => ?_
      have D8 : DQ w N L V W8 [sabS, p, n, a, b, c] ⟨(proI p : Int), (k : Int), ta, tb, tc⟩ := by
        rw [hW8]
        exact ((D6.set 2 (.string ta) ⟨(proI p : Int), (k : Int), ta, ⟨#[]⟩, ⟨#[]⟩⟩ (by simp [recA])).set 3 (.string tb) ⟨(proI p : Int), (k : Int), ta, tb, ⟨#[]⟩⟩ (by simp [recA])).set 4 (.string tc) ⟨(proI p : Int), (k : Int), ta, tb, tc⟩ (by simp [recA])
      clear hW8 D6 t0 t1 t2 v2 v3 v4 f2 f3 f4 hVT hTV hVT'
      obtain ⟨r0, r1, r2, r3, r4⟩ : W8.cell? ⟨w.heap.size, 0, none⟩ = some (.int .i64 0) ∧ W8.cell? ⟨w.heap.size, 1, none⟩ = some (.int .i64 0) ∧ W8.cell? ⟨w.heap.size, 2, none⟩ = some (.string ⟨#[]⟩) ∧ W8.cell? ⟨w.heap.size, 3, none⟩ = some (.string ⟨#[]⟩) ∧ W8.cell? ⟨w.heap.size, 4, none⟩ = some (.string ⟨#[]⟩) := ⟨D8.rc 0, D8.rc 1, D8.rc 2, D8.rc 3, D8.rc 4⟩
      obtain ⟨n0, n1, n2, n3, n4⟩ : W8.cell? ⟨V, 0, none⟩ = some (.int .i64 (proI p : Int)) ∧ W8.cell? ⟨V, 1, none⟩ = some (.int .i64 (k : Int)) ∧ W8.cell? ⟨V, 2, none⟩ = some (.string ta) ∧ W8.cell? ⟨V, 3, none⟩ = some (.string tb) ∧ W8.cell? ⟨V, 4, none⟩ = some (.string tc) := ⟨D8.vc 0, D8.vc 1, D8.vc 2, D8.vc 3, D8.vc 4⟩
      have g0 := D8.rf 0
      have g1 := D8.rf 1
      have g2 := D8.rf 2
      have g3 := D8.rf 3
      have g4 := D8.rf 4
      go_wp2
      obtain ⟨W9, hW9, k9, hb9⟩ := D8.ret5 (.int .i64 (proI p : Int)) (.int .i64 (k : Int)) (.string ta) (.string tb) (.string tc)
      rw [← hW9]
      clear hW9 r0 r1 r2 r3 r4 g0 g1 g2 g3 g4 n0 n1 n2 n3 n4 D8
      have c0 : W9.cell? ⟨w.heap.size, 0, none⟩ = some (.int .i64 (proI p : Int)) := blk_cell k9 0
      have c1 : W9.cell? ⟨w.heap.size, 1, none⟩ = some (.int .i64 (k : Int)) := blk_cell k9 1
      have c2 : W9.cell? ⟨w.heap.size, 2, none⟩ = some (.string ta) := blk_cell k9 2
      have c3 : W9.cell? ⟨w.heap.size, 3, none⟩ = some (.string tb) := blk_cell k9 3
      have c4 : W9.cell? ⟨w.heap.size, 4, none⟩ = some (.string tc) := blk_cell k9 4
      exact bodyPost_ret (v := drV (.ok ⟨(proI p : Int), (k : Int), ta, tb, tc⟩)) (by simp [results, Tryz.results7, go_sem, c0, c1, c2, c3, c4, drV, recV, noR]) rfl ⟨rfl, hb9⟩
theorem qDecode_c (s : ByteArray) (w : World) : Calls Tryz.prog 7 #[.string s] w fun x w' => x = .returned (drV (decR s)) ∧ Below w.heap.size w w' := by
  by_cases hs : 2000 < s.size
  · have : decR s = .bad 4 := by unfold decR; rw [if_pos hs]
    rw [this]
    exact qDec_long s hs w
  have hs2 : s.size ≤ 2000 := by omega
  by_cases hf : (splitS 36 s).length ≠ 6 ∨ ∃ x l, splitS 36 s = x :: l ∧ x ≠ sabS
  · rw [decR_form s hf]
    exact qDec_form s hs2 hf w
  · obtain ⟨p, n, a, b, c, hL⟩ : ∃ p n a b c, splitS 36 s = [sabS, p, n, a, b, c] := by
      generalize splitS 36 s = LS at hf
      match LS with
      | [x, p, n, a, b, c] =>
        by_cases hx : x = sabS
        · exact ⟨p, n, a, b, c, by rw [hx]⟩
        · exact absurd (.inr ⟨x, _, rfl, hx⟩) hf
      | [] => exact absurd (.inl (by simp)) hf
      | [_] => exact absurd (.inl (by simp)) hf
      | [_, _] => exact absurd (.inl (by simp)) hf
      | [_, _, _] => exact absurd (.inl (by simp)) hf
      | [_, _, _, _] => exact absurd (.inl (by simp)) hf
      | [_, _, _, _, _] => exact absurd (.inl (by simp)) hf
      | _ :: _ :: _ :: _ :: _ :: _ :: _ :: _ => exact absurd (.inl (by simp)) hf
    have hz : ∀ x, x ∈ [sabS, p, n, a, b, c] → x.size ≤ 2000 := fun x hx => by
      have := split_size s x (by rw [hL]; exact hx)
      omega
    exact qDec_c s hs2 p n a b c hL ⟨hz _ (by simp), hz _ (by simp), hz _ (by simp), hz _ (by simp), hz _ (by simp)⟩ w
end Go.Proofs.YtkbgcmfldfbcgaaGreatDoor

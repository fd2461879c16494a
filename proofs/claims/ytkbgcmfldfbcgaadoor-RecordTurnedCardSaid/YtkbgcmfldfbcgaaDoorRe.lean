/- record.Decode. -/
import Derived.Test.YtkbgcmfldfbcgaaDoorRd
import Derived.ScopeJumps
import Derived.WalkMore
import Derived.Laws.ResultCell
namespace Go
section
variable {P : Program} {a : Act} {w : World} {Q : Exit → Act → World → Prop}
/-- A scope in which a run jumps once at most, forward: what stands behind the label is walked at the jump. -/
theorem wp_scope_once {c rest : Code} (l : Nat) (hf : findLabel c l = some rest)
    (first : c.wp P (Exit.jump l (fun a w => rest.wp P (Exit.jump l (fun _ _ => False) Q) a w) Q) a w) : (Code.scope c).wp P Q a w := by
  refine wp_scope_jumps l (fun a w => rest.wp P (Exit.jump l (fun _ _ => False) Q) a w) (fun _ _ => 0) hf first ?_
  intro a w h
  refine wp_mono h ?_
  intro e a w q
  cases e with
  | goto l' => exact absurd q.2 (by simp)
  | normal => exact q
  | exit id => exact q
  | ret => exact q
  | panic ch => exact q
  | outgrown => exact q
end
end Go
namespace Go.Proofs.YtkbgcmfldfbcgaaDoor
open Go.RowKit
set_option maxRecDepth 100000
set_option linter.unusedSimpArgs false
set_option linter.unusedVariables false
/-- A record of nothing. -/
def noR : Rcd := ⟨0, 0, ⟨#[]⟩, ⟨#[]⟩, ⟨#[]⟩⟩
def drV : DR → Value
  | .ok r => .tuple #[recV r, .int .i64 0]
  | .bad e => .tuple #[recV noR, .int .i64 e]
abbrev MaxL (w : World) : Prop := ∃ m : Int, w.cell? ⟨0, 0, none⟩ = some (.int .i64 m)
def strsV (l : List ByteArray) : Array Value := (l.map Value.string).toArray
theorem Split_c (s : ByteArray) (hs : s.size ≤ 2000) (w : World) (hm : MaxL w) : Calls Tryd.prog 12 #[.string s, .string ⟨#[36]⟩] w fun e w' =>
      e = .returned (.slice (some ⟨w.heap.size, 0, none⟩) (splitS 36 s).length (splitS 36 s).length) ∧ w'.heap[w.heap.size]? = some (.cells (strsV (splitS 36 s)) 9 (0, 0)) ∧ Below w.heap.size w w' := by
  obtain ⟨m, hm⟩ := hm
  refine (Tryd.strings_Split s ⟨#[36]⟩ m w (by omega) hm (by decide)).mono ?_
  rintro e w' ⟨rfl, rfl⟩
  have h := splitB_is 36 s
  have hl := splitS_length 36 s
  refine ⟨by rw [hl], ?_, (Below.refl _ _).alloc (Nat.le_refl _) _⟩
  first | exact blk_new _ _ | (rw [h]; exact blk_new _ _)
theorem rDec_long (s : ByteArray) (h : 2000 < s.size) (w : World) : Calls Tryd.prog 6 #[.string s] w fun x w' => x = .returned (drV (.bad 4)) ∧ Below w.heap.size w w' := by
  have h2 : 2000 < (s.size : Int) := by omega
  go_enter Tryd.func6, Tryd.ntmps6
  go_wp2
  refine wp_scope_once 0 rfl ?_
  go_wp2
  go_step3
  refine ⟨rfl, ?_⟩
  go_wp2
  simp only [Exit.jump]
  exact bodyPost_ret (v := drV (.bad 4)) (by simp [results, Tryd.results6, go_sem, drV, recV, noR]) rfl ⟨rfl, by (repeat (first | exact Below.refl _ _ | (refine bl_alloc ?_ _) | (refine bl_drewN ?_ _) | (refine bl_drew ?_) | (refine bl_call (by assumption) ?_) | (refine bl_set _ _ (by simp <;> omega) ?_) | assumption))⟩
/-- What an opened text is, and its error. -/
def decT (s : ByteArray) (t : ByteArray) (e : Int) : Prop := (e = 0 ∧ decS s = some t) ∨ (e = 5 ∧ decS s = none)
theorem bDec_c (s : ByteArray) (hs : s.size ≤ 2000) (w : World) : Calls Tryd.prog 15 #[.string s] w fun x w' => (∃ t e, x = .returned (.tuple #[.string t, .int .i64 e]) ∧ decT s t e) ∧ Below w.heap.size w w' := by
  refine (Decode_c s hs w).mono ?_
  rintro x w' ⟨rfl, hb⟩
  refine ⟨?_, hb⟩
  unfold decT decS
  cases decL s.data.toList with
  | none => exact ⟨_, _, rfl, .inr ⟨rfl, rfl⟩⟩
  | some t => exact ⟨_, _, rfl, .inl ⟨rfl, rfl⟩⟩
def recA (r : Rcd) : Array Value := #[.int .i64 r.p, .int .i64 r.n, .string r.a, .string r.b, .string r.c]
/-- Where a text is decoded: the result's block, the record's, the list's. -/
structure DS (w : World) (V L : Nat) (W : World) (l : Array Value) (r : Rcd) : Prop where
  kR : W.heap[w.heap.size]? = some (.cells (recA noR) 23 (0, 0))
  kV : W.heap[V]? = some (.cells (recA r) 23 (0, 0))
  kL : W.heap[L]? = some (.cells l 9 (0, 0))
  hA : Below w.heap.size w W
  hV : w.heap.size < V
  hL : V < L
section
variable {w W w1 : World} {V L : Nat} {l : Array Value} {r : Rcd}
theorem DS.grow (h : DS w V L W l r) (hb : Below W.heap.size W w1) : DS w V L w1 l r := ⟨grow_blk hb h.kR, grow_blk hb h.kV, grow_blk hb h.kL, bl_call hb h.hA, h.hV, h.hL⟩
theorem DS.set (h : DS w V L W l r) (i : Nat) (v : Value) (r2 : Rcd) (hr : (recA r).setIfInBounds i v = recA r2) : DS w V L (W.setCell ⟨V, i, none⟩ v) l r2 := by
  refine ⟨blk_far h.kR (by have := h.hV; simp; omega) v, ?_, blk_far h.kL (by have := h.hL; simp; omega) v, bl_set _ _ (by have := h.hV; simp; omega) h.hA, h.hV, h.hL⟩
  rw [← hr]
  exact blk_set h.kV i v
theorem DS.setp (h : DS w V L W l r) (x : Int) : DS w V L (W.setCell ⟨V, 0, none⟩ (.int .i64 x)) l { r with p := x } := h.set 0 _ _ (by simp [recA])
theorem DS.setn (h : DS w V L W l r) (x : Int) : DS w V L (W.setCell ⟨V, 1, none⟩ (.int .i64 x)) l { r with n := x } := h.set 1 _ _ (by simp [recA])
theorem DS.seta (h : DS w V L W l r) (x : ByteArray) : DS w V L (W.setCell ⟨V, 2, none⟩ (.string x)) l { r with a := x } := h.set 2 _ _ (by simp [recA])
theorem DS.setb (h : DS w V L W l r) (x : ByteArray) : DS w V L (W.setCell ⟨V, 3, none⟩ (.string x)) l { r with b := x } := h.set 3 _ _ (by simp [recA])
theorem DS.setc (h : DS w V L W l r) (x : ByteArray) : DS w V L (W.setCell ⟨V, 4, none⟩ (.string x)) l { r with c := x } := h.set 4 _ _ (by simp [recA])
theorem DS.vc (h : DS w V L W l r) (i : Nat) : W.cell? ⟨V, i, none⟩ = (recA r)[i]? := blk_cell h.kV i
theorem DS.vf (h : DS w V L W l r) (i : Nat) : W.frozen? ⟨V, i, none⟩ = false := blk_frozen h.kV i
theorem DS.rc (h : DS w V L W l r) (i : Nat) : W.cell? ⟨w.heap.size, i, none⟩ = (recA noR)[i]? := blk_cell h.kR i
theorem DS.rf (h : DS w V L W l r) (i : Nat) : W.frozen? ⟨w.heap.size, i, none⟩ = false := blk_frozen h.kR i
theorem DS.lc (h : DS w V L W l r) (i : Nat) : W.cell? ⟨L, i, none⟩ = l[i]? := blk_cell h.kL i
end
theorem DS.ret5 {w W : World} {V L : Nat} {l : Array Value} {r : Rcd} (h : DS w V L W l r) (v0 v1 v2 v3 v4 : Value) : ∃ W3, W3 = ((((W.setCell ⟨w.heap.size, 0, none⟩ v0).setCell ⟨w.heap.size, 1, none⟩ v1).setCell ⟨w.heap.size, 2, none⟩ v2).setCell ⟨w.heap.size, 3, none⟩ v3).setCell ⟨w.heap.size, 4, none⟩ v4 ∧ W3.heap[w.heap.size]? = some (.cells #[v0, v1, v2, v3, v4] 23 (0, 0)) ∧ Below w.heap.size w W3 := by
  refine ⟨_, rfl, ?_, ?_⟩
  · exact blk_set (blk_set (blk_set (blk_set (blk_set h.kR 0 v0) 1 v1) 2 v2) 3 v3) 4 v4
  · exact bl_set _ _ (Nat.le_refl _) (bl_set _ _ (Nat.le_refl _) (bl_set _ _ (Nat.le_refl _) (bl_set _ _ (Nat.le_refl _) (bl_set _ _ (Nat.le_refl _) h.hA))))
theorem rDec_form (s : ByteArray) (h : s.size ≤ 2000) (hf : (splitS 36 s).length ≠ 6 ∨ ∃ x l, splitS 36 s = x :: l ∧ x ≠ sabS) (w : World) (hm : MaxL w) : Calls Tryd.prog 6 #[.string s] w fun x w' => x = .returned (drV (.bad 4)) ∧ Below w.heap.size w w' := by
  have hS := fun w hm => Split_c s h w hm
  generalize splitS 36 s = LS at hS hf
  have h2 : ¬ 2000 < (s.size : Int) := by omega
  by_cases h6 : LS.length = 6
  rotate_left
  · have q6 : ¬ (LS.length : Int) = 6 := by omega
    have d6 : ((LS.length : Int) == 6) = false := by rw [beq_eq_false_iff_ne]; exact q6
    generalize LS.length = LL at hS q6 d6
    clear hf h6
    go_enter Tryd.func6, Tryd.ntmps6
    go_wp2
    refine wp_scope_once 0 rfl ?_
    go_upto_region 6 with fail
    refine gen_world fun W hW => ?_
    have kR : W.heap[w.heap.size]? = some (.cells (recA noR) 23 (0, 0)) := by subst hW; exact blk_alloc (blk_new _ _) _
    obtain ⟨V, hV⟩ : ∃ V, V = w.heap.size + 1 := ⟨_, rfl⟩
    rw [← hV]
    have kV : W.heap[V]? = some (.cells (recA noR) 23 (0, 0)) := by subst hW; exact blk_new' (by rw [hV]; exact (Array.size_push _).symm) _
    have hAl : Below w.heap.size w W := by subst hW; (repeat (first | exact Below.refl _ _ | (refine bl_alloc ?_ _) | (refine bl_drewN ?_ _) | (refine bl_drew ?_) | (refine bl_call (by assumption) ?_) | (refine bl_set _ _ (by simp <;> omega) ?_) | assumption))
    have hm2 : MaxL W := by
      obtain ⟨m, hm⟩ := hm
      exact ⟨m, grow_cell hAl hm⟩
    clear hW hm
    have hV1 : w.heap.size < V := by omega
    clear hV
    go_upto_region 7 with (go_at_call 12; refine (hS _ hm2).mono ?_; rintro e w5 ⟨rfl, kL, hb⟩)
    obtain ⟨L, hL⟩ : ∃ L, L = W.heap.size := ⟨_, rfl⟩
    have hVL : V < L := by rw [hL]; exact blk_lt kV
    rw [← hL] at kL ⊢
    have D0 : DS w V L w5 (strsV LS) noR := ⟨grow_blk hb kR, grow_blk hb kV, kL, bl_call hb hAl, hV1, hVL⟩
    clear kL hb kR kV hAl hm2 hL hVL hS hV1
    have r0 : w5.cell? ⟨w.heap.size, 0, none⟩ = some (.int .i64 0) := D0.rc 0
    have r1 : w5.cell? ⟨w.heap.size, 1, none⟩ = some (.int .i64 0) := D0.rc 1
    have r2 : w5.cell? ⟨w.heap.size, 2, none⟩ = some (.string ⟨#[]⟩) := D0.rc 2
    have r3 : w5.cell? ⟨w.heap.size, 3, none⟩ = some (.string ⟨#[]⟩) := D0.rc 3
    have r4 : w5.cell? ⟨w.heap.size, 4, none⟩ = some (.string ⟨#[]⟩) := D0.rc 4
    have g0 := D0.rf 0
    have g1 := D0.rf 1
    have g2 := D0.rf 2
    have g3 := D0.rf 3
    have g4 := D0.rf 4
    go_wp2
    go_step3
    refine ⟨rfl, ?_⟩
    go_wp2
    simp only [Exit.jump]
    obtain ⟨W3, hW3, k3, hb3⟩ := D0.ret5 (.int .i64 0) (.int .i64 0) (.string ⟨#[]⟩) (.string ⟨#[]⟩) (.string ⟨#[]⟩)
    rw [← hW3]
    clear hW3 r0 r1 r2 r3 r4 g0 g1 g2 g3 g4 D0
    have c0 : W3.cell? ⟨w.heap.size, 0, none⟩ = some (.int .i64 0) := blk_cell k3 0
    have c1 : W3.cell? ⟨w.heap.size, 1, none⟩ = some (.int .i64 0) := blk_cell k3 1
    have c2 : W3.cell? ⟨w.heap.size, 2, none⟩ = some (.string ⟨#[]⟩) := blk_cell k3 2
    have c3 : W3.cell? ⟨w.heap.size, 3, none⟩ = some (.string ⟨#[]⟩) := blk_cell k3 3
    have c4 : W3.cell? ⟨w.heap.size, 4, none⟩ = some (.string ⟨#[]⟩) := blk_cell k3 4
    exact bodyPost_ret (v := drV (.bad 4)) (by simp [results, Tryd.results6, go_sem, c0, c1, c2, c3, c4, drV, recV, noR]) rfl ⟨rfl, hb3⟩
  · obtain ⟨x, l, rfl, hx⟩ : ∃ x l, LS = x :: l ∧ x ≠ sabS := by
      rcases hf with q | q
      · exact absurd h6 q
      · exact q
    rw [h6] at hS
    have hx2 : ¬ x = ⟨#[115, 97, 98]⟩ := hx
    have hx3 : (x.toList == [115, 97, 98]) = false := by
      rw [beq_eq_false_iff_ne, ByteArray.toList_eq]
      intro q
      exact hx (ByteArray.ext (Array.ext' q))
    have hx4 : ¬ x.toList = [115, 97, 98] := by simpa using hx3
    clear hx h6
    go_enter Tryd.func6, Tryd.ntmps6
    go_wp2
    refine wp_scope_once 0 rfl ?_
    go_upto_region 6 with fail
    refine gen_world fun W hW => ?_
    have kR : W.heap[w.heap.size]? = some (.cells (recA noR) 23 (0, 0)) := by subst hW; exact blk_alloc (blk_new _ _) _
    obtain ⟨V, hV⟩ : ∃ V, V = w.heap.size + 1 := ⟨_, rfl⟩
    rw [← hV]
    have kV : W.heap[V]? = some (.cells (recA noR) 23 (0, 0)) := by subst hW; exact blk_new' (by rw [hV]; exact (Array.size_push _).symm) _
    have hAl : Below w.heap.size w W := by subst hW; (repeat (first | exact Below.refl _ _ | (refine bl_alloc ?_ _) | (refine bl_drewN ?_ _) | (refine bl_drew ?_) | (refine bl_call (by assumption) ?_) | (refine bl_set _ _ (by simp <;> omega) ?_) | assumption))
    have hm2 : MaxL W := by
      obtain ⟨m, hm⟩ := hm
      exact ⟨m, grow_cell hAl hm⟩
    clear hW hm
    have hV1 : w.heap.size < V := by omega
    clear hV
    go_upto_region 7 with (go_at_call 12; refine (hS _ hm2).mono ?_; rintro e w5 ⟨rfl, kL, hb⟩)
    obtain ⟨L, hL⟩ : ∃ L, L = W.heap.size := ⟨_, rfl⟩
    have hVL : V < L := by rw [hL]; exact blk_lt kV
    rw [← hL] at kL ⊢
    have D0 : DS w V L w5 (strsV (x :: l)) noR := ⟨grow_blk hb kR, grow_blk hb kV, kL, bl_call hb hAl, hV1, hVL⟩
    clear kL hb kR kV hAl hm2 hL hVL hS hV1
    have l0 : w5.cell? ⟨L, 0, none⟩ = some (.string x) := D0.lc 0
    have r0 : w5.cell? ⟨w.heap.size, 0, none⟩ = some (.int .i64 0) := D0.rc 0
    have r1 : w5.cell? ⟨w.heap.size, 1, none⟩ = some (.int .i64 0) := D0.rc 1
    have r2 : w5.cell? ⟨w.heap.size, 2, none⟩ = some (.string ⟨#[]⟩) := D0.rc 2
    have r3 : w5.cell? ⟨w.heap.size, 3, none⟩ = some (.string ⟨#[]⟩) := D0.rc 3
    have r4 : w5.cell? ⟨w.heap.size, 4, none⟩ = some (.string ⟨#[]⟩) := D0.rc 4
    have g0 := D0.rf 0
    have g1 := D0.rf 1
    have g2 := D0.rf 2
    have g3 := D0.rf 3
    have g4 := D0.rf 4
    go_wp2
    go_step3
    refine ⟨rfl, ?_⟩
    go_wp2
    simp only [Exit.jump]
    obtain ⟨W3, hW3, k3, hb3⟩ := D0.ret5 (.int .i64 0) (.int .i64 0) (.string ⟨#[]⟩) (.string ⟨#[]⟩) (.string ⟨#[]⟩)
    rw [← hW3]
    clear hW3 r0 r1 r2 r3 r4 g0 g1 g2 g3 g4 D0
    have c0 : W3.cell? ⟨w.heap.size, 0, none⟩ = some (.int .i64 0) := blk_cell k3 0
    have c1 : W3.cell? ⟨w.heap.size, 1, none⟩ = some (.int .i64 0) := blk_cell k3 1
    have c2 : W3.cell? ⟨w.heap.size, 2, none⟩ = some (.string ⟨#[]⟩) := blk_cell k3 2
    have c3 : W3.cell? ⟨w.heap.size, 3, none⟩ = some (.string ⟨#[]⟩) := blk_cell k3 3
    have c4 : W3.cell? ⟨w.heap.size, 4, none⟩ = some (.string ⟨#[]⟩) := blk_cell k3 4
    exact bodyPost_ret (v := drV (.bad 4)) (by simp [results, Tryd.results6, go_sem, c0, c1, c2, c3, c4, drV, recV, noR]) rfl ⟨rfl, hb3⟩
set_option maxHeartbeats 4000000 in
theorem rDec_c (s : ByteArray) (h : s.size ≤ 2000) (p n a b c : ByteArray) (hL : splitS 36 s = [sabS, p, n, a, b, c]) (hz : p.size ≤ 2000 ∧ n.size ≤ 2000 ∧ a.size ≤ 2000 ∧ b.size ≤ 2000 ∧ c.size ≤ 2000) (w : World) (hm : MaxL w) : Calls Tryd.prog 6 #[.string s] w fun x w' => x = .returned (drV (decR s)) ∧ Below w.heap.size w w' := by
  have h2 : ¬ 2000 < (s.size : Int) := by omega
  obtain ⟨zp, zn, za, zb, zc⟩ := hz
  have hS := fun w hm => Split_c s h w hm
  rw [hL] at hS
  have hl : ([sabS, p, n, a, b, c] : List ByteArray).length = 6 := rfl
  rw [hl] at hS
  have hN := fun w => Named_c p w
  have hU := fun w => recNum_c n zn w
  have hA := fun w => bDec_c a za w
  have hB := fun w => bDec_c b zb w
  have hC := fun w => bDec_c c zc w
  unfold decR
  rw [if_neg (by omega), hL]
  simp only []
  rw [if_neg (by simp)]
  clear hL hl zp zn za zb zc
  generalize hD : (if proI p = 0 then DR.bad 9 else _ : DR) = D
  replace hD := Lib.hid hD
  replace hN := Lib.hid hN
  replace hU := Lib.hid hU
  replace hA := Lib.hid hA
  replace hB := Lib.hid hB
  replace hC := Lib.hid hC
  go_enter Tryd.func6, Tryd.ntmps6
  go_wp2
  refine wp_scope_once 0 rfl ?_
  go_upto_region 6 with fail
  refine gen_world fun W hW => ?_
  have kR : W.heap[w.heap.size]? = some (.cells (recA noR) 23 (0, 0)) := by subst hW; exact blk_alloc (blk_new _ _) _
  obtain ⟨V, hV⟩ : ∃ V, V = w.heap.size + 1 := ⟨_, rfl⟩
  rw [← hV]
  have kV : W.heap[V]? = some (.cells (recA noR) 23 (0, 0)) := by subst hW; exact blk_new' (by rw [hV]; exact (Array.size_push _).symm) _
  have hAl : Below w.heap.size w W := by subst hW; (repeat (first | exact Below.refl _ _ | (refine bl_alloc ?_ _) | (refine bl_drewN ?_ _) | (refine bl_drew ?_) | (refine bl_call (by assumption) ?_) | (refine bl_set _ _ (by simp <;> omega) ?_) | assumption))
  have hm2 : MaxL W := by
    obtain ⟨m, hm⟩ := hm
    exact ⟨m, grow_cell hAl hm⟩
  clear hW hm
  have hV1 : w.heap.size < V := by omega
  clear hV
  go_upto_region 9 with (go_at_call 12; refine (hS _ hm2).mono ?_; rintro e w5 ⟨rfl, kL, hb⟩; have l0 : w5.cell? ⟨W.heap.size, 0, none⟩ = some (.string ⟨#[115, 97, 98]⟩) := blk_cell kL 0)
  obtain ⟨L, hL⟩ : ∃ L, L = W.heap.size := ⟨_, rfl⟩
  have hVL : V < L := by rw [hL]; exact blk_lt kV
  rw [← hL] at kL ⊢
  have D0 : DS w V L w5 (strsV [sabS, p, n, a, b, c]) noR := ⟨grow_blk hb kR, grow_blk hb kV, kL, bl_call hb hAl, hV1, hVL⟩
  clear kL hb l0 kR kV hAl hm2 hL hVL hS hV1
  have l1 : w5.cell? ⟨L, 1, none⟩ = some (.string p) := D0.lc 1
  go_upto_region 10 with (go_at_call 13; refine (hN.out _).mono ?_; rintro e w6 ⟨rfl, hb⟩; have D1 := D0.grow hb; have v0 : w6.cell? ⟨V, 0, none⟩ = some (.int .i64 0) := D1.vc 0; have f0 := D1.vf 0)
  clear D0 l1 hb
  refine gen_world fun W2 hW2 => ?_
  have D2 : DS w V L W2 (strsV [sabS, p, n, a, b, c]) ⟨proI p, 0, ⟨#[]⟩, ⟨#[]⟩, ⟨#[]⟩⟩ := by rw [hW2]; exact D1.setp _
  clear hW2 v0 f0 D1 hN
  by_cases hp : proI p = 0
  · have e9 : nmE p = 9 := by simp [nmE, hp]
    rw [e9]
    have hd : D = .bad 9 := by rw [← hD.out, if_pos hp]
    clear hD hp e9
    subst hd
    have r0 : W2.cell? ⟨w.heap.size, 0, none⟩ = some (.int .i64 0) := D2.rc 0
    have r1 : W2.cell? ⟨w.heap.size, 1, none⟩ = some (.int .i64 0) := D2.rc 1
    have r2 : W2.cell? ⟨w.heap.size, 2, none⟩ = some (.string ⟨#[]⟩) := D2.rc 2
    have r3 : W2.cell? ⟨w.heap.size, 3, none⟩ = some (.string ⟨#[]⟩) := D2.rc 3
    have r4 : W2.cell? ⟨w.heap.size, 4, none⟩ = some (.string ⟨#[]⟩) := D2.rc 4
    have g0 := D2.rf 0
    have g1 := D2.rf 1
    have g2 := D2.rf 2
    have g3 := D2.rf 3
    have g4 := D2.rf 4
    go_wp2
    go_step3
    refine ⟨rfl, ?_⟩
    go_wp2
    simp only [Exit.jump]
    obtain ⟨W3, hW3, k3, hb3⟩ := D2.ret5 (.int .i64 0) (.int .i64 0) (.string ⟨#[]⟩) (.string ⟨#[]⟩) (.string ⟨#[]⟩)
    rw [← hW3]
    clear hW3 r0 r1 r2 r3 r4 g0 g1 g2 g3 g4 D2
    have c0 : W3.cell? ⟨w.heap.size, 0, none⟩ = some (.int .i64 0) := blk_cell k3 0
    have c1 : W3.cell? ⟨w.heap.size, 1, none⟩ = some (.int .i64 0) := blk_cell k3 1
    have c2 : W3.cell? ⟨w.heap.size, 2, none⟩ = some (.string ⟨#[]⟩) := blk_cell k3 2
    have c3 : W3.cell? ⟨w.heap.size, 3, none⟩ = some (.string ⟨#[]⟩) := blk_cell k3 3
    have c4 : W3.cell? ⟨w.heap.size, 4, none⟩ = some (.string ⟨#[]⟩) := blk_cell k3 4
    exact bodyPost_ret (v := drV (.bad 9)) (by simp [results, Tryd.results6, go_sem, c0, c1, c2, c3, c4, drV, recV, noR]) rfl ⟨rfl, hb3⟩
  have e0 : nmE p = 0 := by simp [nmE, hp]
  rw [e0]
  have hd := hD.out
  rw [if_neg hp] at hd
  replace hD := Lib.hid hd
  clear hd hp e0
  generalize (proI p : Int) = vp at D2 hD ⊢
  have l1 : W2.cell? ⟨L, 2, none⟩ = some (.string n) := D2.lc 2
  go_upto_region 12 with (go_at_call 14; refine (hU.out _).mono ?_; rintro e w6 ⟨⟨vn, en, rfl, hn⟩, hb⟩; have D3 := D2.grow hb; have v0 : w6.cell? ⟨V, 1, none⟩ = some (.int .i64 0) := D3.vc 1; have f0 := D3.vf 1)
  clear D2 l1 hb hU
  refine gen_world fun W4 hW4 => ?_
  have D4 : DS w V L W4 (strsV [sabS, p, n, a, b, c]) ⟨vp, vn, ⟨#[]⟩, ⟨#[]⟩, ⟨#[]⟩⟩ := by rw [hW4]; exact D3.setn _
  clear hW4 v0 f0 D3
  rcases hn with ⟨k, hk, rfl, rfl⟩ | ⟨hk, rfl⟩
  rotate_left
  · have hd : D = .bad 7 := by rw [← hD.out, hk]
    clear hD hk
    subst hd
    have r0 : W4.cell? ⟨w.heap.size, 0, none⟩ = some (.int .i64 0) := D4.rc 0
    have r1 : W4.cell? ⟨w.heap.size, 1, none⟩ = some (.int .i64 0) := D4.rc 1
    have r2 : W4.cell? ⟨w.heap.size, 2, none⟩ = some (.string ⟨#[]⟩) := D4.rc 2
    have r3 : W4.cell? ⟨w.heap.size, 3, none⟩ = some (.string ⟨#[]⟩) := D4.rc 3
    have r4 : W4.cell? ⟨w.heap.size, 4, none⟩ = some (.string ⟨#[]⟩) := D4.rc 4
    have g0 := D4.rf 0
    have g1 := D4.rf 1
    have g2 := D4.rf 2
    have g3 := D4.rf 3
    have g4 := D4.rf 4
    go_wp2
    go_step3
    refine ⟨rfl, ?_⟩
    go_wp2
    simp only [Exit.jump]
    obtain ⟨W3, hW3, k3, hb3⟩ := D4.ret5 (.int .i64 0) (.int .i64 0) (.string ⟨#[]⟩) (.string ⟨#[]⟩) (.string ⟨#[]⟩)
    rw [← hW3]
    clear hW3 r0 r1 r2 r3 r4 g0 g1 g2 g3 g4 D4
    have c0 : W3.cell? ⟨w.heap.size, 0, none⟩ = some (.int .i64 0) := blk_cell k3 0
    have c1 : W3.cell? ⟨w.heap.size, 1, none⟩ = some (.int .i64 0) := blk_cell k3 1
    have c2 : W3.cell? ⟨w.heap.size, 2, none⟩ = some (.string ⟨#[]⟩) := blk_cell k3 2
    have c3 : W3.cell? ⟨w.heap.size, 3, none⟩ = some (.string ⟨#[]⟩) := blk_cell k3 3
    have c4 : W3.cell? ⟨w.heap.size, 4, none⟩ = some (.string ⟨#[]⟩) := blk_cell k3 4
    exact bodyPost_ret (v := drV (.bad 7)) (by simp [results, Tryd.results6, go_sem, c0, c1, c2, c3, c4, drV, recV, noR]) rfl ⟨rfl, hb3⟩
  have hd := hD.out
  rw [hk] at hd
  simp only at hd
  replace hD := Lib.hid hd
  clear hd hk
  generalize (k : Int) = vn at D4 hD ⊢
  have l1 : W4.cell? ⟨L, 3, none⟩ = some (.string a) := D4.lc 3
  go_upto_region 14 with (go_at_call 15; refine (hA.out _).mono ?_; rintro e w6 ⟨⟨ta, en, rfl, hn⟩, hb⟩; have G5 := D4.grow hb; have v0 : w6.cell? ⟨V, 2, none⟩ = some (.string ⟨#[]⟩) := G5.vc 2; have f0 := G5.vf 2)
  clear D4 l1 hb hA
  refine gen_world fun W5 hW5 => ?_
  have D5 : DS w V L W5 (strsV [sabS, p, n, a, b, c]) ⟨vp, vn, ta, ⟨#[]⟩, ⟨#[]⟩⟩ := by rw [hW5]; exact G5.seta _
  clear hW5 v0 f0 G5
  rcases hn with ⟨rfl, hk⟩ | ⟨rfl, hk⟩
  rotate_left
  · have hd : D = .bad 5 := by rw [← hD.out, hk]
    clear hD hk
    subst hd
    have r0 : W5.cell? ⟨w.heap.size, 0, none⟩ = some (.int .i64 0) := D5.rc 0
    have r1 : W5.cell? ⟨w.heap.size, 1, none⟩ = some (.int .i64 0) := D5.rc 1
    have r2 : W5.cell? ⟨w.heap.size, 2, none⟩ = some (.string ⟨#[]⟩) := D5.rc 2
    have r3 : W5.cell? ⟨w.heap.size, 3, none⟩ = some (.string ⟨#[]⟩) := D5.rc 3
    have r4 : W5.cell? ⟨w.heap.size, 4, none⟩ = some (.string ⟨#[]⟩) := D5.rc 4
    have g0 := D5.rf 0
    have g1 := D5.rf 1
    have g2 := D5.rf 2
    have g3 := D5.rf 3
    have g4 := D5.rf 4
    go_wp2
    go_step3
    refine ⟨rfl, ?_⟩
    go_wp2
    simp only [Exit.jump]
    obtain ⟨W3, hW3, k3, hb3⟩ := D5.ret5 (.int .i64 0) (.int .i64 0) (.string ⟨#[]⟩) (.string ⟨#[]⟩) (.string ⟨#[]⟩)
    rw [← hW3]
    clear hW3 r0 r1 r2 r3 r4 g0 g1 g2 g3 g4 D5
    have c0 : W3.cell? ⟨w.heap.size, 0, none⟩ = some (.int .i64 0) := blk_cell k3 0
    have c1 : W3.cell? ⟨w.heap.size, 1, none⟩ = some (.int .i64 0) := blk_cell k3 1
    have c2 : W3.cell? ⟨w.heap.size, 2, none⟩ = some (.string ⟨#[]⟩) := blk_cell k3 2
    have c3 : W3.cell? ⟨w.heap.size, 3, none⟩ = some (.string ⟨#[]⟩) := blk_cell k3 3
    have c4 : W3.cell? ⟨w.heap.size, 4, none⟩ = some (.string ⟨#[]⟩) := blk_cell k3 4
    exact bodyPost_ret (v := drV (.bad 5)) (by simp [results, Tryd.results6, go_sem, c0, c1, c2, c3, c4, drV, recV, noR]) rfl ⟨rfl, hb3⟩
  have hd := hD.out
  rw [hk] at hd
  simp only at hd
  replace hD := Lib.hid hd
  clear hd hk
  have v0 : W5.cell? ⟨V, 2, none⟩ = some (.string ta) := D5.vc 2
  by_cases hi : 1 ≤ ta.size ∧ ta.size ≤ 64
  rotate_left
  · have e6 : eo (inside 1 (ta.size : Int) 64) 6 = 6 := by
      have : inside 1 (ta.size : Int) 64 = false := by simp only [inside, decide_eq_false_iff_not]; omega
      rw [this]; rfl
    have hX := fun w => Salt_c ta w
    rw [e6] at hX
    have hd : D = .bad 6 := by rw [← hD.out, if_pos hi]
    clear hD hi e6
    subst hd
    have r0 : W5.cell? ⟨w.heap.size, 0, none⟩ = some (.int .i64 0) := D5.rc 0
    have r1 : W5.cell? ⟨w.heap.size, 1, none⟩ = some (.int .i64 0) := D5.rc 1
    have r2 : W5.cell? ⟨w.heap.size, 2, none⟩ = some (.string ⟨#[]⟩) := D5.rc 2
    have r3 : W5.cell? ⟨w.heap.size, 3, none⟩ = some (.string ⟨#[]⟩) := D5.rc 3
    have r4 : W5.cell? ⟨w.heap.size, 4, none⟩ = some (.string ⟨#[]⟩) := D5.rc 4
    have g0 := D5.rf 0
    have g1 := D5.rf 1
    have g2 := D5.rf 2
    have g3 := D5.rf 3
    have g4 := D5.rf 4
    go_wp2_with (go_at_call 16; refine (hX _).mono ?_; rintro e w6 ⟨rfl, hw6⟩; subst w6)
    go_step3
    refine ⟨rfl, ?_⟩
    go_wp2
    simp only [Exit.jump]
    obtain ⟨W3, hW3, k3, hb3⟩ := D5.ret5 (.int .i64 0) (.int .i64 0) (.string ⟨#[]⟩) (.string ⟨#[]⟩) (.string ⟨#[]⟩)
    rw [← hW3]
    clear hW3 r0 r1 r2 r3 r4 g0 g1 g2 g3 g4 D5
    have c0 : W3.cell? ⟨w.heap.size, 0, none⟩ = some (.int .i64 0) := blk_cell k3 0
    have c1 : W3.cell? ⟨w.heap.size, 1, none⟩ = some (.int .i64 0) := blk_cell k3 1
    have c2 : W3.cell? ⟨w.heap.size, 2, none⟩ = some (.string ⟨#[]⟩) := blk_cell k3 2
    have c3 : W3.cell? ⟨w.heap.size, 3, none⟩ = some (.string ⟨#[]⟩) := blk_cell k3 3
    have c4 : W3.cell? ⟨w.heap.size, 4, none⟩ = some (.string ⟨#[]⟩) := blk_cell k3 4
    exact bodyPost_ret (v := drV (.bad 6)) (by simp [results, Tryd.results6, go_sem, c0, c1, c2, c3, c4, drV, recV, noR]) rfl ⟨rfl, hb3⟩
  have e6 : eo (inside 1 (ta.size : Int) 64) 6 = 0 := by
    have : inside 1 (ta.size : Int) 64 = true := by simp only [inside, decide_eq_true_eq]; omega
    rw [this]; rfl
  have hX := fun w => Salt_c ta w
  rw [e6] at hX
  have hd := hD.out
  rw [if_neg (by simpa using hi)] at hd
  replace hD := Lib.hid hd
  clear hd hi e6
  go_upto_region 17 with (go_at_call 16; refine (hX _).mono ?_; rintro e w6 ⟨rfl, hw6⟩; subst w6)
  clear v0 hX
  have l1 : W5.cell? ⟨L, 4, none⟩ = some (.string b) := D5.lc 4
  go_upto_region 18 with (go_at_call 15; refine (hB.out _).mono ?_; rintro e w6 ⟨⟨tb, en, rfl, hn⟩, hb⟩; have G7 := D5.grow hb; have v0 : w6.cell? ⟨V, 3, none⟩ = some (.string ⟨#[]⟩) := G7.vc 3; have f0 := G7.vf 3)
  clear D5 l1 hb hB
  refine gen_world fun W7 hW7 => ?_
  have D7 : DS w V L W7 (strsV [sabS, p, n, a, b, c]) ⟨vp, vn, ta, tb, ⟨#[]⟩⟩ := by rw [hW7]; exact G7.setb _
  clear hW7 v0 f0 G7
  rcases hn with ⟨rfl, hk⟩ | ⟨rfl, hk⟩
  rotate_left
  · have hd : D = .bad 5 := by rw [← hD.out, hk]
    clear hD hk
    subst hd
    have r0 : W7.cell? ⟨w.heap.size, 0, none⟩ = some (.int .i64 0) := D7.rc 0
    have r1 : W7.cell? ⟨w.heap.size, 1, none⟩ = some (.int .i64 0) := D7.rc 1
    have r2 : W7.cell? ⟨w.heap.size, 2, none⟩ = some (.string ⟨#[]⟩) := D7.rc 2
    have r3 : W7.cell? ⟨w.heap.size, 3, none⟩ = some (.string ⟨#[]⟩) := D7.rc 3
    have r4 : W7.cell? ⟨w.heap.size, 4, none⟩ = some (.string ⟨#[]⟩) := D7.rc 4
    have g0 := D7.rf 0
    have g1 := D7.rf 1
    have g2 := D7.rf 2
    have g3 := D7.rf 3
    have g4 := D7.rf 4
    go_wp2
    go_step3
    refine ⟨rfl, ?_⟩
    go_wp2
    simp only [Exit.jump]
    obtain ⟨W3, hW3, k3, hb3⟩ := D7.ret5 (.int .i64 0) (.int .i64 0) (.string ⟨#[]⟩) (.string ⟨#[]⟩) (.string ⟨#[]⟩)
    rw [← hW3]
    clear hW3 r0 r1 r2 r3 r4 g0 g1 g2 g3 g4 D7
    have c0 : W3.cell? ⟨w.heap.size, 0, none⟩ = some (.int .i64 0) := blk_cell k3 0
    have c1 : W3.cell? ⟨w.heap.size, 1, none⟩ = some (.int .i64 0) := blk_cell k3 1
    have c2 : W3.cell? ⟨w.heap.size, 2, none⟩ = some (.string ⟨#[]⟩) := blk_cell k3 2
    have c3 : W3.cell? ⟨w.heap.size, 3, none⟩ = some (.string ⟨#[]⟩) := blk_cell k3 3
    have c4 : W3.cell? ⟨w.heap.size, 4, none⟩ = some (.string ⟨#[]⟩) := blk_cell k3 4
    exact bodyPost_ret (v := drV (.bad 5)) (by simp [results, Tryd.results6, go_sem, c0, c1, c2, c3, c4, drV, recV, noR]) rfl ⟨rfl, hb3⟩
  have hd := hD.out
  rw [hk] at hd
  simp only at hd
  replace hD := Lib.hid hd
  clear hd hk
  have v0 : W7.cell? ⟨V, 3, none⟩ = some (.string tb) := D7.vc 3
  by_cases hi : tb.size = 32
  rotate_left
  · have e6 : sumE tb = 4 := by simp [sumE, hi]
    have hX := fun w => sum_c tb w
    rw [e6] at hX
    have hd : D = .bad 4 := by rw [← hD.out, if_pos hi]
    clear hD hi e6
    subst hd
    have r0 : W7.cell? ⟨w.heap.size, 0, none⟩ = some (.int .i64 0) := D7.rc 0
    have r1 : W7.cell? ⟨w.heap.size, 1, none⟩ = some (.int .i64 0) := D7.rc 1
    have r2 : W7.cell? ⟨w.heap.size, 2, none⟩ = some (.string ⟨#[]⟩) := D7.rc 2
    have r3 : W7.cell? ⟨w.heap.size, 3, none⟩ = some (.string ⟨#[]⟩) := D7.rc 3
    have r4 : W7.cell? ⟨w.heap.size, 4, none⟩ = some (.string ⟨#[]⟩) := D7.rc 4
    have g0 := D7.rf 0
    have g1 := D7.rf 1
    have g2 := D7.rf 2
    have g3 := D7.rf 3
    have g4 := D7.rf 4
    go_wp2_with (go_at_call 17; refine (hX _).mono ?_; rintro e w6 ⟨rfl, hw6⟩; subst w6)
    go_step3
    refine ⟨rfl, ?_⟩
    go_wp2
    simp only [Exit.jump]
    obtain ⟨W3, hW3, k3, hb3⟩ := D7.ret5 (.int .i64 0) (.int .i64 0) (.string ⟨#[]⟩) (.string ⟨#[]⟩) (.string ⟨#[]⟩)
    rw [← hW3]
    clear hW3 r0 r1 r2 r3 r4 g0 g1 g2 g3 g4 D7
    have c0 : W3.cell? ⟨w.heap.size, 0, none⟩ = some (.int .i64 0) := blk_cell k3 0
    have c1 : W3.cell? ⟨w.heap.size, 1, none⟩ = some (.int .i64 0) := blk_cell k3 1
    have c2 : W3.cell? ⟨w.heap.size, 2, none⟩ = some (.string ⟨#[]⟩) := blk_cell k3 2
    have c3 : W3.cell? ⟨w.heap.size, 3, none⟩ = some (.string ⟨#[]⟩) := blk_cell k3 3
    have c4 : W3.cell? ⟨w.heap.size, 4, none⟩ = some (.string ⟨#[]⟩) := blk_cell k3 4
    exact bodyPost_ret (v := drV (.bad 4)) (by simp [results, Tryd.results6, go_sem, c0, c1, c2, c3, c4, drV, recV, noR]) rfl ⟨rfl, hb3⟩
  have e6 : sumE tb = 0 := by simp [sumE, hi]
  have hX := fun w => sum_c tb w
  rw [e6] at hX
  have hd := hD.out
  rw [if_neg (by simpa using hi)] at hd
  replace hD := Lib.hid hd
  clear hd hi e6
  go_upto_region 21 with (go_at_call 17; refine (hX _).mono ?_; rintro e w6 ⟨rfl, hw6⟩; subst w6)
  clear v0 hX
  have l1 : W7.cell? ⟨L, 5, none⟩ = some (.string c) := D7.lc 5
  go_upto_region 22 with (go_at_call 15; refine (hC.out _).mono ?_; rintro e w6 ⟨⟨tc, en, rfl, hn⟩, hb⟩; have G9 := D7.grow hb; have v0 : w6.cell? ⟨V, 4, none⟩ = some (.string ⟨#[]⟩) := G9.vc 4; have f0 := G9.vf 4)
  clear D7 l1 hb hC
  refine gen_world fun W9 hW9 => ?_
  have D9 : DS w V L W9 (strsV [sabS, p, n, a, b, c]) ⟨vp, vn, ta, tb, tc⟩ := by rw [hW9]; exact G9.setc _
  clear hW9 v0 f0 G9
  rcases hn with ⟨rfl, hk⟩ | ⟨rfl, hk⟩
  rotate_left
  · have hd : D = .bad 5 := by rw [← hD.out, hk]
    clear hD hk
    subst hd
    have r0 : W9.cell? ⟨w.heap.size, 0, none⟩ = some (.int .i64 0) := D9.rc 0
    have r1 : W9.cell? ⟨w.heap.size, 1, none⟩ = some (.int .i64 0) := D9.rc 1
    have r2 : W9.cell? ⟨w.heap.size, 2, none⟩ = some (.string ⟨#[]⟩) := D9.rc 2
    have r3 : W9.cell? ⟨w.heap.size, 3, none⟩ = some (.string ⟨#[]⟩) := D9.rc 3
    have r4 : W9.cell? ⟨w.heap.size, 4, none⟩ = some (.string ⟨#[]⟩) := D9.rc 4
    have g0 := D9.rf 0
    have g1 := D9.rf 1
    have g2 := D9.rf 2
    have g3 := D9.rf 3
    have g4 := D9.rf 4
    go_wp2
    go_step3
    refine ⟨rfl, ?_⟩
    go_wp2
    simp only [Exit.jump]
    obtain ⟨W3, hW3, k3, hb3⟩ := D9.ret5 (.int .i64 0) (.int .i64 0) (.string ⟨#[]⟩) (.string ⟨#[]⟩) (.string ⟨#[]⟩)
    rw [← hW3]
    clear hW3 r0 r1 r2 r3 r4 g0 g1 g2 g3 g4 D9
    have c0 : W3.cell? ⟨w.heap.size, 0, none⟩ = some (.int .i64 0) := blk_cell k3 0
    have c1 : W3.cell? ⟨w.heap.size, 1, none⟩ = some (.int .i64 0) := blk_cell k3 1
    have c2 : W3.cell? ⟨w.heap.size, 2, none⟩ = some (.string ⟨#[]⟩) := blk_cell k3 2
    have c3 : W3.cell? ⟨w.heap.size, 3, none⟩ = some (.string ⟨#[]⟩) := blk_cell k3 3
    have c4 : W3.cell? ⟨w.heap.size, 4, none⟩ = some (.string ⟨#[]⟩) := blk_cell k3 4
    exact bodyPost_ret (v := drV (.bad 5)) (by simp [results, Tryd.results6, go_sem, c0, c1, c2, c3, c4, drV, recV, noR]) rfl ⟨rfl, hb3⟩
  have hd := hD.out
  rw [hk] at hd
  simp only at hd
  replace hD := Lib.hid hd
  clear hd hk
  have v0 : W9.cell? ⟨V, 4, none⟩ = some (.string tc) := D9.vc 4
  by_cases hi : tc.size = 32
  rotate_left
  · have e6 : sumE tc = 4 := by simp [sumE, hi]
    have hX := fun w => sum_c tc w
    rw [e6] at hX
    have hd : D = .bad 4 := by rw [← hD.out, if_pos hi]
    clear hD hi e6
    subst hd
    have r0 : W9.cell? ⟨w.heap.size, 0, none⟩ = some (.int .i64 0) := D9.rc 0
    have r1 : W9.cell? ⟨w.heap.size, 1, none⟩ = some (.int .i64 0) := D9.rc 1
    have r2 : W9.cell? ⟨w.heap.size, 2, none⟩ = some (.string ⟨#[]⟩) := D9.rc 2
    have r3 : W9.cell? ⟨w.heap.size, 3, none⟩ = some (.string ⟨#[]⟩) := D9.rc 3
    have r4 : W9.cell? ⟨w.heap.size, 4, none⟩ = some (.string ⟨#[]⟩) := D9.rc 4
    have g0 := D9.rf 0
    have g1 := D9.rf 1
    have g2 := D9.rf 2
    have g3 := D9.rf 3
    have g4 := D9.rf 4
    go_wp2_with (go_at_call 17; refine (hX _).mono ?_; rintro e w6 ⟨rfl, hw6⟩; subst w6)
    go_step3
    refine ⟨rfl, ?_⟩
    go_wp2
    simp only [Exit.jump]
    obtain ⟨W3, hW3, k3, hb3⟩ := D9.ret5 (.int .i64 0) (.int .i64 0) (.string ⟨#[]⟩) (.string ⟨#[]⟩) (.string ⟨#[]⟩)
    rw [← hW3]
    clear hW3 r0 r1 r2 r3 r4 g0 g1 g2 g3 g4 D9
    have c0 : W3.cell? ⟨w.heap.size, 0, none⟩ = some (.int .i64 0) := blk_cell k3 0
    have c1 : W3.cell? ⟨w.heap.size, 1, none⟩ = some (.int .i64 0) := blk_cell k3 1
    have c2 : W3.cell? ⟨w.heap.size, 2, none⟩ = some (.string ⟨#[]⟩) := blk_cell k3 2
    have c3 : W3.cell? ⟨w.heap.size, 3, none⟩ = some (.string ⟨#[]⟩) := blk_cell k3 3
    have c4 : W3.cell? ⟨w.heap.size, 4, none⟩ = some (.string ⟨#[]⟩) := blk_cell k3 4
    exact bodyPost_ret (v := drV (.bad 4)) (by simp [results, Tryd.results6, go_sem, c0, c1, c2, c3, c4, drV, recV, noR]) rfl ⟨rfl, hb3⟩
  have e6 : sumE tc = 0 := by simp [sumE, hi]
  have hX := fun w => sum_c tc w
  rw [e6] at hX
  have hd := hD.out
  rw [if_neg (by simpa using hi)] at hd
  replace hD := Lib.hid hd
  clear hd hi e6
  have hd := hD.out
  clear hD
  subst hd
  have r0 : W9.cell? ⟨w.heap.size, 0, none⟩ = some (.int .i64 0) := D9.rc 0
  have q0 : W9.cell? ⟨V, 0, none⟩ = some (.int .i64 vp) := D9.vc 0
  have g0 := D9.rf 0
  have r1 : W9.cell? ⟨w.heap.size, 1, none⟩ = some (.int .i64 0) := D9.rc 1
  have q1 : W9.cell? ⟨V, 1, none⟩ = some (.int .i64 vn) := D9.vc 1
  have g1 := D9.rf 1
  have r2 : W9.cell? ⟨w.heap.size, 2, none⟩ = some (.string ⟨#[]⟩) := D9.rc 2
  have q2 : W9.cell? ⟨V, 2, none⟩ = some (.string ta) := D9.vc 2
  have g2 := D9.rf 2
  have r3 : W9.cell? ⟨w.heap.size, 3, none⟩ = some (.string ⟨#[]⟩) := D9.rc 3
  have q3 : W9.cell? ⟨V, 3, none⟩ = some (.string tb) := D9.vc 3
  have g3 := D9.rf 3
  have r4 : W9.cell? ⟨w.heap.size, 4, none⟩ = some (.string ⟨#[]⟩) := D9.rc 4
  have q4 : W9.cell? ⟨V, 4, none⟩ = some (.string tc) := D9.vc 4
  have g4 := D9.rf 4
  go_wp2_with (go_at_call 17; refine (hX _).mono ?_; rintro e w6 ⟨rfl, hw6⟩; subst w6)
  simp only [Exit.jump]
  obtain ⟨W3, hW3, k3, hb3⟩ := D9.ret5 (.int .i64 vp) (.int .i64 vn) (.string ta) (.string tb) (.string tc)
  rw [← hW3]
  clear hW3 r0 r1 r2 r3 r4 g0 g1 g2 g3 g4 q0 q1 q2 q3 q4 v0 D9
  have c0 : W3.cell? ⟨w.heap.size, 0, none⟩ = some (.int .i64 vp) := blk_cell k3 0
  have c1 : W3.cell? ⟨w.heap.size, 1, none⟩ = some (.int .i64 vn) := blk_cell k3 1
  have c2 : W3.cell? ⟨w.heap.size, 2, none⟩ = some (.string ta) := blk_cell k3 2
  have c3 : W3.cell? ⟨w.heap.size, 3, none⟩ = some (.string tb) := blk_cell k3 3
  have c4 : W3.cell? ⟨w.heap.size, 4, none⟩ = some (.string tc) := blk_cell k3 4
  exact bodyPost_ret (v := drV (.ok ⟨vp, vn, ta, tb, tc⟩)) (by simp [results, Tryd.results6, go_sem, c0, c1, c2, c3, c4, drV, recV]) rfl ⟨rfl, hb3⟩
end Go.Proofs.YtkbgcmfldfbcgaaDoor

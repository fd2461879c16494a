/- Rows of runs, and the contract of audit.Expand. -/
import Derived.Test.YtcophjjjkonpjaaDoorAx
namespace Go.Proofs.YtcophjjjkonpjaaDoor
open Go.RowKit
set_option maxRecDepth 100000
set_option linter.unusedSimpArgs false
set_option linter.unusedVariables false
/-- A row of runs. -/
def RowN (w : World) (sv : Value) (rs : List Rn) : Prop := ∃ ao cap, sv = .slice ao rs.length cap ∧ ∀ j (h : j < rs.length), ∃ g off, ao = some ⟨g, off, none⟩ ∧ w.cell? ⟨g, off + j * 5, none⟩ = some (.int .i64 rs[j].k) ∧ w.cell? ⟨g, off + j * 5 + 1, none⟩ = some (.int .i64 rs[j].i) ∧ w.cell? ⟨g, off + j * 5 + 2, none⟩ = some (.int .i64 rs[j].s) ∧ w.cell? ⟨g, off + j * 5 + 3, none⟩ = some (.int .i64 rs[j].c) ∧ w.cell? ⟨g, off + j * 5 + 4, none⟩ = some (.int .u32 rs[j].v)
theorem RowN.grow {w w' : World} {sv : Value} {es : List Rn} (h : RowN w sv es) (hb : Below w.heap.size w w') : RowN w' sv es := by
  obtain ⟨ao, cap, h1, h2⟩ := h
  refine ⟨ao, cap, h1, fun j hj => ?_⟩
  obtain ⟨g, off, e, c0, c1, c2, c3, c4⟩ := h2 j hj
  exact ⟨g, off, e, grow_cell hb c0, grow_cell hb c1, grow_cell hb c2, grow_cell hb c3, grow_cell hb c4⟩
theorem flat_at {α : Type} (f : α → List Value) (m : Nat) (hm : ∀ x, (f x).length = m) : ∀ (l : List α) (j : Nat) (hj : j < l.length) (q : Nat) (hq : q < m), (l.flatMap f)[j * m + q]? = (f l[j])[q]?
  | [], j, hj, _, _ => by simp at hj
  | x :: l, 0, _, q, hq => by
    simp only [List.flatMap_cons, Nat.zero_mul, Nat.zero_add, List.getElem_cons_zero]
    rw [List.getElem?_append_left (by rw [hm]; exact hq)]
  | x :: l, j + 1, hj, q, hq => by
    simp only [List.flatMap_cons, List.getElem_cons_succ]
    rw [List.getElem?_append_right (by rw [hm, Nat.add_mul]; omega), hm, show (j + 1) * m + q - m = j * m + q by rw [Nat.add_mul]; omega]
    exact flat_at f m hm l j (by simpa using hj) q hq
theorem RowN.ofOwn {w : World} {base : Nat} {T : TypeId} {ao : Option Addr} {cap : Nat} {rs : List Rn} (h : w.ownsRow base T 5 (.slice ao rs.length cap) rs.length (rs.flatMap rc)) : RowN w (.slice ao rs.length cap) rs := by
  refine ⟨ao, cap, rfl, fun j hj => ?_⟩
  have hpos : 0 < rs.length := by omega
  obtain ⟨g, cap', hsv, _, _⟩ := World.ownsRow.form h hpos
  simp only [Value.slice.injEq] at hsv
  obtain ⟨hao, _, hcap⟩ := hsv
  subst hao hcap
  have at5 : ∀ q (hq : q < 5), w.cell? ⟨g, 0 + j * 5 + q, none⟩ = (rc rs[j])[q]? := fun q hq => by
    have hlen : (rs.flatMap rc).length = rs.length * 5 := by
      clear h hj hpos
      induction rs with
      | nil => rfl
      | cons x l ih => rw [List.flatMap_cons, List.length_append, ih]; simp [rc]; omega
    have hi : j * 5 + q < (rs.flatMap rc).length := by
      rw [hlen]; omega
    have := World.ownsRow.cellAt h (j * 5 + q) (by omega)
    rw [Nat.zero_add, this, ← flat_at rc 5 (fun _ => rfl) rs j hj q hq, List.getElem?_eq_getElem hi]
  exact ⟨g, 0, rfl, at5 0 (by omega), at5 1 (by omega), at5 2 (by omega), at5 3 (by omega), at5 4 (by omega)⟩
/-- An event's cells. -/
def ec (e : Evt) : List Value := [.int .i64 e.k, .int .i64 e.i, .int .u32 e.v]
theorem RowE.ofOwn {w : World} {base : Nat} {T : TypeId} {ao : Option Addr} {cap : Nat} {rs : List Evt} (h : w.ownsRow base T 3 (.slice ao rs.length cap) rs.length (rs.flatMap ec)) : RowE w (.slice ao rs.length cap) rs := by
  refine ⟨ao, cap, rfl, fun j hj => ?_⟩
  have hpos : 0 < rs.length := by omega
  obtain ⟨g, cap', hsv, _, _⟩ := World.ownsRow.form h hpos
  simp only [Value.slice.injEq] at hsv
  obtain ⟨hao, _, hcap⟩ := hsv
  subst hao hcap
  have at3 : ∀ q (hq : q < 3), w.cell? ⟨g, 0 + j * 3 + q, none⟩ = (ec rs[j])[q]? := fun q hq => by
    have hlen : (rs.flatMap ec).length = rs.length * 3 := by
      clear h hj hpos
      induction rs with
      | nil => rfl
      | cons x l ih => rw [List.flatMap_cons, List.length_append, ih]; simp [ec]; omega
    have hi : j * 3 + q < (rs.flatMap ec).length := by
      rw [hlen]; omega
    have := World.ownsRow.cellAt h (j * 3 + q) (by omega)
    rw [Nat.zero_add, this, ← flat_at ec 3 (fun _ => rfl) rs j hj q hq, List.getElem?_eq_getElem hi]
  exact ⟨g, 0, rfl, at3 0 (by omega), at3 1 (by omega), at3 2 (by omega)⟩
/-- So many events by steps. -/
def byS (k v s : Int) : Nat → Int → List Evt
  | 0, _ => []
  | n + 1, i => ⟨k, i, v⟩ :: byS k v s n (wrap64 (i + s))
theorem byS_length (k v s : Int) : ∀ (n : Nat) (i : Int), (byS k v s n i).length = n
  | 0, _ => rfl
  | n + 1, i => by rw [byS, List.length_cons, byS_length k v s n]
def expL (rs : List Rn) : List Evt := rs.flatMap fun r => byS r.k r.v r.s r.c.toNat r.i
def cnt (rs : List Rn) : Nat := (rs.map fun r => r.c.toNat).sum
theorem expL_length (rs : List Rn) : (expL rs).length = cnt rs := by
  induction rs with
  | nil => rfl
  | cons r l ih =>
    have : expL (r :: l) = byS r.k r.v r.s r.c.toNat r.i ++ expL l := rfl
    rw [this, List.length_append, ih, byS_length]
    simp [cnt]
theorem cnt_take (rs : List Rn) (j : Nat) (h : j < rs.length) : cnt (rs.take (j + 1)) = cnt (rs.take j) + rs[j].c.toNat := by
  rw [List.take_succ_eq_append_getElem h]
  simp only [cnt, List.map_append, List.sum_append, List.map_cons, List.map_nil, List.sum_cons, List.sum_nil, Nat.add_zero]
theorem cnt_le (rs : List Rn) (j : Nat) : cnt (rs.take j) ≤ cnt rs := by
  have : cnt rs = cnt (rs.take j) + cnt (rs.drop j) := by
    conv => lhs; rw [← List.take_append_drop j rs]
    simp only [cnt, List.map_append, List.sum_append]
  omega
set_option maxHeartbeats 1000000 in
theorem Expand_c (rs : List Rn) (va : Value) (w : World) (ha : RowN w va rs) (lr : rs.length ≤ 100000) (hs : cnt rs ≤ 100000) (hc : ∀ r ∈ rs, 0 ≤ r.c) : Calls Tryd.prog 16 #[va] w fun e w' => (∃ ao cap, e = .returned (.slice ao (expL rs).length cap) ∧ w'.ownsRow w.heap.size 28 3 (.slice ao (expL rs).length cap) (expL rs).length ((expL rs).flatMap ec)) ∧ Below w.heap.size w w' := by
  obtain ⟨aa, ca, rfl, ca3⟩ := ha
  replace ca3 := Lib.hid ca3
  replace hc := Lib.hid hc
  replace hs := Lib.hid hs
  have hO0 : w.ownsRow w.heap.size 28 3 (.slice none 0 0) (([] : List Evt).length) (([] : List Evt).flatMap ec) := World.ownsRow_nil _ _ _ _
  go_enter Tryd.func16, Tryd.ntmps16
  go_wp2_with fail
  go_loopw [9, 3] (fun i sv wr => ∃ (j : Nat) (acc : List Evt), j ≤ rs.length ∧ i = .int .i64 (j : Int) ∧ acc = expL (rs.take j) ∧ Below w.heap.size w wr ∧ wr.ownsRow w.heap.size 28 3 sv acc.length (acc.flatMap ec)) (fun i _ _ => rs.length - (RowKit.intOf i).toNat)
  case atStart => exact ⟨0, [], by omega, rfl, rfl, Below.refl _ _, hO0⟩
  case round =>
    clear hO0
    obtain ⟨j, acc, hj, rfl, hac, HB, HO⟩ := hrel
    have hal : acc.length = cnt (rs.take j) := by rw [hac, expL_length]
    have hcl := cnt_le rs j
    have hlen := hs.out
    replace hac := Lib.hid hac
    obtain ⟨ao, cap, rfl⟩ : ∃ ao cap, u3 = .slice ao acc.length cap := by
      rcases HO.2 with ⟨rfl, q⟩ | ⟨g, cap, _, rfl, _⟩
      · exact ⟨none, 0, by rw [q]⟩
      · exact ⟨_, cap, rfl⟩
    by_cases hlt : j < rs.length
    · have hlt' : (j : Int) < (rs.length : Int) := by omega
      have hct := cnt_take rs j hlt
      have hcl2 := cnt_le rs (j + 1)
      have hcp : 0 ≤ rs[j].c := hc.out _ (List.getElem_mem hlt)
      have hex : expL (rs.take (j + 1)) = acc ++ byS rs[j].k rs[j].v rs[j].s rs[j].c.toNat rs[j].i := by
        rw [hac.out, List.take_succ_eq_append_getElem hlt]
        simp only [expL, List.flatMap_append, List.flatMap_cons, List.flatMap_nil, List.append_nil]
      obtain ⟨g, off, rfl, c0, c1, c2, c3, c4⟩ := ca3.out j hlt
      replace c0 := grow_cell HB c0
      replace c1 := grow_cell HB c1
      replace c2 := grow_cell HB c2
      replace c3 := grow_cell HB c3
      replace c4 := grow_cell HB c4
      obtain ⟨x, hx⟩ : ∃ x, x = rs[j] := ⟨_, rfl⟩
      rw [← hx] at c0 c1 c2 c3 c4 hct hcp hex
      replace hx := Lib.hid hx
      obtain ⟨m, hm⟩ : ∃ m : Nat, x.c = (m : Int) := ⟨x.c.toNat, by omega⟩
      obtain ⟨xk, xi, xs, xc, xv⟩ := x
      simp only at hm c0 c1 c2 c3 c4 hct hcp hex
      subst hm
      rw [Int.toNat_natCast] at hct hex
      replace hex := Lib.hid hex
      have hm0 : ¬ (m : Int) < 0 := by omega
      have hsum : acc.length + m ≤ 100000 := by omega
      clear hct hcl2 hal hcl hlen hcp
      go_upto_region 5 with fail
      refine gen_world fun W2 hW2 => ?_
      have ke : W2.heap[wr.heap.size]? = some (.cells #[.int .i64 xk, .int .i64 xi, .int .i64 xs, .int .i64 (m : Int), .int .u32 xv] 49 (0, 0)) := by subst hW2; exact blk_new _ _
      have hna : (Value.slice ao acc.length cap).ownBlock ≠ some wr.heap.size := fun q => by have := (ownsRow_lt HO q).2; omega
      replace HO : W2.ownsRow w.heap.size 28 3 (.slice ao acc.length cap) acc.length (acc.flatMap ec) := by subst hW2; exact ownsRow_block HO fun g hg => heap_alloc_old _ _ (ownsRow_lt HO hg).2
      have hGw : w.heap.size ≤ wr.heap.size := HB.size
      replace HB : Below w.heap.size w W2 := by subst hW2; exact bl_alloc HB _
      clear hW2 c0 c1 c2 c3 c4
      obtain ⟨G, hG⟩ : ∃ G, G = wr.heap.size := ⟨_, rfl⟩
      rw [← hG] at ke hna hGw ⊢
      clear hG
      have e1 := blk_cell ke 1
      have e3 := blk_cell ke 3
      have wz : IntKind.i64.wrap (1048576 - (acc.length : Int)) = 1048576 - (acc.length : Int) := IntWalk.i64_in _ (by omega)
      have q1 : ¬ (1048576 - (acc.length : Int)) < (m : Int) := by omega
      have q2 : (m : Int) ≤ 1048576 - (acc.length : Int) := by omega
      have q3 : 0 ≤ (m : Int) := by omega
      go_wp2_with fail
      clear e1 e3 wz q1 q2
      have hb0 : byS xk xv xs m xi = ([] : List Evt) ++ byS xk xv xs (m - 0) xi := rfl
      go_loopw [22, 3, 6] (fun t sv at_ wt => ∃ (d : Nat) (a_ : Int) (dn : List Evt), d ≤ m ∧ t = .int .i64 (d : Int) ∧ at_ = .int .i64 a_ ∧ byS xk xv xs m xi = dn ++ byS xk xv xs (m - d) a_ ∧ dn.length = d ∧ Below w.heap.size w wt ∧ wt.heap[G]? = some (.cells #[.int .i64 xk, .int .i64 xi, .int .i64 xs, .int .i64 (m : Int), .int .u32 xv] 49 (0, 0)) ∧ wt.ownsRow w.heap.size 28 3 sv (acc.length + d) ((acc ++ dn).flatMap ec) ∧ sv.ownBlock ≠ some G) (fun t _ _ _ => m - (RowKit.intOf t).toNat)
      case atStart => exact ⟨0, xi, [], by omega, rfl, rfl, hb0, rfl, HB, ke, by simpa using HO, hna⟩
      case round =>
        clear hb0 HB ke HO hna
        obtain ⟨d, a_, dn, hd, rfl, rfl, hby, hdl, HB, ke, HO, hna⟩ := hrel
        replace hby := Lib.hid hby
        have lG := blk_lt ke
        by_cases hlt2 : d < m
        · have hlt2' : (d : Int) < (m : Int) := by omega
          have e0 := blk_cell ke 0
          have e2 := blk_cell ke 2
          have e4 := blk_cell ke 4
          have hby2 : byS xk xv xs m xi = (dn ++ [⟨xk, a_, xv⟩]) ++ byS xk xv xs (m - (d + 1)) (wrap64 (a_ + xs)) := by
            rw [hby.out, show m - d = (m - (d + 1)) + 1 by omega, byS]
            simp only [List.append_assoc, List.cons_append, List.nil_append]
          replace hby2 := Lib.hid hby2
          go_wp2_with (refine wpList_appS rfl _ _ 22 rfl w.heap.size 28 (.agg #[.int .i64 0, .int .i64 0, .int .u32 0]) 3 24 Tryd.underlying22 (by kernel_rfl) rfl (by decide) (by decide) _ _ _ rfl (ownsRow_block HO fun g hg => heap_alloc_old _ _ (ownsRow_lt HO hg).2) _ 1 (ec ⟨xk, a_, xv⟩) rfl rfl (fun q u hq => (blk_cell (blk_new _ _) q).trans (by simpa [ec] using hq)) (by simp [ec, Value.oneCell']) (by omega) (by have := HB.size; simp; omega) ?_; intro g4 cap4 w4 HO4 hg4 hsv4 hlt4; have ke4 := (hg4.block G (by simp; omega) (fun q => hna q.symm)).trans (heap_alloc_old _ _ lG |>.trans ke); have hna4 : (Value.slice (some ⟨g4, 0, none⟩) (acc.length + d + 1) cap4).ownBlock ≠ some G := (fun q => by
            have e : g4 = G := by simpa [Value.ownBlock] using q
            rcases hsv4 with z | z
            · exact hna (z.trans (congrArg some e))
            · simp at z; omega); replace HB := grown_below (bl_alloc HB _) hg4 (by have := HB.size; simp; omega) (fun g hg => (ownsRow_lt HO hg).1); replace HO := HO4; clear hg4 HO4 hsv4 hlt4 e0 e2 e4 ke lG hna; have e2 := blk_cell ke4 2)
          refine ⟨⟨d + 1, wrap64 (a_ + xs), dn ++ [⟨xk, a_, xv⟩], by omega, congrArg (Value.int .i64) (by omega), rfl, hby2.out, by rw [List.length_append, hdl]; rfl, HB, ke4, ?_, hna4⟩, by simp [RowKit.intOf] <;> omega⟩
          rw [← List.append_assoc, List.flatMap_append]
          rw [← Nat.add_assoc]
          simpa using HO
        · obtain rfl : d = m := by omega
          have hlt2' : ¬ (d : Int) < (d : Int) := by omega
          have hdn : byS xk xv xs d xi = dn := by rw [hby.out, Nat.sub_self, byS, List.append_nil]
          replace hdn := Lib.hid hdn
          go_wp2_with fail
          refine ⟨⟨j + 1, acc ++ dn, by omega, congrArg (Value.int .i64) (by omega), by rw [hex.out, hdn.out], HB, ?_⟩, by simp [RowKit.intOf] <;> omega⟩
          rw [List.length_append, hdl]
          exact HO
    · obtain rfl : j = rs.length := by omega
      have hlt' : ¬ (rs.length : Int) < (rs.length : Int) := by omega
      have hfin : expL rs = acc := by rw [hac.out, List.take_of_length_le (Nat.le_refl _)]
      replace hfin := Lib.hid hfin
      clear hal hcl hlen
      go_wp2_with fail
      exact bodyPost_ret (v := .slice ao acc.length cap) (by simp [results, Tryd.results16, go_sem]) rfl ⟨⟨ao, cap, by rw [hfin.out], by rw [hfin.out]; exact HO⟩, HB⟩
end Go.Proofs.YtcophjjjkonpjaaDoor

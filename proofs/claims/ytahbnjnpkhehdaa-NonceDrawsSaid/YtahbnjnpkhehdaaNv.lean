/- Draws from a seed: Nonce of nonce.Source. -/
import Derived.Test.YtahbnjnpkhehdaaNu
import Derived.Lib.BufferMore
namespace Go.Proofs.Ytahbnjnpkhehdaa
open Go.RowKit Go.Lib
set_option maxRecDepth 100000
set_option linter.unusedSimpArgs false
set_option linter.unusedVariables false
attribute [local go_sem] evR_tmp evR_const evR_global evR_func
def signsOf (bs : List UInt8) : List UInt8 := bs.map signOf
/-- The first k bytes as signs. -/
def halfS (B : List UInt8) (k : Nat) : List UInt8 := signsOf (B.take k) ++ B.drop k
theorem halfS_length (B : List UInt8) (k : Nat) : (halfS B k).length = B.length := by
  unfold halfS signsOf; rw [List.length_append, List.length_map, List.length_take, List.length_drop]; omega
theorem halfS_at (B : List UInt8) (k : Nat) (h : k < B.length) : (halfS B k).getD k 0 = B[k] := by
  unfold halfS signsOf
  rw [List.getD_eq_getElem?_getD, List.getElem?_append_right (by simp; omega)]
  simp [Nat.min_eq_left (Nat.le_of_lt h), h]
theorem halfS_set (B : List UInt8) (k : Nat) (h : k < B.length) : (halfS B k).set k (signOf B[k]) = halfS B (k + 1) := by
  unfold halfS signsOf
  rw [List.set_append_right _ _ (by simp; omega), List.take_succ_eq_append_getElem h, List.map_append, List.append_assoc]
  congr 1
  rw [List.length_map, List.length_take, Nat.min_eq_left (Nat.le_of_lt h), Nat.sub_self, List.drop_eq_getElem_cons h]
  rfl
theorem halfS_full (B : List UInt8) (k : Nat) (h : B.length ≤ k) : halfS B k = signsOf B := by
  unfold halfS; rw [List.take_of_length_le h, List.drop_eq_nil_of_le h, List.append_nil]
theorem sign_get (b : UInt8) (h : b.toNat % 64 < signsB.size) : signsB[b.toNat % 64]'h = signOf b := by
  have h2 := signOf_at b
  rw [List.getElem?_eq_getElem (show _ < signsB.data.toList.length from h)] at h2
  exact Option.some.inj h2
theorem Apart.set {F : Nat → Prop} {w W : World} (h : Apart F w W) (p : Addr) (v : Value) (hp : w.heap.size ≤ p.block) : Apart F w (W.setCell p v) :=
  ⟨h.os, h.tape, h.output, by rw [show (W.setCell p v).heap.size = W.heap.size by simp [World.setCell]]; exact h.size, fun b q hn => (Below.heap_setCell W p v b (by omega)).trans (h.block b q hn)⟩
set_option maxHeartbeats 4000000 in
theorem nNonce_c (g : Nat) (seed : ByteArray) (hs : seed.size ≤ 400000) (c : Nat) (hc : c < 900000000) (n : Int) (w : World) (hk : w.heap[g]? = some (.cells (srcC seed c) 46 (0, 0))) : Calls Try.prog 10 #[.pointer (some ⟨g, 0, none⟩), .int .i64 n] w fun e w' => e = .returned (.string ⟨(signsOf (drawB seed.data.toList c (clampN n))).toArray⟩) ∧ w'.heap[g]? = some (.cells (srcC seed (c + drawsOf (clampN n))) 46 (0, 0)) ∧ Turned g w w' := by
  have hg := blk_lt hk
  have hB := nBytes_c g seed hs c hc n w hk
  have hl := drawB_length seed.data.toList c (clampN n)
  have hm1 := clampN_le n
  obtain ⟨m, hm⟩ : ∃ m, m = clampN n := ⟨_, rfl⟩
  rw [← hm] at hB hl hm1 ⊢
  replace hm := Lib.hid hm
  obtain ⟨d, hd⟩ : ∃ d, d = drawsOf m := ⟨_, rfl⟩
  rw [← hd] at hB ⊢
  replace hd := Lib.hid hd
  generalize drawB seed.data.toList c m = B at hB hl ⊢
  have hBs : (ByteArray.mk B.toArray).size = m := by simp [ByteArray.size, hl]
  replace hl := Lib.hid hl
  go_enter Try.func10, Try.ntmps10
  go_upto_region 2 with (first | (go_at_call 8; refine hB.mono ?_; rintro e w1 ⟨rfl, kg, hT⟩) | (refine wpList_convSBw rfl rfl rfl Try.underlying9 Try.underlying32 Try.underlying5 ?_; intro cap cur w2 k2 hcur hb2))
  obtain ⟨g1, hg1⟩ : ∃ g1, g1 = w1.heap.size := ⟨_, rfl⟩
  have hsz := hT.size
  have hg1w : w.heap.size ≤ g1 := by omega
  have kg0 := grow_blk hb2 kg
  have hT0 := hT.then hb2
  have hcl : m ≤ cur.size := by
    rcases Nat.lt_or_ge (m - 1) cur.size with h | h
    · omega
    · rcases Nat.eq_zero_or_pos m with h0 | h0
      · omega
      · have := hcur (m - 1) (by rw [hBs]; omega)
        rw [Array.getElem?_eq_none h] at this
        cases this
  have hc0 : ∀ k, k < m → cur[k]? = some (bv ((halfS B 0).getD k 0)) := fun k hk => by
    have := hcur k (by rw [hBs]; exact hk)
    rw [this]
    simp [halfS, signsOf, bv]
  replace hcl := Lib.hid hcl
  replace hc0 := Lib.hid hc0
  have k20 := k2
  clear hcur hb2 hT kg k2 hsz hBs
  go_wp2_with fail
  go_loopw [14, 6, 7] (fun i x6 x7 wr => ∃ k cr, k ≤ m ∧ i = .int .i64 (k : Int) ∧ Turned g w wr ∧ wr.heap[g]? = some (.cells (srcC seed (c + d)) 46 (0, 0)) ∧ wr.heap[w1.heap.size]? = some (.cells cr 5 (cr.size, cr.size + 1)) ∧ m ≤ cr.size ∧ ∀ j, j < m → cr[j]? = some (bv ((halfS B k).getD j 0))) (fun i _ _ _ => m - (intOf i).toNat)
  case atStart => exact ⟨0, cur, by omega, rfl, hT0, kg0, k20, hcl.out, hc0.out⟩
  case round =>
    clear hT0 kg0 k20 hcl hc0 cur
    obtain ⟨k, cr, hkm, rfl, hT, kg, k2, hcl, hcr⟩ := hrel
    have pn : (0 : Int) ≤ (k : Int) := by omega
    have hg1s := hg1
    by_cases hlt : k < m
    · have hlt' : (k : Int) < (m : Int) := by omega
      have hkB : k < B.length := by rw [hl.out]; exact hlt
      have c1 : wr.cell? ⟨w1.heap.size, k, none⟩ = some (.int .u8 (B[k].toNat : Int)) := by
        have := hcr k hlt
        rw [halfS_at B k hkB] at this
        simp [World.cell?, k2, this, bv]
      have f1 : wr.frozen? ⟨w1.heap.size, k, none⟩ = false := by simp [World.frozen?, k2]; omega
      have h63 := and63 B[k]
      have hsg := signOf_at B[k]
      have hset := halfS_set B k hkB
      have hlt64 : B[k].toNat % 64 < 64 := Nat.mod_lt _ (by decide)
      go_upto_region 5 with (fail)
      go_upto_region 6 with (fail)
      have hel : ∀ hq : (B[k].toNat % 64 < signsB.size), (signsB[B[k].toNat % 64]'hq) = signOf B[k] := fun hq => sign_get _ hq
      refine gen_world fun W2 hW => ?_
      replace hT : Turned g w W2 := by subst hW; exact hT.set _ _ (by show _ ≤ w1.heap.size; omega)
      have kg2 : W2.heap[g]? = some (.cells (srcC seed (c + d)) 46 (0, 0)) := by subst hW; exact blk_far kg (by show g ≠ w1.heap.size; omega) _
      have k2' : W2.heap[w1.heap.size]? = some (.cells (cr.setIfInBounds k (bv (signOf B[k]))) 5 (cr.size, cr.size + 1)) := by
        subst hW
        rw [← hel (by show _ < signsB.size; exact hlt64)]
        exact Go.Lib.heap_setCell_same k2 _
      have hcr2 : ∀ j, j < m → (cr.setIfInBounds k (bv (signOf B[k])))[j]? = some (bv ((halfS B (k + 1)).getD j 0)) := fun j hj => by
        rw [← hset, Array.getElem?_setIfInBounds, List.getD_eq_getElem?_getD, List.getElem?_set]
        by_cases hjk : k = j
        · subst hjk
          have : k < (halfS B k).length := by rw [halfS_length]; exact hkB
          simp [this]; omega
        · simp only [hjk, if_false]
          rw [hcr j hj, List.getD_eq_getElem?_getD]
      have hcs2 : (cr.setIfInBounds k (bv (signOf B[k]))).size = cr.size := by simp
      generalize cr.setIfInBounds k (bv (signOf B[k])) = cr2 at k2' hcr2 hcs2
      rw [← hcs2] at k2'
      have hm2 : m ≤ cr2.size := by omega
      clear hW c1 f1 h63 hsg hset hlt64 hel k2 hcr hcl kg hcs2
      replace hcr2 := Lib.hid hcr2
      go_wp2_with fail
      go_roundw
      case measure => simp [intOf] <;> omega
      exact ⟨k + 1, cr2, by omega, congrArg (Value.int .i64) (by omega), hT, kg2, k2', hm2, hcr2.out⟩
    · obtain rfl : k = m := by omega
      have hlt' : ¬ (k : Int) < (k : Int) := by omega
      have hR : RowB wr (.slice (some ⟨w1.heap.size, 0, none⟩) k cap) (signsOf B) := by
        have := RowB.of (w := wr) (g := w1.heap.size) (off := 0) (cap := cap) (bs := signsOf B) (fun j h => by
          have hj : j < k := by rw [← hl.out]; simpa [signsOf] using h
          have := hcr j hj
          rw [halfS_full B k (by rw [hl.out]; exact Nat.le_refl _)] at this
          simp [World.cell?, k2, this, h])
        rwa [show (signsOf B).length = k by simp [signsOf, hl.out]] at this
      clear hcr k2
      go_wp2_with (refine wpList_convBS rfl rfl rfl hR ?_)
      exact bodyPost_ret (v := .string ⟨(signsOf B).toArray⟩) (by simp [results, Try.results10, go_sem]) rfl ⟨rfl, kg, hT⟩
end Go.Proofs.Ytahbnjnpkhehdaa

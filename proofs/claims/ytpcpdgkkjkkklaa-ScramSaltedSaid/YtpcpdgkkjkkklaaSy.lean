/- The law's own 'is' of chapter 27; the law ScramSalted. -/
import Derived.Test.YtpcpdgkkjkkklaaSv
import Derived.RegionTactic
import Derived.Laws.BitsAllLaws
namespace Go.Proofs.Ytpcpdgkkjkkklaa
open Go.RowKit Go.Lib
set_option maxRecDepth 100000
set_option linter.unusedSimpArgs false
set_option linter.unusedVariables false
attribute [local go_sem] evR_tmp evR_const evR_global evR_func
/-- A word's first r bytes, as a number. -/
def topN (x r : Nat) : Nat := x / 2 ^ (32 - 8 * r)
theorem topN_next (x r : Nat) (h : r < 4) : topN x (r + 1) = topN x r * 256 + x / 2 ^ (24 - 8 * r) % 256 := by
  unfold topN
  rw [show 32 - 8 * (r + 1) = 24 - 8 * r by omega, show 32 - 8 * r = (24 - 8 * r) + 8 by omega, Nat.pow_add, ← Nat.div_div_eq_div_mul]
  show _ = x / 2 ^ (24 - 8 * r) / 256 * 256 + _
  omega
theorem topN_lt (x r : Nat) (h : x < 4294967296) (hr : r < 4) : topN x r < 16777216 := by
  unfold topN
  apply Nat.div_lt_of_lt_mul
  have h1 : (2 : Nat) ^ 8 ≤ 2 ^ (32 - 8 * r) := Nat.pow_le_pow_right (by decide) (by omega)
  omega
/-- The words after n bytes. -/
def wTo (H : List W32) (n : Nat) : List W32 := (List.range 8).map fun j => kw (topN (at32 H j).toNat (min 4 (n - 4 * j)))
theorem wTo_length (H : List W32) (n : Nat) : (wTo H n).length = 8 := by simp [wTo]
theorem wTo_zero (H : List W32) : cw (wTo H 0) = Array.replicate 8 (.int .u32 0) := by
  have : wTo H 0 = List.replicate 8 0#32 := by
    unfold wTo
    simp only [Nat.zero_sub, Nat.min_zero]
    have h : ∀ j, kw (topN (at32 H j).toNat 0) = 0#32 := fun j => by
      unfold topN
      rw [Nat.div_eq_of_lt (by have := (at32 H j).isLt; simpa using this)]; rfl
    simp only [h]; rfl
  rw [this]; rfl
theorem wTo_at (H : List W32) (n : Nat) (h : n < 32) : (wTo H n)[n / 4]'(by rw [wTo_length]; omega) = kw (topN (at32 H (n / 4)).toNat (n % 4)) := by
  simp only [wTo, List.getElem_map, List.getElem_range]
  congr 2
  omega
theorem wTo_set (H : List W32) (n : Nat) (h : n < 32) : (wTo H n).set (n / 4) (kw (topN (at32 H (n / 4)).toNat (n % 4 + 1))) = wTo H (n + 1) := by
  apply List.ext_getElem
  · rw [List.length_set, wTo_length, wTo_length]
  · intro j h1 h2
    rw [wTo_length] at h2
    rw [List.getElem_set]
    by_cases hj : n / 4 = j
    · rw [if_pos hj]
      subst hj
      simp only [wTo, List.getElem_map, List.getElem_range]
      congr 2
      omega
    · rw [if_neg hj]
      simp only [wTo, List.getElem_map, List.getElem_range]
      congr 2
      omega
theorem wTo_full (H : List W32) (hh : H.length = 8) : wTo H 32 = H := by
  apply List.ext_getElem
  · rw [wTo_length, hh]
  · intro j h1 h2
    simp only [wTo, List.getElem_map, List.getElem_range]
    rw [show min 4 (32 - 4 * j) = 4 by omega]
    unfold topN
    simp only [Nat.mul_comm 8 4, Nat.sub_self, Nat.pow_zero, Nat.div_one]
    have : at32 H j = H[j] := by simp [at32, h2]
    rw [this]; simp [kw]
theorem flat_quad (l : List W32) : ∀ n, n < 4 * l.length → (l.flatMap quad).getD n 0 = (quad (at32 l (n / 4))).getD (n % 4) 0 := by
  induction l with
  | nil => intro n h; simp at h
  | cons x l ih =>
    intro n h
    rw [List.flatMap_cons]
    by_cases hn : n < 4
    · rw [List.getD_eq_getElem?_getD, List.getElem?_append_left (by simpa [quad] using hn), show n / 4 = 0 by omega, show n % 4 = n by omega, ← List.getD_eq_getElem?_getD]
      rfl
    · obtain ⟨k, rfl⟩ : ∃ k, n = k + 4 := ⟨n - 4, by omega⟩
      have := ih k (by simp at h; omega)
      rw [List.getD_eq_getElem?_getD, List.getElem?_append_right (by simp [quad]), show k + 4 - (quad x).length = k by simp [quad], ← List.getD_eq_getElem?_getD, this, show (k + 4) / 4 = k / 4 + 1 by omega, show (k + 4) % 4 = k % 4 by omega]
      rfl
theorem quad_get (x : W32) (r : Nat) (h : r < 4) : ((quad x).getD r 0).toNat = x.toNat / 2 ^ (24 - 8 * r) % 256 := by
  have hb : ∀ y : W32, (byteOf y).toNat = y.toNat % 256 := fun y => by simp [byteOf, UInt8.toNat_ofNat']
  have hs : ∀ k : Nat, (shrI x (k : Int)).toNat = x.toNat / 2 ^ k := fun k => by
    show (x >>> ((k : Int)).toNat).toNat = _
    rw [BitVec.toNat_ushiftRight, Nat.shiftRight_eq_div_pow]; rfl
  rcases r with _ | _ | _ | _ | r
  · have := hs 24; simp only [quad, List.getD_cons_zero, hb]; rw [show (24 : Int) = ((24 : Nat) : Int) from rfl, this]
  · have := hs 16; simp only [quad, List.getD_cons_succ, List.getD_cons_zero, hb]; rw [show (16 : Int) = ((16 : Nat) : Int) from rfl, this]
  · have := hs 8; simp only [quad, List.getD_cons_succ, List.getD_cons_zero, hb]; rw [show (8 : Int) = ((8 : Nat) : Int) from rfl, this]
  · simp only [quad, List.getD_cons_succ, List.getD_cons_zero, hb]; simp
  · omega
theorem or_next (t b : Nat) (ht : t < 16777216) (hb : b < 256) : bits .or .u32 (iw (kw t) * 256 % 4294967296) (b : Int) = iw (kw (t * 256 + b)) := by
  rw [← kw_iw t (by omega), ← kw_iw (t * 256 + b) (by omega), show (t : Int) * 256 % 4294967296 = ((t * 256 : Nat) : Int) by omega, u32_or_nat _ _ (by omega) (by omega)]
  congr 1
  have h := Nat.shiftLeft_add_eq_or_of_lt (i := 8) (b := b) (by simpa using hb) t
  rw [Nat.shiftLeft_eq] at h
  exact h.symm
theorem at32_get (l : List W32) (i : Nat) (h : i < l.length) : at32 l i = l[i] := by simp [at32, h]
theorem ref_get (H : List W32) (hh : H.length = 8) (n : Nat) (h : n < (ByteArray.mk (refBytes H).toArray).size) : ((ByteArray.mk (refBytes H).toArray)[n]'h).toNat = (at32 H (n / 4)).toNat / 2 ^ (24 - 8 * (n % 4)) % 256 := by
  have hl : n < (refBytes H).length := by simpa [ByteArray.size] using h
  have e : (ByteArray.mk (refBytes H).toArray)[n]'h = (refBytes H).getD n 0 := by
    show (refBytes H).toArray[n]'_ = _
    rw [List.getElem_toArray, List.getD_eq_getElem?_getD, List.getElem?_eq_getElem hl]; rfl
  rw [e, show (refBytes H).getD n 0 = (quad (at32 H (n / 4))).getD (n % 4) 0 from flat_quad H n (by rw [← quads_length]; exact hl), quad_get _ _ (Nat.mod_lt _ (by decide))]
set_option maxHeartbeats 4000000 in
theorem is27_c (H : List W32) (hh : H.length = 8) (w : World) : Calls Try.prog 19 #[.agg (cw H), .string ⟨(refBytes H).toArray⟩] w fun e w' => e = .returned (.bool true) ∧ Below w.heap.size w w' := by
  have hS := ref_get H hh
  have hSs : (ByteArray.mk (refBytes H).toArray).size = 32 := by simp [ByteArray.size, refBytes_length _ hh]
  have hI := fun w => Is_c H hh w
  generalize (ByteArray.mk (refBytes H).toArray) = S at hS hSs ⊢
  have LT := Lib.hid (wTo_length H)
  have LS := Lib.hid (wTo_at H)
  have LN := Lib.hid (wTo_set H)
  have LF := Lib.hid (wTo_full H hh)
  have L8 := Lib.hid hh
  clear hh
  replace hS := Lib.hid hS
  replace hSs := Lib.hid hSs
  replace hI := Lib.hid hI
  go_enter Try.func19, Try.ntmps19
  go_upto_region 2 with fail
  refine gen_world fun W hW => ?_
  have k2 : W.heap[w.heap.size]? = some (.cells (cw H) 37 (0, 0)) := by subst hW; (repeat (first | (with_reducible assumption) | ((with_reducible refine blk_new' ?_ _); (simp; done)) | ((with_reducible refine blk_alloc ?_ _)) | ((with_reducible refine blk_far ?_ ?_ _); (simp <;> omega))))
  have k5 : W.heap[w.heap.size + 1]? = some (.cells (cw (wTo H 0)) 33 (0, 0)) := by subst hW; rw [wTo_zero]; exact blk_new' (by simp) _
  have HB : Below w.heap.size w W := by subst hW; (repeat (first | exact Below.refl _ _ | (refine bl_alloc ?_ _) | (refine bl_drewN ?_ _) | (refine bl_drew ?_) | (refine bl_call (by assumption) ?_) | (refine bl_set _ _ (by simp <;> omega) ?_) | assumption))
  clear hW
  go_wp2_with fail
  rw [hSs.out]
  have HB0 := HB
  have k20 := k2
  have k50 := k5
  clear HB k2 k5
  go_loopw [9] (fun i wr => ∃ n : Nat, n ≤ 32 ∧ i = .int .i64 (n : Int) ∧ Below w.heap.size w wr ∧ wr.heap[w.heap.size]? = some (.cells (cw H) 37 (0, 0)) ∧ wr.heap[w.heap.size + 1]? = some (.cells (cw (wTo H n)) 33 (0, 0))) (fun i _ => 32 - (intOf i).toNat)
  case atStart => exact ⟨0, by omega, rfl, HB0, k20, k50⟩
  case round =>
    clear HB0 k20 k50
    obtain ⟨n, hn, rfl, HB, k2, k5⟩ := hrel
    have pn : (0 : Int) ≤ (n : Int) := by omega
    by_cases hlt : n < 32
    · have hlt' : (n : Int) < 32 := by omega
      have hnS : n < S.size := by rw [hSs.out]; exact hlt
      have c5 := blk_cell k5 (n / 4)
      rw [cw_at _ _ (by rw [LT.out]; omega)] at c5
      have e1 : at32 (wTo H n) (n / 4) = kw (topN (at32 H (n / 4)).toNat (n % 4)) := by
        have := LS.out n hlt
        rw [← this]; exact at32_get _ _ _
      rw [e1] at c5
      have f5 := blk_frozen k5 (n / 4)
      have hb : S[n].toNat = (at32 H (n / 4)).toNat / 2 ^ (24 - 8 * (n % 4)) % 256 := hS.out n hnS
      have ht := topN_lt (at32 H (n / 4)).toNat (n % 4) (at32 H (n / 4)).isLt (Nat.mod_lt _ (by decide))
      have hx := topN_next (at32 H (n / 4)).toNat (n % 4) (Nat.mod_lt _ (by decide))
      have hset := LN.out n hlt
      rw [hx, ← hb] at hset
      generalize topN (at32 H (n / 4)).toNat (n % 4) = t at c5 ht hset
      have hlb : S[n].toNat < 256 := S[n].toNat_lt
      have ho := or_next t S[n].toNat ht hlb
      have hq : (n : Int) / 4 < 8 := by omega
      clear e1 hb hx
      replace hset := Lib.hid hset
      go_upto_region 5 with fail
      go_region
      go_upto_region 6 with fail
      refine gen_world fun W2 hW => ?_
      replace k5 : W2.heap[w.heap.size + 1]? = some (.cells (cw (wTo H (n + 1))) 33 (0, 0)) := by
        subst hW
        rw [← hset.out, ← cw_set]
        exact blk_set k5 (n / 4) _
      replace k2 : W2.heap[w.heap.size]? = some (.cells (cw H) 37 (0, 0)) := by subst hW; exact blk_far k2 (by simp) _
      replace HB : Below w.heap.size w W2 := by subst hW; exact bl_drew (bl_set _ _ (by simp) HB)
      clear hW c5 f5 ho hset hq
      go_wp2_with fail
      go_roundw
      case measure => simp [intOf] <;> omega
      exact ⟨n + 1, by omega, congrArg (Value.int .i64) (by omega), HB, k2, k5⟩
    · obtain rfl : n = 32 := by omega
      have hlt' : ¬ ((32 : Nat) : Int) < 32 := by omega
      rw [LF.out] at k5
      have hts : (S.size : Int) = 32 := by rw [hSs.out]; rfl
      have hI2 := hI.out
      go_upto_region 7 with fail
      refine wp_region_R 8 [1, 2, 5] (by kernel_rfl) (by kernel_rfl) (by kernel_rfl) (by kernel_rfl) ?_
      intro K_ ops_ hops_ hK
      replace hops_ := Lib.hid hops_
      apply Exists.intro
      intro R_ hb_
      simp only [↓baseR, ↓nthR_succ, ↓nthR_zero] at hb_
      simp only [List.take_succ_cons, List.take_zero, List.drop_succ_cons, List.drop_zero]
      repeat (first
        | (apply LexR_det (by rfl) (by rfl) (wanted_guard rfl (by rw [hops_.out]; rfl) rfl (by go_simp)) (fun w1 hw1 hd1 => ?_) (fun _ hr_ => ?_); rotate_right 2; (refine run_load_rowR (ty := 37) rfl ?_ (grow_blk hw1 k2) Try.underlying37 rfl ?_; (focus (go_simp; done)); (rw [cw_size, L8.out]; kernel_rfl))) | (apply LexR_det (by rfl) (by rfl) (wanted_guard rfl (by rw [hops_.out]; rfl) rfl (by go_simp)) (fun w1 hw1 hd1 => ?_) (fun _ hr_ => ?_); rotate_right 2; (refine run_load_rowR (ty := 33) rfl ?_ (grow_blk hw1 k5) Try.underlying33 rfl ?_; (focus (go_simp; done)); (rw [cw_size, L8.out]; kernel_rfl)))
        
        | (apply LexR_callF (f := 34) (by rfl) (by rfl) (wanted_guard rfl (by rw [hops_.out]; rfl) rfl (by go_simp)) Try.func34 (by kernel_rfl) (by kernel_rfl) (fun _ => ?_) (fun w1 hw1 hd1 => ?_) (fun _ hr_ => ?_); rotate_right 3; (go_simp; first | done | rfl); (with_reducible exact (hI2 w1))) | (apply LexR_det (by rfl) (by rfl) (wanted_guard rfl (by rw [hops_.out]; rfl) rfl (by go_simp)) (fun w1 hw1 hd1 => ?_) (fun _ hr_ => ?_); rotate_right 2; (go_simp; first | done | rfl ))
        | (apply LexR_det (by rfl) (by rfl) (by rfl) (fun w1 hw1 hd1 => ?_) (fun _ hr_ => ?_); rotate_right 2; (go_simp; first | done | rfl ))
        | (apply LexR_box (by rfl) (by rfl) (by rfl) (fun w1 hw1 hd1 => ?_) (fun _ hr_ => ?_); rotate_right 2; (go_simp; first | done | rfl))
        | (apply LexR_bs (t := 60) (e := 36) (z := .agg #[.int .u32 0]) (ho := rfl) (by rfl) (by rfl) Try.underlying60 (by kernel_rfl) (by decide) (by decide) (fun _ => ?_) (fun _ => ?_) (fun _ => ?_) (fun _ hr_ => ?_); rotate_right 4; (go_simp; rfl); (exact ⟨rfl, rfl, rfl⟩); (simp only [List.map_cons, List.map_nil, List.flatMap_cons, List.flatMap_nil, Value.cells, List.cons_append, List.nil_append, List.append_nil]; rfl)))
      apply LexR_end
      refine hK _ _ ?_
      clear hK K_
      repeat clear hr_
      clear hb_ R_ hops_ ops_
      intro w1 hw1 hf1
      apply tailR (fun _ => ?_) (fun _ => ?_) ?_
      rotate_right 2
      · simp only [putAll, Act.put, List.setIfInBounds_toArray, List.set_cons_succ, List.set_cons_zero]; first | done | rfl
      · simp only [List.drop_succ_cons, List.drop_zero]; first | done | rfl
      simp [allFacts, contOf, Exp.putAt, Exp.fact, Exp.fresh, Exp.blk] at hf1
      go_wp2
      exact bodyPost_ret (v := .bool true) (by simp [results, Try.results19, go_sem]) rfl ⟨rfl, bl_call hw1 HB⟩
end Go.Proofs.Ytpcpdgkkjkkklaa

/- Contracts of sabretacheref17: Key, With, Sum. -/
import Derived.Test.YthnackakgglhbaaGreatHw
import Derived.Laws.CopyOwn
namespace Go.Proofs.YthnackakgglhbaaGreat
open Go.RowKit
set_option maxRecDepth 100000
set_option linter.unusedSimpArgs false
set_option linter.unusedVariables false
attribute [local go_sem] evR_tmp evR_const evR_global evR_func
/-- Bytes as cells. -/
def bc (bs : List UInt8) : Array Value := (bs.map bv).toArray
theorem bc_size (bs : List UInt8) : (bc bs).size = bs.length := by simp [bc]
theorem bc_at (bs : List UInt8) (i : Nat) (h : i < bs.length) : (bc bs)[i]? = some (bv bs[i]) := by simp [bc, h]
theorem bc_set (bs : List UInt8) (i : Nat) (b : UInt8) : (bc bs).setIfInBounds i (bv b) = bc (bs.set i b) := by
  unfold bc
  rw [List.map_set]
  simp
theorem bc_list (bs : List UInt8) : (bc bs).toList = bs.map bv := rfl
theorem RowB.block {w : World} {g cap : Nat} {cur : Array Value} {bs : List UInt8} (hk : w.heap[g]? = some (.cells cur 5 (0, 0))) (ht : cur.toList.take bs.length = bs.map bv) : RowB w (.slice (some ⟨g, 0, none⟩) bs.length cap) bs :=
  RowB.of fun k hk' => by
    have e := congrArg (fun l => l[k]?) ht
    simp only [List.getElem?_take, if_pos hk', List.getElem?_map, Array.getElem?_toList] at e
    rw [Nat.zero_add, blk_cell hk, e]
    simp [hk']
theorem OwnRet.row {w w' : World} {bs : List UInt8} {n : Nat} {x : Ending} (hn : n = bs.length) (h : OwnRet 5 n (bs.map bv) w x w') : ∃ g cap, x = .returned (.slice (some ⟨g, 0, none⟩) n cap) ∧ RowB w' (.slice (some ⟨g, 0, none⟩) n cap) bs ∧ Below w.heap.size w w' := by
  obtain ⟨g, cap, cur, h1, h2, h3, h4, h5, h6⟩ := h
  subst hn
  exact ⟨g, cap, h1, RowB.block h4 h5, h6⟩
theorem xor_u8 (a b : UInt8) : bits .xor .u8 (a.toNat : Int) (b.toNat : Int) = ((a ^^^ b).toNat : Int) := by
  rw [u8_xor_nat _ _ a.toNat_lt b.toNat_lt, UInt8.toNat_xor]
set_option maxHeartbeats 4000000 in
theorem rKey_c (ks : List UInt8) (sv : Value) (w : World) (hn : ks.length ≤ 500000) (hs : RowB w sv ks) : Calls Tryz.prog 35 #[sv] w (OwnRet 5 64 ((keyB ks).map bv) w) := by
  have hKl := shortK_le ks
  have hKB : keyB ks = shortK ks ++ List.replicate (64 - (shortK ks).length) 0 := rfl
  have L64 := keyB_length ks
  have hSum := rSum_c ks sv w hn hs
  have hBy := fun w => rBytes_c (refSum ks) (refSum_length ks) w
  have L32 := refBytes_length (refSum ks) (refSum_length ks)
  obtain ⟨a0, c0, rfl⟩ : ∃ a c, sv = .slice a ks.length c := by
    obtain ⟨ao, cap, h, _⟩ := hs
    exact ⟨ao, cap, h⟩
  have hl1 : shortK ks = if 64 < ks.length then refBytes (refSum ks) else ks := rfl
  generalize keyB ks = KB at hKB L64 ⊢
  generalize refSum ks = rs at hSum hBy L32 hl1
  replace hl1 := Lib.hid hl1
  replace hKB := Lib.hid hKB
  replace L64 := Lib.hid L64
  replace L32 := Lib.hid L32
  generalize shortK ks = K at hKl hl1 hKB
  by_cases h64 : 64 < ks.length
  focus
    have h64' : (64 : Int) < (ks.length : Int) := by omega
    go_enter Tryz.func35, Tryz.ntmps35
    go_upto_region 3 with (first | (go_at_call 36; refine hSum.mono ?_; rintro e w1 ⟨rfl, hb1⟩) | (go_at_call 26; refine (hBy _).mono ?_; rintro e w2 ⟨g0, cap0, cur0, rfl, _, _, k0, t0, hb2⟩))
    have HB : Below w.heap.size w w2 := bl_call hb2 hb1
    obtain rfl : K = refBytes rs := by rw [hl1.out, if_pos h64]
    have HR : RowB w2 (.slice (some ⟨g0, 0, none⟩) 32 cap0) (refBytes rs) := by
      have := RowB.block (bs := refBytes rs) (cap := cap0) k0 (by rw [L32.out]; exact t0)
      rwa [L32.out] at this
    clear hb1 hb2 k0 t0 h64'
    generalize (Value.slice (some ⟨g0, 0, none⟩) 32 cap0) = sv at HR ⊢
    generalize refBytes rs = K at HR hKl hKB
    obtain ⟨ao, cap, rfl, hno, hcc⟩ := HR
  rotate_left
  focus
    have h64' : ¬ (64 : Int) < (ks.length : Int) := by omega
    obtain rfl : K = ks := by rw [hl1.out, if_neg h64]
    go_enter Tryz.func35, Tryz.ntmps35
    go_upto_region 3 with (fail)
    have HB : Below w.heap.size w w := Below.refl _ _
    obtain ⟨ao, cap, hsv, hno, hcc⟩ := hs
    cases hsv
    clear h64'
  rotate_left
  all_goals
    refine gen_world fun W0 hW0 => ?_
    have HB0 : Below w.heap.size w W0 := by subst hW0; exact HB
    simp only [← hW0] at hcc
    clear HB hW0
    go_upto_region 4 with (refine wpList_makeN rfl _ _ 36 rfl 5 (.int .u8 0) (.int .u8 0) 1 Tryz.underlying36 (by kernel_rfl) rfl (by omega) _ 64 rfl rfl rfl (by omega) ?_)
    refine gen_world fun W hW => ?_
    have k3 : W.heap[W0.heap.size]? = some (.cells ((List.replicate 64 (Value.int .u8 0)).toArray) 5 (0, 0)) := by subst hW; exact blk_new _ _
    have HG : Below W0.heap.size W0 W := by subst hW; (repeat (first | exact Below.refl _ _ | (refine bl_alloc ?_ _) | (refine bl_drewN ?_ _) | (refine bl_drew ?_) | (refine bl_call (by assumption) ?_) | (refine bl_set _ _ (by simp <;> omega) ?_) | assumption))
    have HB : Below w.heap.size w W := by subst hW; exact bl_alloc HB0 _
    have m3 : w.heap.size ≤ W0.heap.size := HB0.size
    clear hW HB0
    go_upto_region 4 with (fail)
    refine wp_region_R 2 [0, 3] (by kernel_rfl) (by kernel_rfl) (by kernel_rfl) (by kernel_rfl) ?_
    intro K_ ops_ hops_ hK
    replace hops_ := Lib.hid hops_
    apply Exists.intro
    intro R_ hb_
    simp only [↓baseR, ↓nthR_succ, ↓nthR_zero] at hb_
    simp only [List.take_succ_cons, List.take_zero, List.drop_succ_cons, List.drop_zero]
    repeat (first
      
      
      
      | (apply LexR_det (by rfl) (by rfl) (by rfl) (fun w1 hw1 hd1 => ?_) (fun _ hr_ => ?_); rotate_right 2; (go_simp; first | done | rfl ))
      | (apply LexR_box (by rfl) (by rfl) (by rfl) (fun w1 hw1 hd1 => ?_) (fun _ hr_ => ?_); rotate_right 2; (go_simp; first | done | rfl))
      | (apply LexR_bs (t := 76) (e := 80) (z := .agg #[.int .u32 0]) (ho := rfl) (by rfl) (by rfl) Tryz.underlying76 (by kernel_rfl) (by decide) (by decide) (fun _ => ?_) (fun _ => ?_) (fun _ => ?_) (fun _ hr_ => ?_); rotate_right 4; (go_simp; rfl); (exact ⟨rfl, rfl, rfl⟩); (simp only [List.map_cons, List.map_nil, List.flatMap_cons, List.flatMap_nil, Value.cells, List.cons_append, List.nil_append, List.append_nil]; rfl)))
    apply LexR_end
    refine hK _ _ ?_
    clear hK K_
    repeat clear hr_
    clear hb_ R_ hops_ ops_
    intro w1 hw1 hf1
    apply tailR (fun _ => ?_) (fun _ => ?_) ?_
    rotate_right 2
    · simp only [putAll, Act.put, List.setIfInBounds_toArray, List.set_cons_succ, List.set_cons_zero]; first | done | rfl
    · simp only [List.drop_succ_cons, List.drop_zero]; first | done | rfl
    simp [allFacts, contOf, Exp.putAt, Exp.fact, Exp.fresh, Exp.blk] at hf1
    clear hf1
    replace k3 := grow_blk hw1 k3
    replace HB := bl_call hw1 HB
    replace HG := bl_call hw1 HG
    clear hw1
    refine wpList_copy_splice rfl _ _ _ _ rfl 5 Tryz.underlying36 (by kernel_rfl) _ _ _ _ _ _ rfl rfl W0.heap.size 0 _ 5 k3 (K.map bv) (by rw [List.length_map]; exact (Nat.min_eq_left hKl).symm) (fun hp => ⟨rfl, ?_⟩) (by simp; omega) (fun v hv => by obtain ⟨b, _, rfl⟩ := List.mem_map.1 hv; rfl) w.heap.size w HB m3 ?_
    · have hp' : 0 < K.length := by simpa using hp
      obtain ⟨g, off, hg, _⟩ := hcc 0 hp'
      refine ⟨_, hg, fun j v hj => ?_⟩
      have hjl : j < K.length := by
        have := (List.getElem?_eq_some_iff.1 hj).1
        simpa using this
      obtain ⟨g', off', hg', hc⟩ := hcc j hjl
      rw [hg] at hg'
      cases hg'
      rw [Addr.add_lit, grow_cell HG hc]
      simpa [hjl] using hj
    · intro W3 hk3 HB3
      have hk4 := hk3.out
      go_wp2
      refine bodyPost_ret (v := .slice (some ⟨W0.heap.size, 0, none⟩) 64 64) (by simp [results, Tryz.results35, go_sem]) rfl ⟨W0.heap.size, 64, _, rfl, by omega, m3, hk4, ?_, HB3⟩
      rw [hKB.out]
      show List.take 64 (splice (List.replicate 64 (Value.int .u8 0)) 0 (K.map bv)) = _
      unfold splice
      rw [List.take_zero, List.nil_append, List.drop_replicate, List.length_map, Nat.zero_add, List.take_of_length_le (by simp; omega), List.map_append, List.map_replicate]
      rfl
def padZ (m : Nat) (bs : List UInt8) : List UInt8 := bs ++ List.replicate (m - bs.length) 0
theorem padZ_length (m : Nat) (bs : List UInt8) (h : bs.length ≤ m) : (padZ m bs).length = m := by simp [padZ]; omega
theorem padZ_set (m : Nat) (l : List UInt8) (hl : l.length = m) (n : Nat) (hn : n < m) : (padZ m (l.take n)).set n (l.getD n 0) = padZ m (l.take (n + 1)) := by
  have h0 : l.getD n 0 = l[n]'(by omega) := by simp [show n < l.length by omega]
  have h1 : (l.take n).length = n := by simp; omega
  have h2 : (l.take (n + 1)).length = n + 1 := by simp; omega
  unfold padZ
  rw [h0, h1, h2, List.set_append_right _ _ (by omega), h1, Nat.sub_self, show m - n = (m - (n + 1)) + 1 by omega, List.replicate_succ, List.set_cons_zero, List.take_succ_eq_append_getElem (by omega), List.append_assoc]
  rfl
set_option maxHeartbeats 4000000 in
theorem rWith_c (kb tb : List UInt8) (hk : kb.length = 64) (kv tv : Value) (c : UInt8) (v : Int) (hv : v = (c.toNat : Int)) (w : World) (hn : tb.length ≤ 500000) (hkv : RowB w kv kb) (htv : RowB w tv tb) : Calls Tryz.prog 37 #[kv, .int .u8 v, tv] w (OwnRet 5 (64 + tb.length) ((withB c kb ++ tb).map bv) w) := by
  subst hv
  have L64 := Lib.hid (show (withB c kb).length = 64 by rw [withB_length, hk])
  have hat : ∀ n (h : n < kb.length), bits .xor .u8 (kb[n].toNat : Int) (c.toNat : Int) = (((withB c kb).getD n 0).toNat : Int) := fun n h => by
    rw [xor_u8]; simp [withB, h]
  generalize withB c kb = X at L64 hat ⊢
  obtain ⟨ao, cap, rfl, hno, hcc⟩ := hkv
  obtain ⟨g0, off, rfl, _⟩ := hcc 0 (by omega)
  have hc : ∀ n (h : n < kb.length), w.cell? ⟨g0, off + n, none⟩ = some (.int .u8 (kb[n].toNat : Int)) := fun n h => by
    obtain ⟨g', off', e, q⟩ := hcc n h
    cases e
    exact q
  clear hcc hno
  replace hk := Lib.hid hk
  have hkl : (kb.length : Int) = 64 := by rw [hk.out]; rfl
  replace hkl := Lib.hid hkl
  obtain ⟨kl, hkl2⟩ : ∃ n, n = kb.length := ⟨_, rfl⟩
  rw [← hkl2]
  have hkl3 : (64 : Int) ≤ (kl : Int) := by rw [hkl2, hkl.out]; omega
  replace hkl2 := Lib.hid hkl2
  obtain ⟨ta, tc, rfl⟩ : ∃ a c, tv = .slice a tb.length c := by
    obtain ⟨ao, cap, h, _⟩ := htv
    exact ⟨ao, cap, h⟩
  go_enter Tryz.func37, Tryz.ntmps37
  go_upto_region 2 with (refine wpList_makeN rfl _ _ 36 rfl 5 (.int .u8 0) (.int .u8 0) 1 Tryz.underlying36 (by kernel_rfl) rfl (by omega) _ 64 rfl rfl rfl (by omega) ?_)
  refine gen_world fun W hW => ?_
  have k7 : W.heap[w.heap.size]? = some (.cells (bc (padZ 64 (X.take 0))) 5 (0, 0)) := by subst hW; exact blk_new _ _
  have HB : Below w.heap.size w W := by subst hW; (repeat (first | exact Below.refl _ _ | (refine bl_alloc ?_ _) | (refine bl_drewN ?_ _) | (refine bl_drew ?_) | (refine bl_call (by assumption) ?_) | (refine bl_set _ _ (by simp <;> omega) ?_) | assumption))
  clear hW
  go_wp2_with fail
  have HB0 := HB
  have k70 := k7
  clear HB k7
  go_loopw [8] (fun i wr => ∃ n : Nat, n ≤ 64 ∧ i = .int .i64 (n : Int) ∧ Below w.heap.size w wr ∧ wr.heap[w.heap.size]? = some (.cells (bc (padZ 64 (X.take n))) 5 (0, 0))) (fun i _ => 64 - (intOf i).toNat)
  case atStart => exact ⟨0, by omega, rfl, HB0, k70⟩
  case round =>
    clear HB0 k70
    obtain ⟨n, hn2, rfl, HB, k7⟩ := hrel
    have pn : (0 : Int) ≤ (n : Int) := by omega
    by_cases hlt : n < 64
    · have hlt' : (n : Int) < 64 := by omega
      have hlt2 : (n : Int) < (kl : Int) := by omega
      have hnk : n < kb.length := by rw [hk.out]; exact hlt
      have ck := grow_cell HB (hc n hnk)
      have hx := hat n hnk
      have c7 := blk_cell k7 n
      rw [bc_at _ _ (by rw [padZ_length _ _ (by simp; omega)]; exact hlt)] at c7
      generalize (padZ 64 (X.take n))[n]'(by rw [padZ_length _ _ (by simp; omega)]; exact hlt) = old at c7
      have f7 := blk_frozen k7 n
      have hs := padZ_set 64 X L64.out n hlt
      replace hs := Lib.hid hs
      generalize X.getD n 0 = y at hx hs
      generalize kb[n].toNat = kn at ck hx
      go_upto_region 4 with (fail)
      refine gen_world fun W2 hW => ?_
      replace HB : Below w.heap.size w W2 := by subst hW; exact bl_set _ _ (by simp) HB
      replace k7 : W2.heap[w.heap.size]? = some (.cells (bc (padZ 64 (X.take (n + 1)))) 5 (0, 0)) := by
        subst hW
        rw [← hs.out, ← bc_set]
        exact blk_set k7 n _
      clear hW c7 f7 ck hx
      go_wp2_with fail
      go_roundw
      case measure => simp [intOf] <;> omega
      exact ⟨n + 1, by omega, congrArg (Value.int .i64) (by omega), HB, k7⟩
    · obtain rfl : n = 64 := by omega
      have hlt' : ¬ ((64 : Nat) : Int) < 64 := by omega
      rw [List.take_of_length_le (by rw [L64.out]; omega), show padZ 64 X = X by simp [padZ, L64.out]] at k7
      have hO : wr.ownsRow w.heap.size 5 1 (.slice (some ⟨w.heap.size, 0, none⟩) 64 64) 64 (X.map bv) := ⟨by rw [List.length_map, L64.out], .inr ⟨w.heap.size, 64, bc X, rfl, Nat.le_refl _, k7, Nat.le_refl _, by simp [maxLen], by rw [bc_size, L64.out], by rw [bc_list, List.take_of_length_le (by rw [List.length_map, L64.out]; omega)]⟩⟩
      go_upto_region 6 with (fail)
      go_wp2_with (refine wpList_app_rowB rfl _ _ rfl w.heap.size (.slice (some ⟨w.heap.size, 0, none⟩) 64 64) (.slice ta tb.length tc) 64 (X.map bv) tb rfl hO rfl (htv.grow HB) (by omega) HB.size ?_; intro sv3 w3 hO3 hg3 _)
      have HB3 : Below w.heap.size w w3 := HB.grown hg3 HB.size (by simp [Value.ownBlock])
      rcases hO3.2 with ⟨_, q⟩ | ⟨g3, cap3, cur3, rfl, hg4, hk4, _, hm4, _, ht4⟩
      · omega
      refine bodyPost_ret (v := .slice (some ⟨g3, 0, none⟩) (64 + tb.length) cap3) (by simp [results, Tryz.results37, go_sem]) rfl ⟨g3, cap3, cur3, rfl, by simp only [maxLen] at hm4; omega, hg4, hk4, by rw [Nat.mul_one] at ht4; first | exact ht4 | (rw [List.map_append]; exact ht4), HB3⟩
set_option maxHeartbeats 4000000 in
theorem rMac_c (ks tb : List UInt8) (kv tv : Value) (w : World) (hk : ks.length ≤ 400000) (hn : tb.length ≤ 400000) (hkv : RowB w kv ks) (htv : RowB w tv tb) : Calls Tryz.prog 27 #[kv, tv] w fun e w' => e = .returned (.agg (cw (macw ks tb))) ∧ Below w.heap.size w w' := by
  have hfin : refSum (withB 92 (keyB ks) ++ refBytes (refSum (withB 54 (keyB ks) ++ tb))) = macw ks tb := rfl
  have hKey : ∀ w1, Below w.heap.size w w1 → _ := fun w1 hw1 => rKey_c ks kv w1 (by omega) (hkv.grow hw1)
  have LK := Lib.hid (keyB_length ks)
  have l54 : (withB 54 (keyB ks) ++ tb).length = 64 + tb.length := by rw [List.length_append, withB_length, LK.out]
  have hW54 : ∀ kv' w1, Below w.heap.size w w1 → RowB w1 kv' (keyB ks) → _ := fun kv' w1 hw1 hr => rWith_c (keyB ks) tb LK.out kv' tv 54 54 rfl w1 (by omega) hr (htv.grow hw1)
  have LM := Lib.hid (refSum_length (withB 54 (keyB ks) ++ tb))
  have hS54 := fun sv w1 h => rSum_c (withB 54 (keyB ks) ++ tb) sv w1 (by rw [l54]; omega) h
  generalize withB 54 (keyB ks) ++ tb = X54 at l54 hW54 hS54 hfin LM
  generalize refSum X54 = mid at hS54 hfin LM
  have hBy := fun w => rBytes_c mid LM.out w
  have LB := Lib.hid (refBytes_length mid LM.out)
  have hB : ∀ (g cap : Nat) (cur : Array Value) (w1 : World), w1.heap[g]? = some (.cells cur 5 (0, 0)) → cur.toList.take 32 = (refBytes mid).map bv → RowB w1 (.slice (some ⟨g, 0, none⟩) 32 cap) (refBytes mid) := fun g cap cur w1 h1 h2 => by
    have := RowB.block (bs := refBytes mid) (cap := cap) h1 (by rw [LB.out]; exact h2)
    rwa [LB.out] at this
  have l92 : (withB 92 (keyB ks) ++ refBytes mid).length = 64 + 32 := by rw [List.length_append, withB_length, LK.out, LB.out]
  have hW92 : ∀ kv' tv' w1, RowB w1 kv' (keyB ks) → RowB w1 tv' (refBytes mid) → _ := fun kv' tv' w1 hr ht => rWith_c (keyB ks) (refBytes mid) LK.out kv' tv' 92 92 rfl w1 (by rw [LB.out]; omega) hr ht
  have L8 := Lib.hid (refSum_length (withB 92 (keyB ks) ++ refBytes mid))
  have hS92 := fun sv w1 h => rSum_c (withB 92 (keyB ks) ++ refBytes mid) sv w1 (by rw [l92]; omega) h
  rw [LB.out] at hW92
  generalize withB 92 (keyB ks) ++ refBytes mid = X92 at l92 hW92 hS92 hfin L8
  rw [hfin] at hS92 L8
  clear hfin
  generalize macw ks tb = fin at hS92 L8 ⊢
  generalize keyB ks = K at hKey hW54 hW92 LK
  generalize refBytes mid = rb at hBy hB hW92 LB
  replace l54 := Lib.hid l54
  replace l92 := Lib.hid l92
  go_enter Tryz.func27, Tryz.ntmps27
  go_upto_region 1 with (fail)
  refine gen_world fun W hW => ?_
  have k4 : W.heap[w.heap.size]? = some (.cells (Array.replicate 8 (.int .u32 0)) 54 (0, 0)) := by subst hW; exact blk_new' (by simp) _
  have HB : Below w.heap.size w W := by subst hW; (repeat (first | exact Below.refl _ _ | (refine bl_alloc ?_ _) | (refine bl_drewN ?_ _) | (refine bl_drew ?_) | (refine bl_call (by assumption) ?_) | (refine bl_set _ _ (by simp <;> omega) ?_) | assumption))
  clear hW
  have q4 := blk_lt k4
  go_upto_region 2 with (go_at_call 35; refine (hKey _ HB).mono ?_; intro e w1 ho; obtain ⟨g5, cap5, rfl, hr5, hb5⟩ := ho.row LK.out.symm)
  replace k4 := grow_blk hb5 k4
  replace HB := bl_call hb5 HB
  clear hb5
  go_upto_region 3 with (first | (go_at_call 37; refine (hW54 _ _ HB hr5).mono ?_; intro e w2 ho; obtain ⟨g6, cap6, rfl, hr6, hb6⟩ := ho.row l54.out.symm) | (go_at_call 36; refine (hS54 _ _ hr6).mono ?_; rintro e w3 ⟨rfl, hb7⟩) | (refine wpList_store_row rfl _ _ _ rfl w3.heap.size (cw mid) rfl rfl 54 _ (blk_new w3 _) (by rw [cw_size, LM.out]; kernel_rfl) (by rw [cw_size, LM.out]; rfl) (cw_one _) ?_))
  refine gen_world fun W3 hW => ?_
  have hb8 := bl_call hb7 hb6
  replace k4 := grow_blk hb8 k4
  replace hr5 := hr5.grow hb8
  replace HB := bl_call hb8 HB
  clear hb6 hb7 hb8 hr6
  have q4' := blk_lt k4
  have k6 : W3.heap[w3.heap.size]? = some (.cells (cw mid) 54 (0, 0)) := by subst hW; exact setRow_blk (blk_new w3 _) _
  have HB8 : Below w3.heap.size w3 W3 := by subst hW; exact bl_row _ _ (Nat.le_refl _) (bl_alloc (Below.refl _ _) _)
  replace k4 := grow_blk HB8 k4
  replace hr5 := hr5.grow HB8
  replace HB := bl_call HB8 HB
  obtain ⟨g6', hg6'⟩ : ∃ g, g = w3.heap.size := ⟨_, rfl⟩
  rw [← hg6'] at k6 q4' ⊢
  clear hW HB8 hg6'
  have k60 := k6
  have k40 := k4
  go_wp2_with (first | (refine wpList_load_row rfl _ _ rfl g6' rfl 54 (cw mid) (0, 0) _ k6 Tryz.underlying54 rfl (by rw [cw_size, LM.out]; kernel_rfl) ?_) | (go_at_call 26; refine (hBy _).mono ?_; rintro e w9 ⟨g9, cap9, cur9, rfl, _, _, k9, t9, hb9⟩; have hr9 := hB _ cap9 _ _ k9 t9; replace hr5 := hr5.grow hb9; replace k4 := grow_blk hb9 k4) | (go_at_call 37; refine (hW92 _ _ _ hr5 hr9).mono ?_; intro e w10 ho; obtain ⟨g10, cap10, rfl, hr10, hb10⟩ := ho.row l92.out.symm; replace k4 := grow_blk hb10 k4) | (go_at_call 36; refine (hS92 _ _ hr10).mono ?_; rintro e w11 ⟨rfl, hb11⟩; replace k4 := grow_blk hb11 k4) | (refine wpList_store_row rfl _ _ _ rfl w.heap.size (cw fin) rfl rfl 54 _ k4 (by rw [cw_size, L8.out]; kernel_rfl) (by rw [cw_size, L8.out]; rfl) (cw_one _) ?_))
  refine bodyPost_ret (v := .agg (cw fin)) (results_cell_row Tryz.results27 _ _ (w.heap.size) 54 (cw fin) (0, 0) _ rfl (setRow_blk k4 _) Tryz.underlying54 rfl (by rw [cw_size, L8.out]; kernel_rfl)) rfl ⟨rfl, bl_row _ _ (Nat.le_refl _) (bl_call hb11 (bl_call hb10 (bl_call hb9 HB)))⟩
end Go.Proofs.YthnackakgglhbaaGreat

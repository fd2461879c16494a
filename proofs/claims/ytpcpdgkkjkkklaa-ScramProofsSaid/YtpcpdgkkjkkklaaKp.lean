/- Keys of passwords, without program; contracts of pbkdf.Key. -/
import Derived.Test.YtpcpdgkkjkkklaaL17b
namespace Go.Proofs.Ytpcpdgkkjkkklaa
open Go.RowKit
set_option maxRecDepth 100000
set_option linter.unusedSimpArgs false
set_option linter.unusedVariables false
attribute [local go_sem] evR_tmp evR_const evR_global evR_func
def xorAt (o u : List W32) (j : Nat) : List W32 := (List.range 8).map fun i => if i < j then at32 o i ^^^ at32 u i else at32 o i
def uAt (kb st : List UInt8) : Nat → List W32
  | 0 => macK kb (st ++ [0, 0, 0, 1])
  | n + 1 => macK kb (refBytes (uAt kb st n))
def outAt (kb st : List UInt8) : Nat → List W32
  | 0 => uAt kb st 0
  | n + 1 => xorAt (outAt kb st n) (uAt kb st (n + 1)) 8
theorem xorAt_length (o u : List W32) (j : Nat) : (xorAt o u j).length = 8 := by simp [xorAt]
theorem uAt_length (kb st : List UInt8) : ∀ n, (uAt kb st n).length = 8
  | 0 => macK_length _ _
  | n + 1 => macK_length _ _
theorem outAt_length (kb st : List UInt8) : ∀ n, (outAt kb st n).length = 8
  | 0 => uAt_length _ _ _
  | n + 1 => xorAt_length _ _ _
theorem ext8 (xs ys : List W32) (hx : xs.length = 8) (hy : ys.length = 8) (h : ∀ k, k < 8 → at32 xs k = at32 ys k) : xs = ys := by
  apply List.ext_getElem (by omega)
  intro k h1 h2
  have := h k (by omega)
  simpa [at32, h1, h2] using this
theorem xorAt_at (o u : List W32) (j i : Nat) (hi : i < 8) : at32 (xorAt o u j) i = if i < j then at32 o i ^^^ at32 u i else at32 o i := by
  unfold xorAt at32
  simp [hi]
theorem xorAt_zero (o u : List W32) (h : o.length = 8) : xorAt o u 0 = o := ext8 _ _ (xorAt_length _ _ _) h fun k hk => by rw [xorAt_at _ _ _ _ hk, if_neg (by omega)]
theorem xorAt_set (o u : List W32) (j : Nat) (hj : j < 8) : (xorAt o u j).set j (at32 (xorAt o u j) j ^^^ at32 u j) = xorAt o u (j + 1) := by
  refine ext8 _ _ (by rw [List.length_set, xorAt_length]) (xorAt_length _ _ _) fun k hk => ?_
  rw [xorAt_at _ _ _ _ hk, xorAt_at _ _ _ _ hj, if_neg (by omega)]
  by_cases q : k = j
  · subst q
    simp [at32, xorAt_length, hk]
  · have e : at32 ((xorAt o u j).set j (at32 o j ^^^ at32 u j)) k = at32 (xorAt o u j) k := by
      simp only [at32, List.getD_eq_getElem?_getD]
      rw [List.getElem?_set_ne (Ne.symm q)]
    rw [e, xorAt_at _ _ _ _ hk]
    by_cases z : k < j
    · rw [if_pos z, if_pos (by omega)]
    · rw [if_neg z, if_neg (by omega)]
set_option maxHeartbeats 8000000 in
theorem pKey_c (kb : List UInt8) (hk : kb.length = 64) (s : ByteArray) (hs : s.size ≤ 100000) (m : Nat) (hm : m + 1 ≤ 16777216) (w : World) : Calls Try.prog 36 #[.agg (cw (stateW kb)), .string s, .int .i64 ((m : Int) + 1)] w fun e w' => e = .returned (.tuple #[.agg (cw (outAt kb s.data.toList m)), .bool true]) ∧ Below w.heap.size w w' := by
  have hsz : (s ++ (⟨#[0, 0, 0, 1]⟩ : ByteArray)).size ≤ 500000 := by rw [ByteArray.size_append]; show s.size + 4 ≤ 500000; omega
  have hT := fun w => hText_c kb hk (s ++ ⟨#[0, 0, 0, 1]⟩) hsz w
  have hd : (s ++ (⟨#[0, 0, 0, 1]⟩ : ByteArray)).data.toList = s.data.toList ++ [0, 0, 0, 1] := by rw [ByteArray.data_append, Array.toList_append]
  rw [hd] at hT
  have hS : ∀ (g cap : Nat) (cur : Array Value) (w1 : World) (mid : List W32), mid.length = 8 → w1.heap[g]? = some (.cells cur 36 (0, 0)) → cur.toList.take 32 = (bytesw mid).map sec → Calls Try.prog 50 #[.agg (cw (stateW kb)), .slice (some ⟨g, 0, none⟩) 32 cap] w1 fun e w' => e = .returned (.agg (cw (macK kb (refBytes mid)))) ∧ Below w1.heap.size w1 w' := fun g cap cur w1 mid hl h1 h2 => by
    have := hSum_c kb hk (bytesw mid) (.slice (some ⟨g, 0, none⟩) 32 cap) w1 (by rw [bytesw_length mid hl]; omega) (list_slice h1 h2 (bytesw_length mid hl).symm)
    rw [show lowB (bytesw mid) = refBytes mid from bytes_eq mid] at this
    exact this
  have hu0 : macK kb (s.data.toList ++ [0, 0, 0, 1]) = uAt kb s.data.toList 0 := rfl
  rw [hu0] at hT
  have hun : ∀ k, macK kb (refBytes (uAt kb s.data.toList k)) = uAt kb s.data.toList (k + 1) := fun k => rfl
  have hS2 : ∀ (k g cap : Nat) (cur : Array Value) (w1 : World), w1.heap[g]? = some (.cells cur 36 (0, 0)) → cur.toList.take 32 = (bytesw (uAt kb s.data.toList k)).map sec → Calls Try.prog 50 #[.agg (cw (stateW kb)), .slice (some ⟨g, 0, none⟩) 32 cap] w1 fun e w' => e = .returned (.agg (cw (uAt kb s.data.toList (k + 1)))) ∧ Below w1.heap.size w1 w' := fun k g cap cur w1 h1 h2 => by
    rw [← hun]
    exact hS g cap cur w1 _ (uAt_length _ _ _) h1 h2
  have LU := Lib.hid (fun k => uAt_length kb s.data.toList k)
  have LO := Lib.hid (fun k => outAt_length kb s.data.toList k)
  have ho0 : outAt kb s.data.toList 0 = uAt kb s.data.toList 0 := rfl
  have hon : ∀ k, outAt kb s.data.toList (k + 1) = xorAt (outAt kb s.data.toList k) (uAt kb s.data.toList (k + 1)) 8 := fun k => rfl
  have L16 := Lib.hid (stateW_length kb)
  clear hS hu0 hun hd hk
  generalize stateW kb = st at hT hS2 L16 ⊢
  generalize outAt kb s.data.toList = ou at LO ho0 hon ⊢
  generalize uAt kb s.data.toList = ua at hT hS2 LU ho0 hon
  replace ho0 := Lib.hid ho0
  replace hon := Lib.hid hon
  obtain ⟨n, hn⟩ : ∃ n, n = (m : Int) + 1 := ⟨_, rfl⟩
  have hm1 : ¬ n < 1 := by omega
  have hm2 : n ≤ 16777216 := by omega
  have hm3 : n - 1 = (m : Int) := by omega
  rw [← hn]
  replace hn := Lib.hid hn
  replace hm := Lib.hid hm
  go_enter Try.func36, Try.ntmps36
  go_upto_region 1 with (fail)
  refine gen_world fun W hW => ?_
  have k3 : W.heap[w.heap.size]? = some (.cells (cw st) 68 (0, 0)) := by subst hW; (repeat (first | (with_reducible assumption) | ((with_reducible refine blk_new' ?_ _); (simp; done)) | ((with_reducible refine blk_alloc ?_ _)) | ((with_reducible refine blk_far ?_ ?_ _); (simp <;> omega))))
  have k6 : W.heap[w.heap.size + 1]? = some (.cells (Array.replicate 8 (.int .u32 0)) 37 (0, 0)) := by subst hW; exact blk_new' (by simp) _
  have HB : Below w.heap.size w W := by subst hW; (repeat (first | exact Below.refl _ _ | (refine bl_alloc ?_ _) | (refine bl_drewN ?_ _) | (refine bl_drew ?_) | (refine bl_call (by assumption) ?_) | (refine bl_set _ _ (by simp <;> omega) ?_) | assumption))
  clear hW
  go_upto_region 4 with (first | (refine wpList_load_row rfl _ _ rfl w.heap.size rfl 68 (cw st) (0, 0) _ k3 Try.underlying68 rfl (by rw [cw_size, L16.out]; kernel_rfl) ?_) | (go_at_call 42; refine (hT _).mono ?_; rintro e w2 ⟨rfl, hw2⟩) | (refine wpList_store_row rfl _ _ _ rfl w2.heap.size (cw (ua 0)) rfl rfl 37 _ (blk_new w2 _) (by rw [cw_size, LU.out]; kernel_rfl) (by rw [cw_size, LU.out]; rfl) (cw_one _) ?_))
  refine gen_world fun W2 hW => ?_
  have k8 : W2.heap[w2.heap.size]? = some (.cells (cw (ua 0)) 37 (0, 0)) := by subst hW; exact setRow_blk (blk_new w2 _) _
  have hb2 : Below w2.heap.size w2 W2 := by subst hW; exact bl_row _ _ (Nat.le_refl _) (bl_alloc (Below.refl _ _) _)
  have q6 := blk_lt k6
  have m8 : w.heap.size + 1 < w2.heap.size := by have := hw2.size; omega
  have hb3 := bl_call hb2 hw2
  replace k3 := grow_blk hb3 k3
  replace k6 := grow_blk hb3 k6
  replace HB := bl_call hb3 HB
  obtain ⟨g8, hg8⟩ : ∃ g, g = w2.heap.size := ⟨_, rfl⟩
  rw [← hg8] at k8 m8 ⊢
  clear hW hb2 hb3 hw2 hg8 q6
  have q8 := blk_lt k8
  have L8 := Lib.hid (LU.out 0)
  refine wp_region_R 3 [8] (by kernel_rfl) (by kernel_rfl) (by kernel_rfl) (by kernel_rfl) ?_
  intro K_ ops_ hops_ hK
  replace hops_ := Lib.hid hops_
  apply Exists.intro
  intro R_ hb_
  simp only [↓baseR, ↓nthR_succ, ↓nthR_zero] at hb_
  simp only [List.take_succ_cons, List.take_zero, List.drop_succ_cons, List.drop_zero]
  repeat (first
    | (apply LexR_det (by rfl) (by rfl) (by rfl) (fun w1 hw1 hd1 => ?_) (fun _ hr_ => ?_); rotate_right 2; (refine run_load_rowR (ty := 37) rfl ?_ (grow_blk hw1 k8) Try.underlying37 rfl ?_; (focus (go_simp; done)); (rw [cw_size, LU.out]; kernel_rfl)))
    | (apply LexR_put (j := 1) (ho := rfl); (go_simp; rfl); (go_simp; rfl); rfl; rfl; (focus (first | decide | (simp; done))); rfl; rfl; kernel_rfl; kernel_rfl; (first | exact cw_one _ | simp [Value.oneCell']); (first | (rw [cw_size, L64.out]; rfl) | (rw [cw_size, L8.out]; rfl) | (rw [cw_size]; rfl) | rfl); intro _)
    
    | (apply LexR_det (by rfl) (by rfl) (by rfl) (fun w1 hw1 hd1 => ?_) (fun _ hr_ => ?_); rotate_right 2; (go_simp; first | done | rfl ))
    | (apply LexR_box (by rfl) (by rfl) (by rfl) (fun w1 hw1 hd1 => ?_) (fun _ hr_ => ?_); rotate_right 2; (go_simp; first | done | rfl))
    | (apply LexR_bs (t := 60) (e := 36) (z := .agg #[.int .u32 0]) (ho := rfl) (by rfl) (by rfl) Try.underlying60 (by kernel_rfl) (by decide) (by decide) (fun _ => ?_) (fun _ => ?_) (fun _ => ?_) (fun _ hr_ => ?_); rotate_right 4; (go_simp; rfl); (exact ⟨rfl, rfl, rfl⟩); (simp only [List.map_cons, List.map_nil, List.flatMap_cons, List.flatMap_nil, Value.cells, List.cons_append, List.nil_append, List.append_nil]; rfl)))
  apply LexR_end
  refine hK _ _ ?_
  clear hK K_
  repeat clear hr_
  clear hb_ R_ hops_ ops_
  intro w1 hw1 hf1
  apply tailR (fun _ => ?_) (fun _ => ?_) ?_
  rotate_right 2
  · simp only [putAll, Act.put, List.setIfInBounds_toArray, List.set_cons_succ, List.set_cons_zero]; first | done | rfl
  · simp only [List.drop_succ_cons, List.drop_zero]; first | done | rfl
  simp [allFacts, contOf, Exp.putAt, Exp.fact, Exp.fresh, Exp.blk] at hf1
  obtain ⟨k9, l9⟩ := hf1
  obtain ⟨g9, e_⟩ := name_blk k9
  subst e_
  replace k3 := grow_blk hw1 k3
  replace k6 := grow_blk hw1 k6
  replace k8 := grow_blk hw1 k8
  replace HB := bl_call hw1 HB
  have m9 : g8 < g9 := by omega
  clear hw1 l9 q8 L8
  rw [← ho0.out] at k9
  go_upto_region 6 with (fail)
  go_wp2_with fail
  have HB0 := HB
  have k30 := k3
  have k60 := k6
  have k80 := k8
  have k90 := k9
  clear HB k3 k6 k8 k9
  go_loopw [25] (fun i wr => ∃ k : Nat, k ≤ m ∧ i = .int .i64 (k : Int) ∧ Below w.heap.size w wr ∧ wr.heap[w.heap.size]? = some (.cells (cw st) 68 (0, 0)) ∧ wr.heap[w.heap.size + 1]? = some (.cells (Array.replicate 8 (.int .u32 0)) 37 (0, 0)) ∧ wr.heap[g8]? = some (.cells (cw (ua k)) 37 (0, 0)) ∧ wr.heap[g9]? = some (.cells (cw (ou k)) 37 (0, 0))) (fun i _ => m - (intOf i).toNat)
  case atStart => exact ⟨0, by omega, rfl, HB0, k30, k60, k80, k90⟩
  case round =>
    clear HB0 k30 k60 k80 k90
    obtain ⟨k, hk, rfl, HB, k3, k6, k8, k9⟩ := hrel
    have pk : (0 : Int) ≤ (k : Int) := by omega
    by_cases hlt : k < m
    · have hlt' : (k : Int) < (m : Int) := by omega
      have bk : (k : Int) ≤ 100000000 := by have := hm.out; omega
      have LUk := Lib.hid (LU.out k)
      have LU1 := Lib.hid (LU.out (k + 1))
      have LOk := Lib.hid (LO.out k)
      have hon1 := Lib.hid (hon.out k)
      have hB := fun w => Bytes_own (ua k) LUk.out w
      have hS3 := hS2 k
      generalize hua : ua (k + 1) = un at LU1 hon1 hS3
      generalize hou : ou (k + 1) = on at hon1
      replace hua := Lib.hid hua
      replace hou := Lib.hid hou
      generalize huk : ua k = uk at k8 LUk hB hS3
      clear huk
      generalize hok : ou k = ok at k9 LOk hon1
      clear hok
      go_upto_region 7 with (fail)
      refine wp_region_R 4 [3, 8] (by kernel_rfl) (by kernel_rfl) (by kernel_rfl) (by kernel_rfl) ?_
      intro K_ ops_ hops_ hK
      replace hops_ := Lib.hid hops_
      apply Exists.intro
      intro R_ hb_
      simp only [↓baseR, ↓nthR_succ, ↓nthR_zero] at hb_
      simp only [List.take_succ_cons, List.take_zero, List.drop_succ_cons, List.drop_zero]
      repeat (first
        | (apply LexR_det (by rfl) (by rfl) (by rfl) (fun w1 hw1 hd1 => ?_) (fun _ hr_ => ?_); rotate_right 2; (refine run_load_rowR (ty := 68) rfl ?_ (grow_blk hw1 k3) Try.underlying68 rfl ?_; (focus (go_simp; done)); (rw [cw_size, L16.out]; kernel_rfl))) | (apply LexR_det (by rfl) (by rfl) (by rfl) (fun w1 hw1 hd1 => ?_) (fun _ hr_ => ?_); rotate_right 2; (refine run_load_rowR (ty := 37) rfl ?_ (grow_blk hw1 k8) Try.underlying37 rfl ?_; (focus (go_simp; done)); (rw [cw_size, LUk.out]; kernel_rfl)))
        
        | (apply LexR_own (f := 33) (by rfl) (by rfl) (by rfl) Try.func33 (by kernel_rfl) (by kernel_rfl) (fun _ => ?_) (fun w1 hw1 hd1 => ?_) (fun _ hr_ => ?_); rotate_right 3; (go_simp; first | done | rfl); exact (hB w1)) | (apply LexR_callF (f := 50) (by rfl) (by rfl) (by rfl) Try.func50 (by kernel_rfl) (by kernel_rfl) (fun _ => ?_) (fun w1 hw1 hd1 => ?_) (fun _ hr_ => ?_); rotate_right 3; (go_simp; first | done | rfl); (simp [depFacts, needs, Region.binds, Exp.dep] at hd1; obtain ⟨cur_, hk_, ht_⟩ := hd1; exact hS3 _ _ cur_ w1 hk_ (by first | exact ht_ | simpa using ht_)))
        | (apply LexR_det (by rfl) (by rfl) (by rfl) (fun w1 hw1 hd1 => ?_) (fun _ hr_ => ?_); rotate_right 2; (go_simp; first | done | rfl ))
        | (apply LexR_box (by rfl) (by rfl) (by rfl) (fun w1 hw1 hd1 => ?_) (fun _ hr_ => ?_); rotate_right 2; (go_simp; first | done | rfl))
        | (apply LexR_bs (t := 60) (e := 36) (z := .agg #[.int .u32 0]) (ho := rfl) (by rfl) (by rfl) Try.underlying60 (by kernel_rfl) (by decide) (by decide) (fun _ => ?_) (fun _ => ?_) (fun _ => ?_) (fun _ hr_ => ?_); rotate_right 4; (go_simp; rfl); (exact ⟨rfl, rfl, rfl⟩); (simp only [List.map_cons, List.map_nil, List.flatMap_cons, List.flatMap_nil, Value.cells, List.cons_append, List.nil_append, List.append_nil]; rfl)))
      apply LexR_end
      refine hK _ _ ?_
      clear hK K_
      repeat clear hr_
      clear hb_ R_ hops_ ops_
      intro w1 hw1 hf1
      apply tailR (fun _ => ?_) (fun _ => ?_) ?_
      rotate_right 2
      · simp only [putAll, Act.put, List.setIfInBounds_toArray, List.set_cons_succ, List.set_cons_zero]; first | done | rfl
      · simp only [List.drop_succ_cons, List.drop_zero]; first | done | rfl
      simp [allFacts, contOf, Exp.putAt, Exp.fact, Exp.fresh, Exp.blk] at hf1
      clear hf1 hB hS3
      replace k3 := grow_blk hw1 k3
      replace k6 := grow_blk hw1 k6
      replace k8 := grow_blk hw1 k8
      replace k9 := grow_blk hw1 k9
      replace HB := bl_call hw1 HB
      clear hw1
      refine wpList_store_row rfl _ _ _ rfl g8 (cw un) rfl rfl 37 _ k8 (by rw [cw_size, LU1.out]; kernel_rfl) (by rw [cw_size, cw_size, LU1.out, LUk.out]) (cw_one _) ?_
      refine gen_list fun W2 hW => ?_
      replace HB : Below w.heap.size w W2 := by subst hW; exact bl_row _ _ (by omega) HB
      replace k3 := far_row hW k3 (by omega)
      replace k6 := far_row hW k6 (by omega)
      replace k9 := far_row hW k9 (by omega)
      replace k8 : W2.heap[g8]? = some (.cells (cw un) 37 (0, 0)) := by subst hW; exact setRow_blk k8 _
      clear hW LUk
      go_upto_region 9 with (fail)
      go_wp2_with fail
      have HB0 := HB
      have k30 := k3
      have k60 := k6
      have k80 := k8
      have k90 : W2.heap[g9]? = some (.cells (cw (xorAt ok un 0)) 37 (0, 0)) := by rw [xorAt_zero _ _ LOk.out]; exact k9
      clear HB k3 k6 k8 k9
      go_loopw [31] (fun i wr => ∃ j : Nat, j ≤ 8 ∧ i = .int .i64 (j : Int) ∧ Below w.heap.size w wr ∧ wr.heap[w.heap.size]? = some (.cells (cw st) 68 (0, 0)) ∧ wr.heap[w.heap.size + 1]? = some (.cells (Array.replicate 8 (.int .u32 0)) 37 (0, 0)) ∧ wr.heap[g8]? = some (.cells (cw un) 37 (0, 0)) ∧ wr.heap[g9]? = some (.cells (cw (xorAt ok un j)) 37 (0, 0))) (fun i _ => 8 - (intOf i).toNat)
      case atStart => exact ⟨0, by omega, rfl, HB0, k30, k60, k80, k90⟩
      case round =>
        clear HB0 k30 k60 k80 k90
        obtain ⟨j, hj, rfl, HB, k3, k6, k8, k9⟩ := hrel
        have pj : (0 : Int) ≤ (j : Int) := by omega
        by_cases hlj : j < 8
        · have hlj' : (j : Int) < 8 := by omega
          have c8 := blk_cell k8 j
          rw [cw_at _ _ (by rw [LU1.out]; exact hlj)] at c8
          have c9 := blk_cell k9 j
          rw [cw_at _ _ (by rw [xorAt_length]; exact hlj)] at c9
          go_upto_region 11 with (fail)
          refine wp_region_R 9 [8, 9, 10] (by kernel_rfl) (by kernel_rfl) (by kernel_rfl) (by kernel_rfl) ?_
          intro K_ ops_ hops_ hK
          replace hops_ := Lib.hid hops_
          apply Exists.intro
          intro R_ hb_
          simp only [↓baseR, ↓nthR_succ, ↓nthR_zero] at hb_
          simp only [List.take_succ_cons, List.take_zero, List.drop_succ_cons, List.drop_zero]
          repeat (first
            
            
            | (apply LexR_callF (f := 51) (by rfl) (by rfl) (by rfl) Try.func51 (by kernel_rfl) (by kernel_rfl) (fun _ => ?_) (fun w1 hw1 hd1 => ?_) (fun _ hr_ => ?_); rotate_right 3; (go_simp; first | done | rfl); exact (Xor_c _ _ w1))
            | (apply LexR_det (by rfl) (by rfl) (by rfl) (fun w1 hw1 hd1 => ?_) (fun _ hr_ => ?_); rotate_right 2; (go_simp; first | done | rfl | (rw [grow_cell hw1 c8]; focus ((try simp); first | done | rfl)) | (rw [grow_cell hw1 c9]; focus ((try simp); first | done | rfl))))
            | (apply LexR_box (by rfl) (by rfl) (by rfl) (fun w1 hw1 hd1 => ?_) (fun _ hr_ => ?_); rotate_right 2; (go_simp; first | done | rfl))
            | (apply LexR_bs (t := 60) (e := 36) (z := .agg #[.int .u32 0]) (ho := rfl) (by rfl) (by rfl) Try.underlying60 (by kernel_rfl) (by decide) (by decide) (fun _ => ?_) (fun _ => ?_) (fun _ => ?_) (fun _ hr_ => ?_); rotate_right 4; (go_simp; rfl); (exact ⟨rfl, rfl, rfl⟩); (simp only [List.map_cons, List.map_nil, List.flatMap_cons, List.flatMap_nil, Value.cells, List.cons_append, List.nil_append, List.append_nil]; rfl)))
          apply LexR_end
          refine hK _ _ ?_
          clear hK K_
          repeat clear hr_
          clear hb_ R_ hops_ ops_
          intro w1 hw1 hf1
          apply tailR (fun _ => ?_) (fun _ => ?_) ?_
          rotate_right 2
          · simp only [putAll, Act.put, List.setIfInBounds_toArray, List.set_cons_succ, List.set_cons_zero]; first | done | rfl
          · simp only [List.drop_succ_cons, List.drop_zero]; first | done | rfl
          simp [allFacts, contOf, Exp.putAt, Exp.fact, Exp.fresh, Exp.blk] at hf1
          clear hf1 c8 c9
          replace k3 := grow_blk hw1 k3
          replace k6 := grow_blk hw1 k6
          replace k8 := grow_blk hw1 k8
          replace k9 := grow_blk hw1 k9
          replace HB := bl_call hw1 HB
          clear hw1
          have cs := blk_cell k9 j
          rw [cw_at _ _ (by rw [xorAt_length]; exact hlj)] at cs
          have fs := blk_frozen k9 j
          go_wp2_with fail
          go_roundw
          case measure => simp [intOf] <;> omega
          refine ⟨j + 1, by omega, congrArg (Value.int .i64) (by omega), bl_set _ _ (by simp <;> omega) HB, blk_far k3 (by simp <;> omega) _, blk_far k6 (by simp <;> omega) _, blk_far k8 (by simp <;> omega) _, ?_⟩
          rw [← xorAt_set ok un j hlj, ← cw_set]
          exact blk_set k9 j _
        · obtain rfl : j = 8 := by omega
          have hlj' : ¬ ((8 : Nat) : Int) < 8 := by omega
          rw [← hon1.out] at k9
          go_wp2_with fail
          refine ⟨⟨k + 1, by omega, congrArg (Value.int .i64) (by omega), HB, k3, k6, by rw [hua.out]; exact k8, by rw [hou.out]; exact k9⟩, by simp [intOf]; omega⟩
    · obtain rfl : k = m := by omega
      have hlt' : ¬ (k : Int) < (k : Int) := by omega
      have L8 := Lib.hid (LO.out k)
      clear k3 k8
      go_upto_region 14 with (fail)
      refine wp_region_lit ?_
      refine wpList_load_row rfl _ _ rfl g9 rfl 37 (cw (ou k)) (0, 0) _ k9 Try.underlying37 rfl (by rw [cw_size, L8.out]; kernel_rfl) ?_
      refine wpList_store_row rfl _ _ _ rfl (w.heap.size + 1) (cw (ou k)) rfl rfl 37 _ k6 (by rw [cw_size, L8.out]; kernel_rfl) (by rw [cw_size, L8.out]; rfl) (cw_one _) ?_
      refine gen_list fun W2 hW => ?_
      replace k6 : W2.heap[w.heap.size + 1]? = some (.cells (cw (ou k)) 37 (0, 0)) := by subst hW; exact setRow_blk k6 _
      replace HB : Below w.heap.size w W2 := by subst hW; exact bl_row _ _ (by omega) HB
      clear hW k9
      go_wp2
      exact bodyPost_ret (v := .tuple #[.agg (cw (ou k)), .bool true]) (results_cell_row_tmp Try.results36 _ _ (w.heap.size + 1) 37 (cw (ou k)) (0, 0) _ _ rfl rfl k6 Try.underlying37 rfl (by rw [cw_size, L8.out]; kernel_rfl)) rfl ⟨rfl, HB⟩
end Go.Proofs.Ytpcpdgkkjkkklaa

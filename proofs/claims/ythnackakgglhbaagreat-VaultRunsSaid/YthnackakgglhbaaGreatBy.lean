/- Contract of sha.Bytes. -/
import Derived.Test.YthnackakgglhbaaGreatOw
import Derived.OwnWalk
namespace Go.Proofs.YthnackakgglhbaaGreat
open Go.RowKit
set_option maxRecDepth 100000
set_option linter.unusedSimpArgs false
set_option linter.unusedVariables false
attribute [local go_sem] evR_tmp evR_const evR_global evR_func
/-- A word's bytes, the first j of them. -/
def byteQ (x : W32) (j : Nat) : List W32 := (List.range j).map fun (i : Nat) => shrI x (24 - 8 * (i : Int)) &&& kw 255
def bytesw (hs : List W32) : List W32 := hs.flatMap fun x => byteQ x 4
def bytesTo (hs : List W32) (i j : Nat) : List W32 := (hs.take i).flatMap (fun x => byteQ x 4) ++ byteQ (at32 hs i) j
theorem byteQ_length (x : W32) (j : Nat) : (byteQ x j).length = j := by simp [byteQ]
theorem bytesTo_snoc (hs : List W32) (i j : Nat) : bytesTo hs i (j + 1) = bytesTo hs i j ++ [shrI (at32 hs i) (24 - 8 * (j : Int)) &&& kw 255] := by
  simp [bytesTo, byteQ, List.range_succ]
theorem bytesTo_next (hs : List W32) (i : Nat) (hi : i < hs.length) : bytesTo hs (i + 1) 0 = bytesTo hs i 4 := by
  have e : at32 hs i = hs[i] := by simp [at32, hi]
  unfold bytesTo
  rw [List.take_succ_eq_append_getElem hi, List.flatMap_append, e]
  simp [byteQ]
theorem flat4 : ∀ l : List W32, (l.flatMap fun x => byteQ x 4).length = 4 * l.length
  | [] => rfl
  | x :: r => by rw [List.flatMap_cons, List.length_append, flat4 r, byteQ_length, List.length_cons]; omega
theorem bytesTo_start (hs : List W32) : bytesTo hs 0 0 = [] := by simp [bytesTo, byteQ]
theorem bytesTo_end (hs : List W32) (h : hs.length = 8) : bytesTo hs 8 0 = bytesw hs := by
  unfold bytesTo bytesw
  rw [List.take_of_length_le (by omega)]
  simp [byteQ]
theorem bytesTo_length (hs : List W32) (h : hs.length = 8) (i j : Nat) (hi : i ≤ 8) : (bytesTo hs i j).length = 4 * i + j := by
  unfold bytesTo
  rw [List.length_append, flat4, byteQ_length, List.length_take, h]
  omega
theorem ShrAny_c (x : W32) (n : Int) (h0 : 0 ≤ n) (h1 : n ≤ 31) (w : World) : Calls Tryz.prog 67 #[.agg #[.int .u32 (iw x)], .int .i64 n] w fun e w' => e = .returned (.agg #[.int .u32 (iw (shrI x n))]) ∧ Below w.heap.size w w' := by
  by_cases h : n = 0
  · subst h
    have e : shrI x 0 = x := by simp [shrI]
    rw [e]; exact Shr0_c x w
  · exact Shr_c x n (by omega) h1 w
set_option maxHeartbeats 4000000 in
theorem Bytes_c (hs : List W32) (hh : hs.length = 8) (w : World) : Calls Tryz.prog 45 #[.agg (cw hs)] w fun e w' => ∃ sv, e = .returned sv ∧ OwnW w' w.heap.size sv (bytesw hs) ∧ Below w.heap.size w w' := by
  have L8 := Lib.hid hh
  clear hh
  go_enter Tryz.func45, Tryz.ntmps45
  go_upto_region 1 with (fail)
  refine gen_world fun W hW => ?_
  have k1 : W.heap[w.heap.size]? = some (.cells (cw hs) 81 (0, 0)) := by subst hW; (repeat (first | (with_reducible assumption) | ((with_reducible refine blk_new' ?_ _); (simp; done)) | ((with_reducible refine blk_alloc ?_ _)) | ((with_reducible refine blk_far ?_ ?_ _); (simp <;> omega))))
  have HB : Below w.heap.size w W := by subst hW; (repeat (first | exact Below.refl _ _ | (refine bl_alloc ?_ _) | (refine bl_drewN ?_ _) | (refine bl_drew ?_) | (refine bl_call (by assumption) ?_) | (refine bl_set _ _ (by simp <;> omega) ?_) | assumption))
  clear hW
  refine wp_region_lit ?_
  refine wpList_make0 rfl _ _ 76 rfl w.heap.size 80 (.agg #[.int .u32 0]) 8 Tryz.underlying76 (by kernel_rfl) (by decide) 32 32 rfl rfl rfl (by decide) HB.size ?_
  intro W1 hO hg
  have HO : OwnW W1 w.heap.size (.slice (some ⟨W.heap.size, 0, none⟩) 0 32) (bytesTo hs 0 0) := by rw [bytesTo_start]; exact OwnW.empty hO
  replace k1 := grown_blk hg k1 (by simp)
  replace HB : Below w.heap.size w W1 := HB.grown hg HB.size (by simp)
  generalize (Value.slice (some ⟨W.heap.size, 0, none⟩) 0 32) = sv0 at HO ⊢
  clear hO hg
  go_upto_region 2 with (fail)
  refine wp_region_R 2 [1] (by kernel_rfl) (by kernel_rfl) (by kernel_rfl) (by kernel_rfl) ?_
  intro K_ ops_ hops_ hK
  replace hops_ := Lib.hid hops_
  apply Exists.intro
  intro R_ hb_
  simp only [↓baseR, ↓nthR_succ, ↓nthR_zero] at hb_
  simp only [List.take_succ_cons, List.take_zero, List.drop_succ_cons, List.drop_zero]
  repeat (first
    | (apply LexR_det (by rfl) (by rfl) (by rfl) (fun w1 hw1 hd1 => ?_) (fun _ hr_ => ?_); rotate_right 2; (refine run_load_rowR (ty := 81) rfl ?_ (grow_blk hw1 k1) Tryz.underlying81 rfl ?_; (focus (go_simp; done)); (rw [cw_size, L8.out]; kernel_rfl)))
    
    
    | (apply LexR_det (by rfl) (by rfl) (by rfl) (fun w1 hw1 hd1 => ?_) (fun _ hr_ => ?_); rotate_right 2; (go_simp; first | done | rfl ))
    | (apply LexR_box (by rfl) (by rfl) (by rfl) (fun w1 hw1 hd1 => ?_) (fun _ hr_ => ?_); rotate_right 2; (go_simp; first | done | rfl))
    | (apply LexR_bs (t := 76) (e := 80) (z := .agg #[.int .u32 0]) (ho := rfl) (by rfl) (by rfl) Tryz.underlying76 (by kernel_rfl) (by decide) (by decide) (fun _ => ?_) (fun _ => ?_) (fun _ => ?_) (fun _ hr_ => ?_); rotate_right 4; (go_simp; rfl); (exact ⟨rfl, rfl, rfl⟩); (simp only [List.map_cons, List.map_nil, List.flatMap_cons, List.flatMap_nil, Value.cells, List.cons_append, List.nil_append, List.append_nil]; rfl)))
  apply LexR_end
  refine hK _ _ ?_
  clear hK K_
  repeat clear hr_
  clear hb_ R_ hops_ ops_
  intro w1 hw1 hf1
  apply tailR (fun _ => ?_) (fun _ => ?_) ?_
  rotate_right 2
  · simp only [putAll, Act.put, List.setIfInBounds_toArray, List.set_cons_succ, List.set_cons_zero]; first | done | rfl
  · simp only [List.drop_succ_cons, List.drop_zero]; first | done | rfl
  simp [allFacts, contOf, Exp.putAt, Exp.fact, Exp.fresh, Exp.blk] at hf1
  clear hf1 k1
  replace HO := HO.grow hw1
  replace HB := bl_call hw1 HB
  clear hw1
  have HO0 := HO
  have HB0 := HB
  clear HO HB
  go_wp2_with fail
  go_loopw [9, 3] (fun i sv wr => ∃ k : Nat, k ≤ 8 ∧ i = .int .i64 (k : Int) ∧ OwnW wr w.heap.size sv (bytesTo hs k 0) ∧ Below w.heap.size w wr) (fun i _ _ => 8 - (intOf i).toNat)
  case atStart => exact ⟨0, by omega, rfl, HO0, HB0⟩
  case round =>
    clear HO0 HB0
    obtain ⟨k, hk, rfl, HO, HB⟩ := hrel
    by_cases hlt : k < 8
    · have hlt' : (k : Int) < 8 := by omega
      have pk : (0 : Int) ≤ (k : Int) := by omega
      have ck : (cw hs)[((k : Nat) : Int).toNat]? = some (.int .u32 (iw (at32 hs k))) := by rw [Int.toNat_natCast]; exact cw_at hs k (by rw [L8.out]; exact hlt)
      go_upto_region 4 with (fail)
      refine wp_region_R 3 [8, 9] (by kernel_rfl) (by kernel_rfl) (by kernel_rfl) (by kernel_rfl) ?_
      intro K_ ops_ hops_ hK
      replace hops_ := Lib.hid hops_
      apply Exists.intro
      intro R_ hb_
      simp only [↓baseR, ↓nthR_succ, ↓nthR_zero] at hb_
      simp only [List.take_succ_cons, List.take_zero, List.drop_succ_cons, List.drop_zero]
      repeat (first
        | (apply LexR_det (by rfl) (by rfl) (by rfl) (fun w1 hw1 hd1 => ?_) (fun _ hr_ => ?_); rotate_right 2; (refine run_index_cellR rfl ?_ ?_ Tryz.underlying81 Tryz.underlying80 (by kernel_rfl) pk hlt' ck; (focus (go_simp; done)); (focus (go_simp; done))))
        | (apply LexR_put (j := 1) (ho := rfl); (go_simp; rfl); (go_simp; rfl); rfl; rfl; (focus (first | decide | (simp; done))); rfl; rfl; kernel_rfl; kernel_rfl; (first | exact cw_one _ | simp [Value.oneCell']); (first | (rw [cw_size, L64.out]; rfl) | (rw [cw_size, L8.out]; rfl) | (rw [cw_size]; rfl) | rfl); intro _)
        
        | (apply LexR_det (by rfl) (by rfl) (by rfl) (fun w1 hw1 hd1 => ?_) (fun _ hr_ => ?_); rotate_right 2; (go_simp; first | done | rfl ))
        | (apply LexR_box (by rfl) (by rfl) (by rfl) (fun w1 hw1 hd1 => ?_) (fun _ hr_ => ?_); rotate_right 2; (go_simp; first | done | rfl))
        | (apply LexR_bs (t := 76) (e := 80) (z := .agg #[.int .u32 0]) (ho := rfl) (by rfl) (by rfl) Tryz.underlying76 (by kernel_rfl) (by decide) (by decide) (fun _ => ?_) (fun _ => ?_) (fun _ => ?_) (fun _ hr_ => ?_); rotate_right 4; (go_simp; rfl); (exact ⟨rfl, rfl, rfl⟩); (simp only [List.map_cons, List.map_nil, List.flatMap_cons, List.flatMap_nil, Value.cells, List.cons_append, List.nil_append, List.append_nil]; rfl)))
      apply LexR_end
      refine hK _ _ ?_
      clear hK K_
      repeat clear hr_
      clear hb_ R_ hops_ ops_
      intro w1 hw1 hf1
      apply tailR (fun _ => ?_) (fun _ => ?_) ?_
      rotate_right 2
      · simp only [putAll, Act.put, List.setIfInBounds_toArray, List.set_cons_succ, List.set_cons_zero]; first | done | rfl
      · simp only [List.drop_succ_cons, List.drop_zero]; first | done | rfl
      simp [allFacts, contOf, Exp.putAt, Exp.fact, Exp.fresh, Exp.blk] at hf1
      obtain ⟨k5, l5⟩ := hf1
      obtain ⟨g5, e_⟩ := name_blk k5
      subst e_
      have hne : u3.ownBlock ≠ some g5 := fun q => by have := (ownsRow_lt HO q).2; omega
      have m5 : w.heap.size ≤ g5 := by have := HB.size; omega
      replace HO := HO.grow hw1
      replace HB := bl_call hw1 HB
      clear hw1 l5 ck
      have HO0 := HO
      have HB0 := HB
      have k50 := k5
      have hne0 := hne
      clear HO HB k5 hne
      go_wp2_with fail
      go_loopw [6, 3] (fun i sv wr => ∃ j : Nat, j ≤ 4 ∧ i = .int .i64 (24 - 8 * (j : Int)) ∧ OwnW wr w.heap.size sv (bytesTo hs k j) ∧ Below w.heap.size w wr ∧ wr.heap[g5]? = some (.cells #[.int .u32 (iw (at32 hs k))] 80 (0, 0)) ∧ sv.ownBlock ≠ some g5) (fun i _ _ => (intOf i + 8).toNat)
      case atStart => exact ⟨0, by omega, rfl, HO0, HB0, k50, hne0⟩
      case round =>
        clear HO0 HB0 k50 hne0
        obtain ⟨j, hj, rfl, HO, HB, k5, hne⟩ := hrel
        by_cases hlj : j < 4
        · have pj : (0 : Int) ≤ 24 - 8 * (j : Int) := by omega
          have bj : 24 - 8 * (j : Int) ≤ 24 := by omega
          go_upto_region 8 with (fail)
          refine wp_region_R 7 [3, 5, 6] (by kernel_rfl) (by kernel_rfl) (by kernel_rfl) (by kernel_rfl) ?_
          intro K_ ops_ hops_ hK
          replace hops_ := Lib.hid hops_
          apply Exists.intro
          intro R_ hb_
          simp only [↓baseR, ↓nthR_succ, ↓nthR_zero] at hb_
          simp only [List.take_succ_cons, List.take_zero, List.drop_succ_cons, List.drop_zero]
          repeat (first
            
            
            | (apply LexR_callF (f := 67) (by rfl) (by rfl) (by rfl) Tryz.func67 (by kernel_rfl) (by kernel_rfl) (fun _ => ?_) (fun w1 hw1 hd1 => ?_) (fun _ hr_ => ?_); rotate_right 3; (go_simp; first | done | rfl); exact (ShrAny_c _ _ (by omega) (by omega) w1)) | (apply LexR_callF (f := 68) (by rfl) (by rfl) (by rfl) Tryz.func68 (by kernel_rfl) (by kernel_rfl) (fun _ => ?_) (fun w1 hw1 hd1 => ?_) (fun _ hr_ => ?_); rotate_right 3; (go_simp; first | done | rfl); exact (Of_c _ (kw 255) rfl w1)) | (apply LexR_callF (f := 66) (by rfl) (by rfl) (by rfl) Tryz.func66 (by kernel_rfl) (by kernel_rfl) (fun _ => ?_) (fun w1 hw1 hd1 => ?_) (fun _ hr_ => ?_); rotate_right 3; (go_simp; first | done | rfl); exact (And_c _ _ w1))
            | (apply LexR_det (by rfl) (by rfl) (by rfl) (fun w1 hw1 hd1 => ?_) (fun _ hr_ => ?_); rotate_right 2; (go_simp; first | done | rfl | (rw [blk_cell (grow_blk hw1 k5)]; focus ((try simp); first | done | rfl))))
            | (apply LexR_box (by rfl) (by rfl) (by rfl) (fun w1 hw1 hd1 => ?_) (fun _ hr_ => ?_); rotate_right 2; (go_simp; first | done | rfl))
            | (apply LexR_bs (t := 76) (e := 80) (z := .agg #[.int .u32 0]) (ho := rfl) (by rfl) (by rfl) Tryz.underlying76 (by kernel_rfl) (by decide) (by decide) (fun _ => ?_) (fun _ => ?_) (fun _ => ?_) (fun _ hr_ => ?_); rotate_right 4; (go_simp; rfl); (exact ⟨rfl, rfl, rfl⟩); (simp only [List.map_cons, List.map_nil, List.flatMap_cons, List.flatMap_nil, Value.cells, List.cons_append, List.nil_append, List.append_nil]; rfl)))
          apply LexR_end
          refine hK _ _ ?_
          clear hK K_
          repeat clear hr_
          clear hb_ R_ hops_ ops_
          intro w1 hw1 hf1
          apply tailR (fun _ => ?_) (fun _ => ?_) ?_
          rotate_right 2
          · simp only [putAll, Act.put, List.setIfInBounds_toArray, List.set_cons_succ, List.set_cons_zero]; first | done | rfl
          · simp only [List.drop_succ_cons, List.drop_zero]; first | done | rfl
          simp [allFacts, contOf, Exp.putAt, Exp.fact, Exp.fresh, Exp.blk] at hf1
          obtain ⟨k22, l22⟩ := hf1
          obtain ⟨g22, e_⟩ := name_blk k22
          subst e_
          replace HO := HO.grow hw1
          replace HB := bl_call hw1 HB
          replace k5 := grow_blk hw1 k5
          clear hw1 l22
          have c22 := blk_cell k22 0
          refine wpList_app1 rfl _ _ 76 rfl w.heap.size 80 (.agg #[.int .u32 0]) 8 Tryz.underlying76 (by kernel_rfl) rfl (by decide) u3 _ _ rfl HO g22 1 (sec (shrI (at32 hs k) (24 - 8 * (j : Int)) &&& kw 255)) rfl c22 rfl (by rw [bytesTo_length hs L8.out k j hk]; omega) HB.size ?_
          intro g cap W2 hO hg hsv hgl
          have q5 := blk_lt k5
          replace k5 := grown_blk hg k5 hne
          replace HB := grown_below HB hg HB.size fun g hg' => (ownsRow_lt HO hg').1
          replace hne : (Value.slice (some ⟨g, 0, none⟩) ((bytesTo hs k j).length + 1) cap).ownBlock ≠ some g5 := by
            rcases hsv with q | q
            · rw [show (Value.slice (some ⟨g, 0, none⟩) ((bytesTo hs k j).length + 1) cap).ownBlock = some g from rfl, ← q]; exact hne
            · intro z
              have : g = g5 := by simpa [Value.ownBlock] using z
              omega
          replace HO : OwnW W2 w.heap.size (.slice (some ⟨g, 0, none⟩) ((bytesTo hs k j).length + 1) cap) (bytesTo hs k (j + 1)) := by rw [bytesTo_snoc]; exact OwnW.snoc rfl hO
          generalize (Value.slice (some ⟨g, 0, none⟩) ((bytesTo hs k j).length + 1) cap) = sv2 at HO hne ⊢
          clear hO hg hsv hgl c22 k22 q5
          go_wp2_with fail
          refine ⟨⟨j + 1, by omega, congrArg (Value.int .i64) (by omega), HO, HB, k5, hne⟩, by simp [intOf]; omega⟩
        · obtain rfl : j = 4 := by omega
          go_wp2_with fail
          refine ⟨⟨k + 1, by omega, congrArg (Value.int .i64) (by omega), ?_, HB⟩, by simp [intOf]; omega⟩
          rw [bytesTo_next hs k (by rw [L8.out]; exact hlt)]; exact HO
    · obtain rfl : k = 8 := by omega
      rw [bytesTo_end hs L8.out] at HO
      go_wp2
      exact bodyPost_ret (v := u3) (by simp [results, Tryz.results45, go_sem]) rfl ⟨u3, rfl, HO, HB⟩
end Go.Proofs.YthnackakgglhbaaGreat

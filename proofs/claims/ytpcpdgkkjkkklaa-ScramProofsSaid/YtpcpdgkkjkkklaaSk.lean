/- Contracts of scram's parts: told, secret, Xor; of the reference's mac, sum, Xor. -/
import Derived.Test.YtpcpdgkkjkkklaaKr
namespace Go.Proofs.Ytpcpdgkkjkkklaa
open Go.RowKit Go.Lib
set_option maxRecDepth 100000
set_option linter.unusedSimpArgs false
set_option linter.unusedVariables false
attribute [local go_sem] evR_tmp evR_const evR_global evR_func
set_option maxHeartbeats 4000000 in
theorem told_c (mid : List W32) (hm : mid.length = 8) (w : World) : Calls Try.prog 25 #[.agg (cw mid)] w fun e w' => e = .returned (.string ⟨(refBytes mid).toArray⟩) ∧ Below w.heap.size w w' := by
  have hfin : bytesOf (bytesw mid) = ⟨(refBytes mid).toArray⟩ := bytesOf_is _
  have L8 := Lib.hid hm
  have hBy := fun w => Bytes2_c mid hm w
  have LB := Lib.hid (bytesw_length _ hm)
  generalize bytesw mid = bw at hBy hfin LB
  generalize refBytes mid = fin at hfin ⊢
  replace hfin := Lib.hid hfin
  clear hm
  go_enter Try.func25, Try.ntmps25
  go_upto_region 3 with (fail)
  refine gen_world fun W hW => ?_
  have k1 : W.heap[w.heap.size]? = some (.cells (cw mid) 37 (0, 0)) := by subst hW; (repeat (first | (with_reducible assumption) | ((with_reducible refine blk_new' ?_ _); (simp; done)) | ((with_reducible refine blk_alloc ?_ _)) | ((with_reducible refine blk_far ?_ ?_ _); (simp <;> omega))))
  have HB : Below w.heap.size w W := by subst hW; (repeat (first | exact Below.refl _ _ | (refine bl_alloc ?_ _) | (refine bl_drewN ?_ _) | (refine bl_drew ?_) | (refine bl_call (by assumption) ?_) | (refine bl_set _ _ (by simp <;> omega) ?_) | assumption))
  clear hW
  go_upto_region 4 with (first | (refine wpList_load_row rfl _ _ rfl w.heap.size rfl 37 (cw mid) (0, 0) _ k1 Try.underlying37 rfl (by rw [cw_size, L8.out]; kernel_rfl) ?_) | (go_at_call 33; refine (hBy _).mono ?_; rintro e w4 ⟨g, cap, rfl, hg, HR, hb4⟩))
  replace HB : Below w.heap.size w w4 := bl_call hb4 HB
  clear hb4 hg k1 hBy
  have HO0 : w4.ownsRow w.heap.size 5 1 (.slice none 0 0) 0 ((bw.take 0).map byv) := World.ownsRow_nil _ _ _ _
  have HB0 := HB
  have HR0 := HR
  clear HB HR
  go_loopw [10, 3] (fun i sv wr => ∃ k : Nat, k ≤ 32 ∧ i = .int .i64 (k : Int) ∧ Below w.heap.size w wr ∧ Row wr g 0 bw ∧ wr.ownsRow w.heap.size 5 1 sv k ((bw.take k).map byv) ∧ sv.ownBlock ≠ some g) (fun i _ _ => 32 - (intOf i).toNat)
  case atStart => exact ⟨0, by omega, rfl, HB0, HR0, HO0, by simp [Value.ownBlock]⟩
  case round =>
    clear HB0 HR0 HO0
    obtain ⟨k, hk, rfl, HB, HR, HO, hne⟩ := hrel
    have pk : (0 : Int) ≤ (k : Int) := by omega
    by_cases hlt2 : k < 32
    · have hlt3 : (k : Int) < 32 := by omega
      have ck : wr.cell? ⟨g, k, none⟩ = some (.int .u32 (iw (at32 bw k))) := by have := HR k (by rw [LB.out]; exact hlt2); rwa [Nat.zero_add] at this
      have qg := cell_lt' ck
      go_upto_region 5 with (fail)
      refine wp_region_R 4 [8, 10] (by kernel_rfl) (by kernel_rfl) (by kernel_rfl) (by kernel_rfl) ?_
      intro K_ ops_ hops_ hK
      replace hops_ := Lib.hid hops_
      apply Exists.intro
      intro R_ hb_
      simp only [↓baseR, ↓nthR_succ, ↓nthR_zero] at hb_
      simp only [List.take_succ_cons, List.take_zero, List.drop_succ_cons, List.drop_zero]
      repeat (first
        
        | (apply LexR_put (j := 2) (ho := rfl); (go_simp; rfl); (go_simp; rfl); rfl; rfl; (focus (first | decide | (simp; done))); rfl; rfl; kernel_rfl; kernel_rfl; (first | exact cw_one _ | simp [Value.oneCell']); (first | (rw [cw_size, L64.out]; rfl) | (rw [cw_size, L8.out]; rfl) | (rw [cw_size]; rfl) | rfl); intro _)
        
        | (apply LexR_det (by rfl) (by rfl) (by rfl) (fun w1 hw1 hd1 => ?_) (fun _ hr_ => ?_); rotate_right 2; (go_simp; first | done | rfl | (rw [grow_cell hw1 ck]; focus ((try simp); first | done | rfl))))
        | (apply LexR_box (by rfl) (by rfl) (by rfl) (fun w1 hw1 hd1 => ?_) (fun _ hr_ => ?_); rotate_right 2; (go_simp; first | done | rfl))
        | (apply LexR_bs (t := 60) (e := 36) (z := .agg #[.int .u32 0]) (ho := rfl) (by rfl) (by rfl) Try.underlying60 (by kernel_rfl) (by decide) (by decide) (fun _ => ?_) (fun _ => ?_) (fun _ => ?_) (fun _ hr_ => ?_); rotate_right 4; (go_simp; rfl); (exact ⟨rfl, rfl, rfl⟩); (simp only [List.map_cons, List.map_nil, List.flatMap_cons, List.flatMap_nil, Value.cells, List.cons_append, List.nil_append, List.append_nil]; rfl)))
      apply LexR_end
      refine hK _ _ ?_
      clear hK K_
      repeat clear hr_
      clear hb_ R_ hops_ ops_
      intro w1 hw1 hf1
      apply tailR (fun _ => ?_) (fun _ => ?_) ?_
      rotate_right 2
      · simp only [putAll, Act.put, List.setIfInBounds_toArray, List.set_cons_succ, List.set_cons_zero]; first | done | rfl
      · simp only [List.drop_succ_cons, List.drop_zero]; first | done | rfl
      simp [allFacts, contOf, Exp.putAt, Exp.fact, Exp.fresh, Exp.blk] at hf1
      obtain ⟨k8, l8⟩ := hf1
      obtain ⟨g8, e_⟩ := name_blk k8
      subst e_
      replace HB := bl_call hw1 HB
      replace HR := HR.grow hw1
      replace HO := ownsRow_block HO fun g hg => hw1.block g (ownsRow_lt HO hg).2
      clear hw1 l8 ck qg
      go_upto_region 6 with (fail)
      have q8 := blk_lt k8
      refine wp_region_R 6 [3, 4, 6] (by kernel_rfl) (by kernel_rfl) (by kernel_rfl) (by kernel_rfl) ?_
      intro K_ ops_ hops_ hK
      replace hops_ := Lib.hid hops_
      apply Exists.intro
      intro R_ hb_
      simp only [↓baseR, ↓nthR_succ, ↓nthR_zero] at hb_
      simp only [List.take_succ_cons, List.take_zero, List.drop_succ_cons, List.drop_zero]
      repeat (first
        
        | (apply LexR_bs (t := 42) (e := 5) (z := .int .u8 0) (ho := rfl) (by rfl) (by rfl) Try.underlying42 (by kernel_rfl) (by decide) (by decide) (fun _ => ?_) (fun _ => ?_) (fun _ => ?_) (fun _ hr_ => ?_); rotate_right 4; (go_simp; rfl); (exact ⟨rfl, rfl, rfl⟩); (simp only [List.map_cons, List.map_nil, List.flatMap_cons, List.flatMap_nil, Value.cells, List.cons_append, List.nil_append, List.append_nil]; rfl))
        | (apply LexR_callF (f := 39) (by rfl) (by rfl) (by rfl) Try.func39 (by kernel_rfl) (by kernel_rfl) (fun _ => ?_) (fun w1 hw1 hd1 => ?_) (fun _ hr_ => ?_); rotate_right 3; (go_simp; first | done | rfl); exact (Release_nil_c _ w1))
        | (apply LexR_det (by rfl) (by rfl) (by rfl) (fun w1 hw1 hd1 => ?_) (fun _ hr_ => ?_); rotate_right 2; (go_simp; first | done | rfl | (rw [blk_cell (grow_blk hw1 k8)]; focus ((try simp); first | done | rfl))))
        | (apply LexR_box (by rfl) (by rfl) (by rfl) (fun w1 hw1 hd1 => ?_) (fun _ hr_ => ?_); rotate_right 2; (go_simp; first | done | rfl))
        | (apply LexR_bs (t := 60) (e := 36) (z := .agg #[.int .u32 0]) (ho := rfl) (by rfl) (by rfl) Try.underlying60 (by kernel_rfl) (by decide) (by decide) (fun _ => ?_) (fun _ => ?_) (fun _ => ?_) (fun _ hr_ => ?_); rotate_right 4; (go_simp; rfl); (exact ⟨rfl, rfl, rfl⟩); (simp only [List.map_cons, List.map_nil, List.flatMap_cons, List.flatMap_nil, Value.cells, List.cons_append, List.nil_append, List.append_nil]; rfl)))
      apply LexR_end
      refine hK _ _ ?_
      clear hK K_
      repeat clear hr_
      clear hb_ R_ hops_ ops_
      intro w1 hw1 hf1
      apply tailR (fun _ => ?_) (fun _ => ?_) ?_
      rotate_right 2
      · simp only [putAll, Act.put, List.setIfInBounds_toArray, List.set_cons_succ, List.set_cons_zero]; first | done | rfl
      · simp only [List.drop_succ_cons, List.drop_zero]; first | done | rfl
      simp [allFacts, contOf, Exp.putAt, Exp.fact, Exp.fresh, Exp.blk] at hf1
      obtain ⟨k39, l39⟩ := hf1
      obtain ⟨g39, e_⟩ := name_blk k39
      subst e_
      rw [wrap_byte] at k39
      replace HB := bl_call hw1 HB
      replace HR := HR.grow hw1
      replace HO := ownsRow_block HO fun g hg => hw1.block g (ownsRow_lt HO hg).2
      clear hw1 l39 q8 k8
      have c39 := blk_cell k39 0
      refine wpList_app1 rfl _ _ 42 rfl w.heap.size 5 (.int .u8 0) 1 Try.underlying42 (by kernel_rfl) rfl (by decide) u3 k _ rfl HO g39 1 (byv (at32 bw k)) rfl c39 rfl (by omega) HB.size ?_
      intro g3 cap3 W2 hO hgr hsv hgl
      have qg : g < w1.heap.size := cell_lt' (HR k (by rw [LB.out]; exact hlt2))
      replace HR : Row W2 g 0 bw := HR.block (hgr.block g qg fun q => hne q.symm)
      replace HB := grown_below HB hgr HB.size fun g hg' => (ownsRow_lt HO hg').1
      have hne2 : (Value.slice (some ⟨g3, 0, none⟩) (k + 1) cap3).ownBlock ≠ some g := by
        intro z
        have e : g3 = g := by simpa [Value.ownBlock] using z
        rcases hsv with q | q
        · exact hne (by rw [q, e])
        · omega
      replace HO : W2.ownsRow w.heap.size 5 1 (.slice (some ⟨g3, 0, none⟩) (k + 1) cap3) (k + 1) ((bw.take (k + 1)).map byv) := by
        rw [List.take_succ_eq_append_getElem (by rw [LB.out]; exact hlt2), List.map_append, show bw[k]'(by rw [LB.out]; exact hlt2) = at32 bw k by simp [at32, LB.out, hlt2]]
        exact hO
      generalize (Value.slice (some ⟨g3, 0, none⟩) (k + 1) cap3) = sv2 at HO hne2 ⊢
      clear hO hgr hsv hgl c39 k39 qg
      go_wp2_with fail
      go_roundw
      case measure => simp [intOf] <;> omega
      refine ⟨k + 1, by omega, congrArg (Value.int .i64) (by omega), HB, HR, HO, hne2⟩
    · obtain rfl : k = 32 := by omega
      have hlt3 : ¬ ((32 : Nat) : Int) < 32 := by omega
      rw [List.take_of_length_le (by rw [LB.out]; omega)] at HO
      obtain ⟨g3, cap3, rfl, _, _⟩ := World.ownsRow.form HO (by omega)
      have hcell : ∀ i, i < 32 → wr.cell? ⟨g3, 0 + i, none⟩ = some (.int .u8 ((bw.map byteN).getD i 0)) := fun i hi => by
        rw [Nat.zero_add, World.ownsRow.cellAt HO i (by omega)]
        simp [byv, LB.out, hi]
      go_upto_region 8 with (fail)
      refine wp_region_R 3 [3] (by kernel_rfl) (by kernel_rfl) (by kernel_rfl) (by kernel_rfl) ?_
      intro K_ ops_ hops_ hK
      replace hops_ := Lib.hid hops_
      apply Exists.intro
      intro R_ hb_
      simp only [↓baseR, ↓nthR_succ, ↓nthR_zero] at hb_
      simp only [List.take_succ_cons, List.take_zero, List.drop_succ_cons, List.drop_zero]
      repeat (first
        
        | (apply LexR_det (by rfl) (by rfl) (by rfl) (fun w1 hw1 hd1 => ?_) (fun _ hr_ => ?_); rotate_right 2; (refine run_convert_bytesR (cap := cap3) rfl ?_ Try.underlying42 Try.underlying5 Try.underlying9 (bw.map byteN) (by rw [List.length_map, LB.out]) (fun i hi => by rw [hw1.cell (cell_lt' (hcell i hi))]; exact hcell i hi); (focus (go_simp; done))))
        
        | (apply LexR_det (by rfl) (by rfl) (by rfl) (fun w1 hw1 hd1 => ?_) (fun _ hr_ => ?_); rotate_right 2; (go_simp; first | done | rfl ))
        | (apply LexR_box (by rfl) (by rfl) (by rfl) (fun w1 hw1 hd1 => ?_) (fun _ hr_ => ?_); rotate_right 2; (go_simp; first | done | rfl))
        | (apply LexR_bs (t := 60) (e := 36) (z := .agg #[.int .u32 0]) (ho := rfl) (by rfl) (by rfl) Try.underlying60 (by kernel_rfl) (by decide) (by decide) (fun _ => ?_) (fun _ => ?_) (fun _ => ?_) (fun _ hr_ => ?_); rotate_right 4; (go_simp; rfl); (exact ⟨rfl, rfl, rfl⟩); (simp only [List.map_cons, List.map_nil, List.flatMap_cons, List.flatMap_nil, Value.cells, List.cons_append, List.nil_append, List.append_nil]; rfl)))
      apply LexR_end
      refine hK _ _ ?_
      clear hK K_
      repeat clear hr_
      clear hb_ R_ hops_ ops_
      intro w1 hw1 hf1
      apply tailR (fun _ => ?_) (fun _ => ?_) ?_
      rotate_right 2
      · simp only [putAll, Act.put, List.setIfInBounds_toArray, List.set_cons_succ, List.set_cons_zero]; first | done | rfl
      · simp only [List.drop_succ_cons, List.drop_zero]; first | done | rfl
      simp [allFacts, contOf, Exp.putAt, Exp.fact, Exp.fresh, Exp.blk] at hf1
      rw [strOfNums_bytes]
      replace HB := bl_call hw1 HB
      go_wp2
      exact bodyPost_ret (v := .string ⟨fin.toArray⟩) (by simp [results, Try.results25, go_sem, hfin.out]) rfl ⟨rfl, HB⟩
set_option maxHeartbeats 2000000 in
theorem secret_c0 (s : ByteArray) (hs : s.size ≤ 1000000) (w : World) : Calls Try.prog 38 #[.string s] w (OwnRet 36 s.size ((textw s).map sec) w) := by
  go_enter Try.func38, Try.ntmps38
  go_upto_region 1 with (fail)
  go_wp2_with (first | (refine wpList_makeN rfl _ _ 60 rfl 36 (.agg #[.int .u32 0]) (.int .u32 0) 8 Try.underlying60 (by kernel_rfl) rfl (by omega) _ s.size rfl rfl rfl hs ?_))
  refine gen_world fun W hW => ?_
  have k3 : W.heap[w.heap.size]? = some (.cells (cw (padTo s.size ((textw s).take 0))) 36 (0, 0)) := by subst hW; rw [show (textw s).take 0 = [] from rfl, padTo_nil]; exact blk_new _ _
  have HB : Below w.heap.size w W := by subst hW; (repeat (first | exact Below.refl _ _ | (refine bl_alloc ?_ _) | (refine bl_drewN ?_ _) | (refine bl_drew ?_) | (refine bl_call (by assumption) ?_) | (refine bl_set _ _ (by simp <;> omega) ?_) | assumption))
  clear hW
  have LT := Lib.hid (textw_length s)
  have k30 := k3
  have HB0 := HB
  clear k3 HB
  go_loopw [10] (fun i wr => ∃ n : Nat, n ≤ s.size ∧ i = .int .i64 (n : Int) ∧ Below w.heap.size w wr ∧ wr.heap[w.heap.size]? = some (.cells (cw (padTo s.size ((textw s).take n))) 36 (0, 0))) (fun i _ => s.size - (intOf i).toNat)
  case atStart => exact ⟨0, by omega, rfl, HB0, k30⟩
  case round =>
    clear HB0 k30
    obtain ⟨n, hn, rfl, HB, k3⟩ := hrel
    have pn : (0 : Int) ≤ (n : Int) := by omega
    by_cases hlt : n < s.size
    · have hlt' : (n : Int) < (s.size : Int) := by omega
      have q3 := blk_lt k3
      go_upto_region 5 with (fail)
      refine wp_region_R 8 [0, 3, 4] (by kernel_rfl) (by kernel_rfl) (by kernel_rfl) (by kernel_rfl) ?_
      intro K_ ops_ hops_ hK
      replace hops_ := Lib.hid hops_
      apply Exists.intro
      intro R_ hb_
      simp only [↓baseR, ↓nthR_succ, ↓nthR_zero] at hb_
      simp only [List.take_succ_cons, List.take_zero, List.drop_succ_cons, List.drop_zero]
      repeat (first
        
        
        | (apply LexR_callF (f := 15) (by rfl) (by rfl) (by rfl) Try.func15 (by kernel_rfl) (by kernel_rfl) (fun _ => ?_) (fun w1 hw1 hd1 => ?_) (fun _ hr_ => ?_); rotate_right 3; (go_simp; first | done | rfl); exact (Of_c _ (at32 (textw s) n) (text_at s n hlt) w1))
        | (apply LexR_det (by rfl) (by rfl) (by rfl) (fun w1 hw1 hd1 => ?_) (fun _ hr_ => ?_); rotate_right 2; (go_simp; first | done | rfl ))
        | (apply LexR_box (by rfl) (by rfl) (by rfl) (fun w1 hw1 hd1 => ?_) (fun _ hr_ => ?_); rotate_right 2; (go_simp; first | done | rfl))
        | (apply LexR_bs (t := 60) (e := 36) (z := .agg #[.int .u32 0]) (ho := rfl) (by rfl) (by rfl) Try.underlying60 (by kernel_rfl) (by decide) (by decide) (fun _ => ?_) (fun _ => ?_) (fun _ => ?_) (fun _ hr_ => ?_); rotate_right 4; (go_simp; rfl); (exact ⟨rfl, rfl, rfl⟩); (simp only [List.map_cons, List.map_nil, List.flatMap_cons, List.flatMap_nil, Value.cells, List.cons_append, List.nil_append, List.append_nil]; rfl)))
      apply LexR_end
      refine hK _ _ ?_
      clear hK K_
      repeat clear hr_
      clear hb_ R_ hops_ ops_
      intro w1 hw1 hf1
      apply tailR (fun _ => ?_) (fun _ => ?_) ?_
      rotate_right 2
      · simp only [putAll, Act.put, List.setIfInBounds_toArray, List.set_cons_succ, List.set_cons_zero]; first | done | rfl
      · simp only [List.drop_succ_cons, List.drop_zero]; first | done | rfl
      simp [allFacts, contOf, Exp.putAt, Exp.fact, Exp.fresh, Exp.blk] at hf1
      clear hf1 q3
      replace k3 := grow_blk hw1 k3
      replace HB := bl_call hw1 HB
      clear hw1
      have hlt3 : (List.take n (textw s)).length = n := by rw [List.length_take, LT.out]; omega
      have cs := blk_cell k3 n
      rw [cw_at _ _ (by rw [padTo_length _ _ (by omega)]; exact hlt)] at cs
      have fs := blk_frozen k3 n
      have hlt4 := Lib.hid hlt3
      clear hlt3
      go_wp2_with fail
      go_roundw
      case measure => simp [intOf] <;> omega
      refine ⟨n + 1, by omega, congrArg (Value.int .i64) (by omega), bl_set _ _ (by simp) HB, ?_⟩
      have := padTo_set s.size (List.take n (textw s)) (at32 (textw s) n) (by rw [hlt4.out]; exact hlt)
      rw [hlt4.out] at this
      rw [List.take_succ_eq_append_getElem (by rw [LT.out]; exact hlt), show (textw s)[n]'(by rw [LT.out]; exact hlt) = at32 (textw s) n by simp [at32, LT.out, hlt], ← this, ← cw_set]
      exact blk_set k3 n _
    · obtain rfl : n = s.size := by omega
      have hlt' : ¬ (s.size : Int) < (s.size : Int) := by omega
      rw [List.take_of_length_le (by rw [LT.out]; omega), padTo_full _ _ LT.out] at k3
      go_wp2
      exact bodyPost_ret (v := .slice (some ⟨w.heap.size, 0, none⟩) s.size s.size) (by simp [results, Try.results38, go_sem]) rfl ⟨w.heap.size, s.size, cw (textw s), rfl, by omega, Nat.le_refl _, k3, by rw [cw_toList, List.take_of_length_le (by rw [List.length_map, LT.out]; omega)], HB⟩
def xorB (a b : List UInt8) : List UInt8 := List.zipWith (· ^^^ ·) a b
theorem bc_zeros (n : Nat) : bc (padZ n []) = Array.replicate n (.int .u8 0) := by
  apply Array.ext'
  simp [bc, padZ, bv]
theorem xorB_length (a b : List UInt8) : (xorB a b).length = min a.length b.length := by simp [xorB]
theorem xorB_at (a b : List UInt8) (k : Nat) (h : k < (xorB a b).length) : (xorB a b)[k] = a[k]'(by rw [xorB_length] at h; omega) ^^^ b[k]'(by rw [xorB_length] at h; omega) := by simp [xorB]
/-- A byte of two texts, xor'ed. -/
theorem xorS_at (a b : ByteArray) (k : Nat) (h1 : k < a.size) (h2 : k < b.size) : bits .xor .u8 ((a[k].toNat : Nat) : Int) ((b[k].toNat : Nat) : Int) = (((xorB a.data.toList b.data.toList).getD k 0).toNat : Int) := by
  rw [xor_u8]
  have e1 : a.data.toList[k]'(by rw [Array.length_toList]; exact h1) = a[k] := by simp; rfl
  have e2 : b.data.toList[k]'(by rw [Array.length_toList]; exact h2) = b[k] := by simp; rfl
  have hl : k < (xorB a.data.toList b.data.toList).length := by rw [xorB_length, Array.length_toList, Array.length_toList]; exact Nat.lt_min.2 ⟨h1, h2⟩
  rw [List.getD_eq_getElem?_getD, List.getElem?_eq_getElem hl, xorB_at, e1, e2]
  rfl
theorem wpList_convBS {ops : Array Oper} {rest : List Oper} {o : Oper} {a : Act} {w : World} {Q : Exit → Act → World → Prop} {x : Operand} {sv : Value} {bs : List UInt8} (hg : o.guard = none) (ho : o.op = .convert 42 9 x) (hx : a.eval x = sv) (hr : RowB w sv bs)
    (h : wpList Try.prog ops Q rest (a.put o.dst (.string ⟨bs.toArray⟩)) w) : wpList Try.prog ops Q (o :: rest) a w := by
  refine wpList_plain hg fun K hK => ?_
  obtain ⟨ao, cap, hsv, hno, hcc⟩ := hr
  have h1 : (convert 42 9 sv).run Try.prog w = .ok (.string ⟨bs.toArray⟩) w := by
    rw [hsv]
    cases ao with
    | none =>
      obtain ⟨rfl, rfl⟩ := hno rfl
      exact run_convert_bytes_nil w _ 5 Try.underlying42 Try.underlying5 0 0 _ Try.underlying9
    | some a =>
      refine run_convert_bytes_back w _ _ 5 a cap bs Try.underlying42 Try.underlying5 Try.underlying9 fun j hj => ?_
      obtain ⟨g, off, e, hc⟩ := hcc j hj
      cases e
      rw [Addr.add_lit]
      exact hc
  have e1 : (execOp a.eval o).run Try.prog w = .ok (.value (.string ⟨bs.toArray⟩)) w := by
    unfold execOp
    simp only [ho, hx]
    rw [Sem.run_bind, h1]
    rfl
  unfold Oper.wp
  rw [e1, Oper.upon_value]
  exact hK _ _ h
set_option maxHeartbeats 4000000 in
theorem sXor_c (a b : ByteArray) (ha : a.size ≤ 500000) (hb : b.size ≤ 500000) (w : World) : Calls Try.prog 13 #[.string a, .string b] w fun e w' => e = .returned (.string ⟨(xorB a.data.toList b.data.toList).toArray⟩) ∧ Below w.heap.size w w' := by
  have hxa := xorS_at a b
  have hlen : (xorB a.data.toList b.data.toList).length = min a.size b.size := by rw [xorB_length, Array.length_toList, Array.length_toList]; rfl
  generalize xorB a.data.toList b.data.toList = X at hxa hlen ⊢
  obtain ⟨n, hn⟩ : ∃ n, n = min a.size b.size := ⟨_, rfl⟩
  rw [← hn] at hlen
  have hna : n ≤ a.size := by omega
  have hnb : n ≤ b.size := by omega
  have hmn : (if (a.size : Int) < (b.size : Int) then (a.size : Int) else (b.size : Int)) = (n : Int) := by split <;> omega
  have hn5 : n ≤ 1000000 := by omega
  replace hn := Lib.hid hn
  replace hlen := Lib.hid hlen
  have h64 : (n : Int) ≤ 1000000 := by omega
  rcases Nat.lt_or_ge b.size a.size with hlt | hge
  focus
    have q1 : (b.size : Int) < (a.size : Int) := by omega
    have q2 : ¬ (a.size : Int) ≤ (b.size : Int) := by omega
    have q3 : ¬ (a.size : Int) < (b.size : Int) := by omega
    have q4 : (b.size : Int) ≤ (a.size : Int) := by omega
    have q5 : b.size = n := by have := hn.out; omega
    go_enter Try.func13, Try.ntmps13
    go_upto_region 1 with (fail)
    go_upto_region 2 with (refine wpList_makeN rfl _ _ 42 rfl 5 (.int .u8 0) (.int .u8 0) 1 Try.underlying42 (by kernel_rfl) rfl (by omega) _ n rfl rfl rfl (by omega) ?_)
    clear q1 q2 q3 q4 q5 hlt
  rotate_left
  focus
    have q1 : ¬ (b.size : Int) < (a.size : Int) := by omega
    have q2 : (a.size : Int) ≤ (b.size : Int) := by omega
    have q5 : a.size = n := by have := hn.out; omega
    go_enter Try.func13, Try.ntmps13
    go_upto_region 1 with (fail)
    go_upto_region 2 with (refine wpList_makeN rfl _ _ 42 rfl 5 (.int .u8 0) (.int .u8 0) 1 Try.underlying42 (by kernel_rfl) rfl (by omega) _ n rfl rfl rfl (by omega) ?_)
    clear q1 q2 q5 hge
  rotate_left
  all_goals
    refine gen_world fun W hW => ?_
    have k7 : W.heap[w.heap.size]? = some (.cells (bc (padZ n (X.take 0))) 5 (0, 0)) := by subst hW; rw [List.take_zero, bc_zeros]; exact blk_new _ _
    have HB : Below w.heap.size w W := by subst hW; (repeat (first | exact Below.refl _ _ | (refine bl_alloc ?_ _) | (refine bl_drewN ?_ _) | (refine bl_drew ?_) | (refine bl_call (by assumption) ?_) | (refine bl_set _ _ (by simp <;> omega) ?_) | assumption))
    clear hW hmn
    go_wp2_with fail
    have HB0 := HB
    have k70 := k7
    clear HB k7
    go_loopw [15] (fun i wr => ∃ m : Nat, m ≤ n ∧ i = .int .i64 (m : Int) ∧ Below w.heap.size w wr ∧ wr.heap[w.heap.size]? = some (.cells (bc (padZ n (X.take m))) 5 (0, 0))) (fun i _ => n - (intOf i).toNat)
    case atStart => exact ⟨0, by omega, rfl, HB0, k70⟩
    case round =>
      clear HB0 k70
      obtain ⟨m, hm2, rfl, HB, k7⟩ := hrel
      have pn : (0 : Int) ≤ (m : Int) := by omega
      by_cases hlt : m < n
      · have hlt' : (m : Int) < (n : Int) := by omega
        have ham : m < a.size := by omega
        have hbm : m < b.size := by omega
        have hx := hxa m ham hbm
        clear hxa
        have hs := padZ_set n X hlen.out m hlt
        replace hs := Lib.hid hs
        generalize X.getD m 0 = y at hx hs
        go_upto_region 5 with (fail)
        refine wp_region_R 10 [0, 1, 5, 6] (by kernel_rfl) (by kernel_rfl) (by kernel_rfl) (by kernel_rfl) ?_
        intro K_ ops_ hops_ hK
        replace hops_ := Lib.hid hops_
        apply Exists.intro
        intro R_ hb_
        simp only [↓baseR, ↓nthR_succ, ↓nthR_zero] at hb_
        simp only [List.take_succ_cons, List.take_zero, List.drop_succ_cons, List.drop_zero]
        repeat (first
          
          
          
          | (apply LexR_det (by rfl) (by rfl) (by rfl) (fun w1 hw1 hd1 => ?_) (fun _ hr_ => ?_); rotate_right 2; (go_simp; first | done | rfl ))
          | (apply LexR_box (by rfl) (by rfl) (by rfl) (fun w1 hw1 hd1 => ?_) (fun _ hr_ => ?_); rotate_right 2; (go_simp; first | done | rfl))
          | (apply LexR_bs (t := 60) (e := 36) (z := .agg #[.int .u32 0]) (ho := rfl) (by rfl) (by rfl) Try.underlying60 (by kernel_rfl) (by decide) (by decide) (fun _ => ?_) (fun _ => ?_) (fun _ => ?_) (fun _ hr_ => ?_); rotate_right 4; (go_simp; rfl); (exact ⟨rfl, rfl, rfl⟩); (simp only [List.map_cons, List.map_nil, List.flatMap_cons, List.flatMap_nil, Value.cells, List.cons_append, List.nil_append, List.append_nil]; rfl)))
        apply LexR_end
        refine hK _ _ ?_
        clear hK K_
        repeat clear hr_
        clear hb_ R_ hops_ ops_
        intro w1 hw1 hf1
        apply tailR (fun _ => ?_) (fun _ => ?_) ?_
        rotate_right 2
        · simp only [putAll, Act.put, List.setIfInBounds_toArray, List.set_cons_succ, List.set_cons_zero]; first | done | rfl
        · simp only [List.drop_succ_cons, List.drop_zero]; first | done | rfl
        simp [allFacts, contOf, Exp.putAt, Exp.fact, Exp.fresh, Exp.blk] at hf1
        clear hf1
        replace k7 := grow_blk hw1 k7
        replace HB := bl_call hw1 HB
        clear hw1
        have c7 := blk_cell k7 m
        rw [bc_at _ _ (by rw [padZ_length _ _ (by simp; omega)]; exact hlt)] at c7
        generalize (padZ n (X.take m))[m]'(by rw [padZ_length _ _ (by simp; omega)]; exact hlt) = old at c7
        have f7 := blk_frozen k7 m
        go_upto_region 6 with (fail)
        try rw [hx]
        refine gen_world fun W2 hW => ?_
        replace HB : Below w.heap.size w W2 := by subst hW; exact bl_set _ _ (by simp) HB
        replace k7 : W2.heap[w.heap.size]? = some (.cells (bc (padZ n (X.take (m + 1)))) 5 (0, 0)) := by
          subst hW
          rw [← hs.out, ← bc_set]
          exact blk_set k7 m _
        clear hW c7 f7 hx
        go_wp2_with fail
        go_roundw
        case measure => simp [intOf] <;> omega
        exact ⟨m + 1, by omega, congrArg (Value.int .i64) (by omega), HB, k7⟩
      · obtain rfl : m = n := by omega
        have hlt' : ¬ (m : Int) < (m : Int) := by omega
        rw [List.take_of_length_le (by rw [hlen.out]; omega), show padZ m X = X by simp [padZ, hlen.out]] at k7
        have hR : RowB wr (.slice (some ⟨w.heap.size, 0, none⟩) m m) X := by
          have := RowB.block (cap := m) (bs := X) k7 (by rw [bc_list, List.take_of_length_le (by rw [List.length_map]; omega)])
          rwa [hlen.out] at this
        go_wp2_with (refine wpList_convBS rfl rfl rfl hR ?_)
        exact bodyPost_ret (v := .string ⟨X.toArray⟩) (by simp [results, Try.results13, go_sem]) rfl ⟨rfl, HB⟩
end Go.Proofs.Ytpcpdgkkjkkklaa

/- Contract of sabretacheref16.Sum. -/
import Derived.Test.YthnackakgglhbaaGreatPd
import Derived.Test.YthnackakgglhbaaGreatR2
namespace Go.Proofs.YthnackakgglhbaaGreat
open Go.RowKit
set_option maxRecDepth 100000
set_option linter.unusedSimpArgs false
set_option linter.unusedVariables false
attribute [local go_sem] evR_tmp evR_const evR_global evR_func xor_iw and_iw or_iw shl8
/-- A byte as the model's number. -/
def byteI (p : List UInt8) (k : Nat) : Int := ((p.getD k 0).toNat : Int)
def byteAt (p : List UInt8) (k : Nat) : W32 := kw (p.getD k 0).toNat
theorem byteI_word (p : List UInt8) (k : Nat) : byteI p k % 4294967296 = iw (byteAt p k) := by
  have h := (p.getD k 0).toNat_lt
  unfold byteI byteAt
  rw [← kw_iw _ (by omega)]
  omega
attribute [local go_sem] byteI_word IntKind.wrap_u32'
/-- A block's words after i of its bytes. -/
def rblockTo (p : List UInt8) (at_ i : Nat) : List W32 := (List.range 16).map fun k => wordw ((List.range (min 4 (i - 4 * k))).map fun j => byteAt p (at_ + 4 * k + j))
def refSumAt (p : List UInt8) : Nat → List W32
  | 0 => h0
  | n + 1 => stepw (refSumAt p n) (rblockTo p (64 * n) 64)
def refSum (bs : List UInt8) : List W32 := refSumAt (padded bs) (lastAt bs.length + 1)
theorem padded_length (bs : List UInt8) : (padded bs).length = 64 * (lastAt bs.length + 1) := by
  unfold padded
  rw [List.length_append, padB_length _ _ (by unfold lastAt; omega), lenBytes_length]; omega
theorem rblockTo_length (p : List UInt8) (a i : Nat) : (rblockTo p a i).length = 16 := by simp [rblockTo]
theorem refSumAt_length (p : List UInt8) : ∀ n, (refSumAt p n).length = 8
  | 0 => rfl
  | n + 1 => stepw_length _ _ (refSumAt_length p n)
theorem rblockTo_zero (p : List UInt8) (a : Nat) : cw (rblockTo p a 0) = Array.replicate 16 (.int .u32 0) := by
  have e : rblockTo p a 0 = List.replicate 16 0#32 := by
    unfold rblockTo
    simp only [Nat.zero_sub, Nat.min_zero, List.range_zero, List.map_nil]
    rfl
  rw [e]; rfl
theorem rblockTo_at (p : List UInt8) (a i k : Nat) (hk : k < 16) : at32 (rblockTo p a i) k = wordw ((List.range (min 4 (i - 4 * k))).map fun j => byteAt p (a + 4 * k + j)) := by
  simp [at32, rblockTo, hk]
theorem wordw_app (xs : List W32) (x : W32) : wordw (xs ++ [x]) = shlI (wordw xs) 8 ||| x := by
  unfold wordw; rw [List.foldl_append]; rfl
theorem rblockTo_set (p : List UInt8) (a i : Nat) (hi : i < 64) : (rblockTo p a i).set (i / 4) (shlI (at32 (rblockTo p a i) (i / 4)) 8 ||| byteAt p (a + i)) = rblockTo p a (i + 1) := by
  apply List.ext_getElem?
  intro k
  rw [rblockTo_at p a i (i / 4) (by omega)]
  by_cases q : k = i / 4
  · subst q
    rw [List.getElem?_set_self (by rw [rblockTo_length]; omega)]
    unfold rblockTo
    rw [List.getElem?_map, List.getElem?_range (by omega), Option.map_some]
    congr 1
    rw [show min 4 (i + 1 - 4 * (i / 4)) = min 4 (i - 4 * (i / 4)) + 1 by omega, List.range_succ, List.map_append, List.map_singleton, wordw_app]
    congr 2
    omega
  · rw [List.getElem?_set_ne (Ne.symm q)]
    by_cases hk : k < 16
    · unfold rblockTo
      rw [List.getElem?_map, List.getElem?_map, List.getElem?_range hk, Option.map_some, Option.map_some]
      rw [show min 4 (i + 1 - 4 * k) = min 4 (i - 4 * k) by omega]
    · rw [List.getElem?_eq_none (by rw [rblockTo_length]; omega), List.getElem?_eq_none (by rw [rblockTo_length]; omega)]
set_option maxHeartbeats 8000000 in
theorem rSum_c (bs : List UInt8) (sv : Value) (w : World) (hn : bs.length ≤ 500000) (hs : RowB w sv bs) : Calls Tryz.prog 36 #[sv] w fun e w' => e = .returned (.agg (cw (refSum bs))) ∧ Below w.heap.size w w' := by
  go_enter Tryz.func36, Tryz.ntmps36
  go_upto_region 1 with (fail)
  refine gen_world fun W hW => ?_
  have k2 : W.heap[w.heap.size]? = some (.cells (Array.replicate 8 (.int .u32 0)) 54 (0, 0)) := by subst hW; exact blk_new' (by simp) _
  have HB : Below w.heap.size w W := by subst hW; (repeat (first | exact Below.refl _ _ | (refine bl_alloc ?_ _) | (refine bl_drewN ?_ _) | (refine bl_drew ?_) | (refine bl_call (by assumption) ?_) | (refine bl_set _ _ (by simp <;> omega) ?_) | assumption))
  clear hW
  have q2 := blk_lt k2
  refine wp_region_R 3 [] (by kernel_rfl) (by kernel_rfl) (by kernel_rfl) (by kernel_rfl) ?_
  intro K_ ops_ hops_ hK
  replace hops_ := Lib.hid hops_
  apply Exists.intro
  intro R_ hb_
  simp only [↓baseR, ↓nthR_succ, ↓nthR_zero] at hb_
  simp only [List.take_succ_cons, List.take_zero, List.drop_succ_cons, List.drop_zero]
  repeat (first
    
    | (apply LexR_put (j := 1) (ho := rfl); (go_simp; rfl); (go_simp; rfl); rfl; rfl; (focus (first | decide | (simp; done))); rfl; rfl; kernel_rfl; kernel_rfl; (first | exact cw_one _ | simp [Value.oneCell']); (first | (rw [cw_size, L64.out]; rfl) | (rw [cw_size, L8.out]; rfl) | (rw [cw_size]; rfl) | rfl); intro _)
    | (apply LexR_callF (f := 50) (by rfl) (by rfl) (by rfl) Tryz.func50 (by kernel_rfl) (by kernel_rfl) (fun _ => ?_) (fun w1 hw1 hd1 => ?_) (fun _ hr_ => ?_); rotate_right 3; (go_simp; first | done | rfl); exact (rFirst_c w1))
    | (apply LexR_det (by rfl) (by rfl) (by rfl) (fun w1 hw1 hd1 => ?_) (fun _ hr_ => ?_); rotate_right 2; (go_simp; first | done | rfl ))
    | (apply LexR_box (by rfl) (by rfl) (by rfl) (fun w1 hw1 hd1 => ?_) (fun _ hr_ => ?_); rotate_right 2; (go_simp; first | done | rfl))
    | (apply LexR_bs (t := 76) (e := 80) (z := .agg #[.int .u32 0]) (ho := rfl) (by rfl) (by rfl) Tryz.underlying76 (by kernel_rfl) (by decide) (by decide) (fun _ => ?_) (fun _ => ?_) (fun _ => ?_) (fun _ hr_ => ?_); rotate_right 4; (go_simp; rfl); (exact ⟨rfl, rfl, rfl⟩); (simp only [List.map_cons, List.map_nil, List.flatMap_cons, List.flatMap_nil, Value.cells, List.cons_append, List.nil_append, List.append_nil]; rfl)))
  apply LexR_end
  refine hK _ _ ?_
  clear hK K_
  repeat clear hr_
  clear hb_ R_ hops_ ops_
  intro w1 hw1 hf1
  apply tailR (fun _ => ?_) (fun _ => ?_) ?_
  rotate_right 2
  · simp only [putAll, Act.put, List.setIfInBounds_toArray, List.set_cons_succ, List.set_cons_zero]; first | done | rfl
  · simp only [List.drop_succ_cons, List.drop_zero]; first | done | rfl
  simp [allFacts, contOf, Exp.putAt, Exp.fact, Exp.fresh, Exp.blk] at hf1
  obtain ⟨k3, l3⟩ := hf1
  obtain ⟨g3, e_⟩ := name_blk k3
  subst e_
  replace k2 := grow_blk hw1 k2
  replace HB := bl_call hw1 HB
  have m3 : w.heap.size < g3 := by omega
  clear hw1 l3 q2
  have q3 := blk_lt k3
  have hpl := padded_length bs
  have hLe : lastAt bs.length ≤ 10000 := by unfold lastAt; omega
  obtain ⟨p, hp⟩ : ∃ p, p = padded bs := ⟨_, rfl⟩
  obtain ⟨e, he⟩ : ∃ e, e = lastAt bs.length := ⟨_, rfl⟩
  rw [← hp, ← he] at hpl
  rw [← he] at hLe
  go_upto_region 3 with (first | (go_at_call 51; refine (Padded_c bs sv w1 hn (hs.grow HB)).mono ?_; rintro e2 w2 ⟨sv2, rfl, hO, hb2⟩))
  rw [← hp] at hO
  obtain ⟨g, cap, rfl, hg, hgl⟩ := World.ownsRow.form hO (by omega)
  have hcell : ∀ k, k < p.length → w2.cell? ⟨g, k, none⟩ = some (bv (p.getD k 0)) := fun k hk => by
    rw [World.ownsRow.cellAt hO k (by omega)]
    simp [hk]
  obtain ⟨og, hog⟩ : ∃ o, w2.heap[g]? = some o := ⟨_, Array.getElem?_eq_getElem hgl⟩
  replace hcell : ∀ w3 : World, w3.heap[g]? = some og → ∀ k, k < p.length → w3.cell? ⟨g, k, none⟩ = some (.int .u8 (byteI p k)) := fun w3 h k hk => by
    rw [cell_of_block (h.trans hog.symm)]; exact hcell k hk
  have mg : g3 < g := by omega
  replace k2 := grow_blk hb2 k2
  replace k3 := grow_blk hb2 k3
  replace HB : Below w.heap.size w w2 := bl_call hb2 HB
  clear hb2 hO hg hgl q3
  rw [hpl]
  replace hp := Lib.hid hp
  replace he := Lib.hid he
  go_wp2_with fail
  have HB0 := HB
  have k20 := k2
  have k30 : w2.heap[g3]? = some (.cells (cw (refSumAt p 0)) 54 (0, 0)) := k3
  have hog0 := hog
  have hw2 : w.heap.size ≤ w2.heap.size := HB.size
  clear HB k2 k3 hog
  go_loopw [5] (fun i wr => ∃ n : Nat, n ≤ e + 1 ∧ i = .int .i64 (64 * (n : Int)) ∧ Below w.heap.size w wr ∧ wr.heap[w.heap.size]? = some (.cells (Array.replicate 8 (.int .u32 0)) 54 (0, 0)) ∧ wr.heap[g3]? = some (.cells (cw (refSumAt p n)) 54 (0, 0)) ∧ wr.heap[g]? = some og) (fun i _ => 64 * (e + 1) - (intOf i).toNat)
  case atStart => exact ⟨0, by omega, rfl, HB0, k20, k30, hog0⟩
  case round =>
    clear HB0 k20 k30 hog0
    obtain ⟨n, hn1, rfl, HB, k2, k3, hog⟩ := hrel
    have pn : (0 : Int) ≤ 64 * (n : Int) := by omega
    by_cases hlt : n < e + 1
    · have hlt' : 64 * (n : Int) < 64 * ((e : Int) + 1) := by omega
      have hltn : (n : Int) < (e : Int) + 1 := by omega
      have qg := blk_lt hog
      go_upto_region 6 with (fail)
      refine wp_region_R 1 [] (by kernel_rfl) (by kernel_rfl) (by kernel_rfl) (by kernel_rfl) ?_
      intro K_ ops_ hops_ hK
      replace hops_ := Lib.hid hops_
      apply Exists.intro
      intro R_ hb_
      simp only [↓baseR, ↓nthR_succ, ↓nthR_zero] at hb_
      simp only [List.take_succ_cons, List.take_zero, List.drop_succ_cons, List.drop_zero]
      repeat (first
        
        
        
        | (apply LexR_det (by rfl) (by rfl) (by rfl) (fun w1 hw1 hd1 => ?_) (fun _ hr_ => ?_); rotate_right 2; (go_simp; first | done | rfl ))
        | (apply LexR_box (by rfl) (by rfl) (by rfl) (fun w1 hw1 hd1 => ?_) (fun _ hr_ => ?_); rotate_right 2; (go_simp; first | done | rfl))
        | (apply LexR_bs (t := 76) (e := 80) (z := .agg #[.int .u32 0]) (ho := rfl) (by rfl) (by rfl) Tryz.underlying76 (by kernel_rfl) (by decide) (by decide) (fun _ => ?_) (fun _ => ?_) (fun _ => ?_) (fun _ hr_ => ?_); rotate_right 4; (go_simp; rfl); (exact ⟨rfl, rfl, rfl⟩); (simp only [List.map_cons, List.map_nil, List.flatMap_cons, List.flatMap_nil, Value.cells, List.cons_append, List.nil_append, List.append_nil]; rfl)))
      apply LexR_end
      refine hK _ _ ?_
      clear hK K_
      repeat clear hr_
      clear hb_ R_ hops_ ops_
      intro w1 hw1 hf1
      apply tailR (fun _ => ?_) (fun _ => ?_) ?_
      rotate_right 2
      · simp only [putAll, Act.put, List.setIfInBounds_toArray, List.set_cons_succ, List.set_cons_zero]; first | done | rfl
      · simp only [List.drop_succ_cons, List.drop_zero]; first | done | rfl
      simp [allFacts, contOf, Exp.putAt, Exp.fact, Exp.fresh, Exp.blk] at hf1
      obtain ⟨k6, l6⟩ := hf1
      obtain ⟨g6, e_⟩ := name_blk k6
      subst e_
      replace k2 := grow_blk hw1 k2
      replace k3 := grow_blk hw1 k3
      replace hog := grow_blk hw1 hog
      replace HB := bl_call hw1 HB
      have m6 : g < g6 := by omega
      clear hw1 l6 qg
      go_wp2_with fail
      have HB0 := HB
      have k20 := k2
      have k30 := k3
      have hog0 := hog
      have k60 : w1.heap[g6]? = some (.cells (cw (rblockTo p (64 * n) 0)) 89 (0, 0)) := by rw [rblockTo_zero]; exact k6
      clear HB k2 k3 hog k6
      go_loopw [7] (fun i wr => ∃ j : Nat, j ≤ 64 ∧ i = .int .i64 (j : Int) ∧ Below w.heap.size w wr ∧ wr.heap[w.heap.size]? = some (.cells (Array.replicate 8 (.int .u32 0)) 54 (0, 0)) ∧ wr.heap[g3]? = some (.cells (cw (refSumAt p n)) 54 (0, 0)) ∧ wr.heap[g]? = some og ∧ wr.heap[g6]? = some (.cells (cw (rblockTo p (64 * n) j)) 89 (0, 0))) (fun i _ => 64 - (intOf i).toNat)
      case atStart => exact ⟨0, by omega, rfl, HB0, k20, k30, hog0, k60⟩
      case round =>
        clear HB0 k20 k30 hog0 k60
        obtain ⟨j, hj, rfl, HB, k2, k3, hog, k6⟩ := hrel
        have pj : (0 : Int) ≤ (j : Int) := by omega
        by_cases hlj : j < 64
        · have hlj' : (j : Int) < 64 := by omega
          have cb := hcell wr hog (64 * n + j) (by omega)
          have c6 := blk_cell k6 (j / 4)
          rw [cw_at _ _ (by rw [rblockTo_length]; omega)] at c6
          have q6 := blk_lt k6
          have e4 : IntKind.i64.wrap ((j : Int) / 4) = (j : Int) / 4 := by rw [IntWalk.i64_in _ (by omega)]; try omega
          have p4 : 0 ≤ (j : Int) / 4 := by omega
          have b4 : (j : Int) / 4 < 16 := by omega
          have t4 : ((j : Int) / 4).toNat = j / 4 := by omega
          have e5 : IntKind.i64.wrap (64 * (n : Int) + (j : Int)) = 64 * (n : Int) + (j : Int) := by rw [IntWalk.i64_in _ (by omega)]; try omega
          have p5 : 0 ≤ 64 * (n : Int) + (j : Int) := by omega
          have b5 : 64 * (n : Int) + (j : Int) < 64 * ((e : Int) + 1) := by omega
          have t5 : (64 * (n : Int) + (j : Int)).toNat = 64 * n + j := by omega
          go_upto_region 10 with (fail)
          refine wp_region_R 16 [4, 5, 6, 7] (by kernel_rfl) (by kernel_rfl) (by kernel_rfl) (by kernel_rfl) ?_
          intro K_ ops_ hops_ hK
          replace hops_ := Lib.hid hops_
          apply Exists.intro
          intro R_ hb_
          simp only [↓baseR, ↓nthR_succ, ↓nthR_zero] at hb_
          simp only [List.take_succ_cons, List.take_zero, List.drop_succ_cons, List.drop_zero]
          repeat (first
            
            
            
            | (apply LexR_det (by rfl) (by rfl) (by rfl) (fun w1 hw1 hd1 => ?_) (fun _ hr_ => ?_); rotate_right 2; (go_simp; first | done | rfl | (rw [grow_cell hw1 cb]; focus ((try simp); first | done | rfl)) | (rw [grow_cell hw1 c6]; focus ((try simp); first | done | rfl))))
            | (apply LexR_box (by rfl) (by rfl) (by rfl) (fun w1 hw1 hd1 => ?_) (fun _ hr_ => ?_); rotate_right 2; (go_simp; first | done | rfl))
            | (apply LexR_bs (t := 76) (e := 80) (z := .agg #[.int .u32 0]) (ho := rfl) (by rfl) (by rfl) Tryz.underlying76 (by kernel_rfl) (by decide) (by decide) (fun _ => ?_) (fun _ => ?_) (fun _ => ?_) (fun _ hr_ => ?_); rotate_right 4; (go_simp; rfl); (exact ⟨rfl, rfl, rfl⟩); (simp only [List.map_cons, List.map_nil, List.flatMap_cons, List.flatMap_nil, Value.cells, List.cons_append, List.nil_append, List.append_nil]; rfl)))
          apply LexR_end
          refine hK _ _ ?_
          clear hK K_
          repeat clear hr_
          clear hb_ R_ hops_ ops_
          intro w1 hw1 hf1
          apply tailR (fun _ => ?_) (fun _ => ?_) ?_
          rotate_right 2
          · simp only [putAll, Act.put, List.setIfInBounds_toArray, List.set_cons_succ, List.set_cons_zero]; first | done | rfl
          · simp only [List.drop_succ_cons, List.drop_zero]; first | done | rfl
          simp [allFacts, contOf, Exp.putAt, Exp.fact, Exp.fresh, Exp.blk] at hf1
          clear hf1 cb c6 q6
          replace k2 := grow_blk hw1 k2
          replace k3 := grow_blk hw1 k3
          replace hog := grow_blk hw1 hog
          replace k6 := grow_blk hw1 k6
          replace HB := bl_call hw1 HB
          clear hw1
          have cs := blk_cell k6 (j / 4)
          rw [cw_at _ _ (by rw [rblockTo_length]; omega)] at cs
          have fs := blk_frozen k6 (j / 4)
          go_wp2_with fail
          go_roundw
          case measure => simp [intOf] <;> omega
          refine ⟨j + 1, by omega, congrArg (Value.int .i64) (by omega), bl_set _ _ (by simp; omega) HB, blk_far k2 (by simp; omega) _, blk_far k3 (by simp; omega) _, blk_far hog (by simp; omega) _, ?_⟩
          rw [← rblockTo_set p (64 * n) j hlj, ← cw_set]
          exact blk_set k6 (j / 4) _
        · obtain rfl : j = 64 := by omega
          have hlj' : ¬ ((64 : Nat) : Int) < 64 := by omega
          have LR := Lib.hid (refSumAt_length p n)
          have LB := Lib.hid (rblockTo_length p (64 * n) 64)
          have LN := Lib.hid (refSumAt_length p (n + 1))
          obtain ⟨ra, hra⟩ : ∃ ra, ra = refSumAt p n := ⟨_, rfl⟩
          obtain ⟨rb, hrb⟩ : ∃ rb, rb = rblockTo p (64 * n) 64 := ⟨_, rfl⟩
          rw [← hra] at k3 LR
          rw [← hrb] at k6 LB
          have hnx : stepw ra rb = refSumAt p (n + 1) := by rw [hra, hrb]; rfl
          replace hra := Lib.hid hra
          replace hrb := Lib.hid hrb
          replace hnx := Lib.hid hnx
          go_upto_region 11 with (fail)
          refine wp_region_R 3 [3, 6] (by kernel_rfl) (by kernel_rfl) (by kernel_rfl) (by kernel_rfl) ?_
          intro K_ ops_ hops_ hK
          replace hops_ := Lib.hid hops_
          apply Exists.intro
          intro R_ hb_
          simp only [↓baseR, ↓nthR_succ, ↓nthR_zero] at hb_
          simp only [List.take_succ_cons, List.take_zero, List.drop_succ_cons, List.drop_zero]
          repeat (first
            | (apply LexR_det (by rfl) (by rfl) (by rfl) (fun w1 hw1 hd1 => ?_) (fun _ hr_ => ?_); rotate_right 2; (refine run_load_rowR (ty := 54) rfl ?_ (grow_blk hw1 k3) Tryz.underlying54 rfl ?_; (focus (go_simp; done)); (rw [cw_size, LR.out]; kernel_rfl))) | (apply LexR_det (by rfl) (by rfl) (by rfl) (fun w1 hw1 hd1 => ?_) (fun _ hr_ => ?_); rotate_right 2; (refine run_load_rowR (ty := 89) rfl ?_ (grow_blk hw1 k6) Tryz.underlying89 rfl ?_; (focus (go_simp; done)); (rw [cw_size, LB.out]; kernel_rfl)))
            
            | (apply LexR_callF (f := 52) (by rfl) (by rfl) (by rfl) Tryz.func52 (by kernel_rfl) (by kernel_rfl) (fun _ => ?_) (fun w1 hw1 hd1 => ?_) (fun _ hr_ => ?_); rotate_right 3; (go_simp; first | done | rfl); exact (rStep_c _ _ LR.out LB.out w1))
            | (apply LexR_det (by rfl) (by rfl) (by rfl) (fun w1 hw1 hd1 => ?_) (fun _ hr_ => ?_); rotate_right 2; (go_simp; first | done | rfl ))
            | (apply LexR_box (by rfl) (by rfl) (by rfl) (fun w1 hw1 hd1 => ?_) (fun _ hr_ => ?_); rotate_right 2; (go_simp; first | done | rfl))
            | (apply LexR_bs (t := 76) (e := 80) (z := .agg #[.int .u32 0]) (ho := rfl) (by rfl) (by rfl) Tryz.underlying76 (by kernel_rfl) (by decide) (by decide) (fun _ => ?_) (fun _ => ?_) (fun _ => ?_) (fun _ hr_ => ?_); rotate_right 4; (go_simp; rfl); (exact ⟨rfl, rfl, rfl⟩); (simp only [List.map_cons, List.map_nil, List.flatMap_cons, List.flatMap_nil, Value.cells, List.cons_append, List.nil_append, List.append_nil]; rfl)))
          apply LexR_end
          refine hK _ _ ?_
          clear hK K_
          repeat clear hr_
          clear hb_ R_ hops_ ops_
          intro w1 hw1 hf1
          apply tailR (fun _ => ?_) (fun _ => ?_) ?_
          rotate_right 2
          · simp only [putAll, Act.put, List.setIfInBounds_toArray, List.set_cons_succ, List.set_cons_zero]; first | done | rfl
          · simp only [List.drop_succ_cons, List.drop_zero]; first | done | rfl
          simp [allFacts, contOf, Exp.putAt, Exp.fact, Exp.fresh, Exp.blk] at hf1
          clear hf1
          replace k2 := grow_blk hw1 k2
          replace k3 := grow_blk hw1 k3
          replace hog := grow_blk hw1 hog
          replace HB := bl_call hw1 HB
          clear hw1 k6
          rw [hnx.out]
          refine wpList_store_row rfl _ _ _ rfl g3 (cw (refSumAt p (n + 1))) rfl rfl 54 _ k3 (by rw [cw_size, LN.out]; kernel_rfl) (by rw [cw_size, cw_size, LN.out, LR.out]) (cw_one _) ?_
          refine gen_list fun W2 hW => ?_
          replace HB : Below w.heap.size w W2 := by subst hW; exact bl_row _ _ (by omega) HB
          replace k2 := far_row hW k2 (by omega)
          replace hog := far_row hW hog (by omega)
          replace k3 : W2.heap[g3]? = some (.cells (cw (refSumAt p (n + 1))) 54 (0, 0)) := by subst hW; exact setRow_blk k3 _
          clear hW
          go_wp2_with fail
          go_roundw
          case measure => simp [intOf] <;> omega
          exact ⟨n + 1, by omega, congrArg (Value.int .i64) (by omega), HB, k2, k3, hog⟩
    · obtain rfl : n = e + 1 := by omega
      have hlt' : ¬ 64 * (((e + 1 : Nat)) : Int) < 64 * ((e : Int) + 1) := by omega
      have hres : refSumAt p (e + 1) = refSum bs := by rw [hp.out, he.out]; rfl
      rw [hres] at k3
      have LZ := Lib.hid (show (refSum bs).length = 8 from refSumAt_length _ _)
      go_upto_region 12 with (fail)
      refine wp_region_lit ?_
      refine wpList_load_row rfl _ _ rfl g3 rfl 54 (cw (refSum bs)) (0, 0) _ k3 Tryz.underlying54 rfl (by rw [cw_size, LZ.out]; kernel_rfl) ?_
      refine wpList_store_row rfl _ _ _ rfl (w.heap.size) (cw (refSum bs)) rfl rfl 54 _ k2 (by rw [cw_size, LZ.out]; kernel_rfl) (by rw [cw_size, LZ.out]; rfl) (cw_one _) ?_
      refine gen_list fun W2 hW => ?_
      replace k2 : W2.heap[w.heap.size]? = some (.cells (cw (refSum bs)) 54 (0, 0)) := by subst hW; exact setRow_blk k2 _
      replace HB : Below w.heap.size w W2 := by subst hW; exact bl_row _ _ (by omega) HB
      clear hW
      go_wp2
      exact bodyPost_ret (v := .agg (cw (refSum bs))) (results_cell_row Tryz.results36 _ _ (w.heap.size) 54 (cw (refSum bs)) (0, 0) _ rfl k2 Tryz.underlying54 rfl (by rw [cw_size, LZ.out]; kernel_rfl)) rfl ⟨rfl, HB⟩
end Go.Proofs.YthnackakgglhbaaGreat

/- Contract of hmac.tail: the blocks of a text behind a first block. -/
import Derived.Test.YthnackakgglhbaaGreatHt
namespace Go.Proofs.YthnackakgglhbaaGreat
open Go.RowKit
set_option maxRecDepth 100000
set_option linter.unusedSimpArgs false
set_option linter.unusedVariables false
attribute [local go_sem] evR_tmp evR_const evR_global evR_func
theorem rawAt_lt (xs : List W32) (i : Nat) (h : i < xs.length) : at32 xs i &&& kw 255 = byteAt (lowB xs ++ [128]) i := by
  rw [low_at xs i h]
  unfold byteAt
  rw [gD_left _ _ _ (by rw [lowB_length]; exact h)]
theorem rawAt_eq (xs : List W32) : kw 128 = byteAt (lowB xs ++ [128]) xs.length := by
  unfold byteAt
  rw [gD_right _ _ _ (by rw [lowB_length]; omega), lowB_length, Nat.sub_self]
  rfl
theorem rawAt_gt (xs : List W32) (i : Nat) (h : xs.length < i) : kw 0 = byteAt (lowB xs ++ [128]) i := by
  unfold byteAt
  rw [gD_none _ _ (by rw [List.length_append, lowB_length]; simp; omega)]
  rfl
theorem OwnBlk.set {w : World} {base n : Nat} {sv : Value} {cs : List Value} {p : Addr} (h : OwnBlk w base sv n cs) (hne : sv.ownBlock ≠ some p.block) (v : Value) : OwnBlk (w.setCell p v) base sv n cs :=
  ownsRow_block h fun g hg => Below.heap_setCell w p v g fun z => hne (by rw [hg, z])
set_option maxHeartbeats 8000000 in
theorem tail_c (xs : List W32) (sv : Value) (w : World) (hn : xs.length ≤ 500000) (hs : SliceOf w sv xs) : Calls Tryz.prog 107 #[sv] w fun x w' => ∃ g cap cur, x = .returned (.slice (some ⟨g, 0, none⟩) (tails (lowB xs)) cap) ∧ w.heap.size ≤ g ∧ w'.heap[g]? = some (.cells cur 140 (0, 0)) ∧ cur.toList.take (tails (lowB xs) * 16) = endCells (lowB xs) (tails (lowB xs)) ∧ Below w.heap.size w w' := by
  obtain ⟨ad, cap, rfl, hr⟩ := hs.form
  have hend := endCells_is (lowB xs) (by rw [lowB_length]; exact hn)
  rw [lowB_length] at hend
  have hTd : tails (lowB xs) = (64 + xs.length + 8) / 64 := by unfold tails lastAt; rw [lowB_length]
  have hTp := tails_pos (lowB xs)
  have hTb : tails (lowB xs) ≤ 10000 := by omega
  have hBl := fun w => Blocks_cN (64 + xs.length) (by omega) w
  have hbn : blocksN (64 + xs.length) = tails (lowB xs) + 1 := by rw [hTd]; unfold blocksN; omega
  rw [hbn] at hBl
  clear hbn
  have hT64 : xs.length < 64 * tails (lowB xs) := by omega
  generalize tails (lowB xs) = T at hend hTp hTb hBl hT64 ⊢
  clear hTd
  obtain ⟨n, hnx⟩ : ∃ n, n = xs.length := ⟨_, rfl⟩
  obtain ⟨N, hN⟩ : ∃ N, N = 64 + n := ⟨_, rfl⟩
  have eN : 64 + (n : Int) = (N : Int) := by omega
  have hNb : (N : Int) ≤ 500064 := by omega
  rw [← hnx] at hn hr hend hT64 ⊢
  rw [← hnx, ← hN] at hBl
  rw [← hN] at hend
  have hN2 : N ≤ 500064 := by omega
  replace hend := Lib.hid hend
  replace hnx := Lib.hid hnx
  replace hN := Lib.hid hN
  go_enter Tryz.func107, Tryz.ntmps107
  go_upto_region 4 with (fail)
  have HO0 : OwnBlk w w.heap.size (.slice none 0 0) 0 (rawCells (lowB xs) 0) := World.ownsRow_nil _ _ _ _
  have HB0 : Below w.heap.size w w := Below.refl _ _
  go_loopw [5, 4] (fun b sv wr => ∃ B : Nat, B ≤ T ∧ b = .int .i64 ((B : Int) + 1) ∧ OwnBlk wr w.heap.size sv B (rawCells (lowB xs) B) ∧ Below w.heap.size w wr) (fun b _ _ => T + 2 - (intOf b).toNat)
  case atStart => exact ⟨0, by omega, rfl, HO0, HB0⟩
  case round =>
    clear HO0 HB0
    obtain ⟨B, hB, rfl, HO, HB⟩ := hrel
    have pB : (0 : Int) ≤ (B : Int) := by omega
    have bB : (B : Int) ≤ 10000 := by omega
    by_cases hlt : B < T
    · have hlt' : (B : Int) + 1 < ((T + 1 : Nat) : Int) := by omega
      have hlt2 : (B : Int) + 1 < (T : Int) + 1 := by omega
      have hlt3 : (B : Int) < (T : Int) := by omega
      go_upto_region 6 with (go_at_call 101; refine (hBl _).mono ?_; rintro e w' ⟨rfl, rfl⟩)
      go_upto_region 8 with (fail)
      refine gen_world fun W hW => ?_
      have k6 : W.heap[wr.heap.size]? = some (.cells (Array.replicate 16 (.int .u32 0)) 140 (0, 0)) := by subst hW; exact blk_new' (by simp) _
      have HBW : Below wr.heap.size wr W := by subst hW; (repeat (first | exact Below.refl _ _ | (refine bl_alloc ?_ _) | (refine bl_drewN ?_ _) | (refine bl_drew ?_) | (refine bl_call (by assumption) ?_) | (refine bl_set _ _ (by simp <;> omega) ?_) | assumption))
      clear hW
      have hne : u4.ownBlock ≠ some wr.heap.size := fun q => by have := (ownsRow_lt HO q).2; omega
      replace HO := HO.grow HBW
      have m6 : w.heap.size ≤ wr.heap.size := HB.size
      replace HB := bl_call HBW HB
      obtain ⟨g6, hg6⟩ : ∃ g, g = wr.heap.size := ⟨_, rfl⟩
      rw [← hg6] at k6 hne m6 ⊢
      clear HBW hg6
      have HO0 := HO
      have HB0 := HB
      have k60 : W.heap[g6]? = some (.cells (cw (rawBlk (lowB xs) B 0)) 140 (0, 0)) := by unfold rawBlk; rw [rblockTo_zero]; exact k6
      clear HO HB k6
      go_loopw [20] (fun i wr => ∃ j : Nat, j ≤ 64 ∧ i = .int .i64 (j : Int) ∧ Below w.heap.size w wr ∧ OwnBlk wr w.heap.size u4 B (rawCells (lowB xs) B) ∧ wr.heap[g6]? = some (.cells (cw (rawBlk (lowB xs) B j)) 140 (0, 0))) (fun i _ => 64 - (intOf i).toNat)
      case atStart => exact ⟨0, by omega, rfl, HB0, HO0, k60⟩
      case round =>
        clear HO0 HB0 k60
        obtain ⟨j, hj, rfl, HB, HO, k6⟩ := hrel
        have pj : (0 : Int) ≤ (j : Int) := by omega
        by_cases hlj : j < 64
        · have hlj' : (j : Int) < 64 := by omega
          obtain ⟨at_, hat⟩ : ∃ i, i = 64 * B + j := ⟨_, rfl⟩
          have e2 : ((B : Int) + 1) * 64 + (j : Int) - 64 = (at_ : Int) := by omega
          have pat : (0 : Int) ≤ (at_ : Int) := by omega
          have bat : (at_ : Int) ≤ 1000000 := by omega
          replace hat := Lib.hid hat
          have q6 := blk_lt k6
          go_upto_region 11 with (fail)
          refine wp_region_R 3 [] (by kernel_rfl) (by kernel_rfl) (by kernel_rfl) (by kernel_rfl) ?_
          intro K_ ops_ hops_ hK
          replace hops_ := Lib.hid hops_
          apply Exists.intro
          intro R_ hb_
          simp only [↓baseR, ↓nthR_succ, ↓nthR_zero] at hb_
          simp only [List.take_succ_cons, List.take_zero, List.drop_succ_cons, List.drop_zero]
          repeat (first
            
            | (apply LexR_put (j := 1) (ho := rfl); (go_simp; rfl); (go_simp; rfl); rfl; rfl; (focus (first | decide | (simp; done))); rfl; rfl; kernel_rfl; kernel_rfl; (first | exact cw_one _ | simp [Value.oneCell']); (first | (rw [cw_size, L64.out]; rfl) | (rw [cw_size, L8.out]; rfl) | (rw [cw_size]; rfl) | rfl); intro _)
            | (apply LexR_callF (f := 68) (by rfl) (by rfl) (by rfl) Tryz.func68 (by kernel_rfl) (by kernel_rfl) (fun _ => ?_) (fun w1 hw1 hd1 => ?_) (fun _ hr_ => ?_); rotate_right 3; (go_simp; first | done | rfl); exact (Of_c _ (kw 0) rfl w1))
            | (apply LexR_det (by rfl) (by rfl) (by rfl) (fun w1 hw1 hd1 => ?_) (fun _ hr_ => ?_); rotate_right 2; (go_simp; first | done | rfl ))
            | (apply LexR_box (by rfl) (by rfl) (by rfl) (fun w1 hw1 hd1 => ?_) (fun _ hr_ => ?_); rotate_right 2; (go_simp; first | done | rfl))
            | (apply LexR_bs (t := 76) (e := 80) (z := .agg #[.int .u32 0]) (ho := rfl) (by rfl) (by rfl) Tryz.underlying76 (by kernel_rfl) (by decide) (by decide) (fun _ => ?_) (fun _ => ?_) (fun _ => ?_) (fun _ hr_ => ?_); rotate_right 4; (go_simp; rfl); (exact ⟨rfl, rfl, rfl⟩); (simp only [List.map_cons, List.map_nil, List.flatMap_cons, List.flatMap_nil, Value.cells, List.cons_append, List.nil_append, List.append_nil]; rfl)))
          apply LexR_end
          refine hK _ _ ?_
          clear hK K_
          repeat clear hr_
          clear hb_ R_ hops_ ops_
          intro w1 hw1 hf1
          apply tailR (fun _ => ?_) (fun _ => ?_) ?_
          rotate_right 2
          · simp only [putAll, Act.put, List.setIfInBounds_toArray, List.set_cons_succ, List.set_cons_zero]; first | done | rfl
          · simp only [List.drop_succ_cons, List.drop_zero]; first | done | rfl
          simp [allFacts, contOf, Exp.putAt, Exp.fact, Exp.fresh, Exp.blk] at hf1
          obtain ⟨k9, l9⟩ := hf1
          obtain ⟨g9, e_⟩ := name_blk k9
          subst e_
          replace k6 := grow_blk hw1 k6
          have hne9 : u4.ownBlock ≠ some g9 := fun q => by have := (ownsRow_lt HO q).2; omega
          replace HO := HO.grow hw1
          replace HB := bl_call hw1 HB
          have m9 : g6 < g9 := by omega
          clear hw1 l9 q6
          rcases (show at_ < n ∨ at_ = n ∨ n < at_ by omega) with hc | hc | hc
          focus
            have hc1 : (at_ : Int) < (n : Int) := by omega
            obtain ⟨gb, off, rfl, ho, hrow⟩ := hr (by omega)
            have cx : w1.cell? ⟨gb, off + at_, none⟩ = some (.int .u32 (iw (at32 xs at_))) := (hrow.grow HB) at_ (by rw [← hnx.out]; exact hc)
            go_upto_region 13 with (fail)
            refine wp_region_R 6 [0, 8] (by kernel_rfl) (by kernel_rfl) (by kernel_rfl) (by kernel_rfl) ?_
            intro K_ ops_ hops_ hK
            replace hops_ := Lib.hid hops_
            apply Exists.intro
            intro R_ hb_
            simp only [↓baseR, ↓nthR_succ, ↓nthR_zero] at hb_
            simp only [List.take_succ_cons, List.take_zero, List.drop_succ_cons, List.drop_zero]
            repeat (first
              
              
              | (apply LexR_callF (f := 68) (by rfl) (by rfl) (by rfl) Tryz.func68 (by kernel_rfl) (by kernel_rfl) (fun _ => ?_) (fun w1 hw1 hd1 => ?_) (fun _ hr_ => ?_); rotate_right 3; (go_simp; first | done | rfl); exact (Of_c _ (kw 255) rfl w1)) | (apply LexR_callF (f := 66) (by rfl) (by rfl) (by rfl) Tryz.func66 (by kernel_rfl) (by kernel_rfl) (fun _ => ?_) (fun w1 hw1 hd1 => ?_) (fun _ hr_ => ?_); rotate_right 3; (go_simp; first | done | rfl); exact (And_c _ _ w1))
              | (apply LexR_det (by rfl) (by rfl) (by rfl) (fun w1 hw1 hd1 => ?_) (fun _ hr_ => ?_); rotate_right 2; (go_simp; first | done | rfl | (rw [grow_cell hw1 cx]; focus ((try simp); first | done | rfl))))
              | (apply LexR_box (by rfl) (by rfl) (by rfl) (fun w1 hw1 hd1 => ?_) (fun _ hr_ => ?_); rotate_right 2; (go_simp; first | done | rfl))
              | (apply LexR_bs (t := 76) (e := 80) (z := .agg #[.int .u32 0]) (ho := rfl) (by rfl) (by rfl) Tryz.underlying76 (by kernel_rfl) (by decide) (by decide) (fun _ => ?_) (fun _ => ?_) (fun _ => ?_) (fun _ hr_ => ?_); rotate_right 4; (go_simp; rfl); (exact ⟨rfl, rfl, rfl⟩); (simp only [List.map_cons, List.map_nil, List.flatMap_cons, List.flatMap_nil, Value.cells, List.cons_append, List.nil_append, List.append_nil]; rfl)))
            apply LexR_end
            refine hK _ _ ?_
            clear hK K_
            repeat clear hr_
            clear hb_ R_ hops_ ops_
            intro w1 hw1 hf1
            apply tailR (fun _ => ?_) (fun _ => ?_) ?_
            rotate_right 2
            · simp only [putAll, Act.put, List.setIfInBounds_toArray, List.set_cons_succ, List.set_cons_zero]; first | done | rfl
            · simp only [List.drop_succ_cons, List.drop_zero]; first | done | rfl
            simp [allFacts, contOf, Exp.putAt, Exp.fact, Exp.fresh, Exp.blk] at hf1
            clear hf1 cx
            replace k6 := grow_blk hw1 k6
            replace k9 := grow_blk hw1 k9
            replace HO := HO.grow hw1
            replace HB := bl_call hw1 HB
            clear hw1
            rw [rawAt_lt xs at_ (by rw [← hnx.out]; exact hc)]
            have c9 := blk_cell k9 0
            have f9 := blk_frozen k9 0
            go_upto_region 16 with (fail)
            refine gen_world fun W2 hW => ?_
            replace k6 := far_eq hW k6 (by simp; omega)
            replace HO : OwnBlk W2 w.heap.size u4 B (rawCells (lowB xs) B) := by subst hW; exact HO.set (by simpa using hne9) _
            replace HB : Below w.heap.size w W2 := by subst hW; exact bl_set _ _ (by simp; omega) HB
            replace k9 : W2.heap[g9]? = some (.cells #[.int .u32 (iw (byteAt (lowB xs ++ [128]) at_))] 80 (0, 0)) := by subst hW; exact blk_set k9 0 _
            clear hW c9 f9 hrow ho hc1 hc
          rotate_left
          focus
            have hc1 : ¬ (at_ : Int) < (n : Int) := by omega
            have hc2 : ((at_ : Int) == (n : Int)) = true := by simp; omega
            have hc3 : (at_ : Int) = (n : Int) := by omega
            go_upto_region 15 with (fail)
            have c9 := blk_cell k9 0
            have f9 := blk_frozen k9 0
            go_upto_region 16 with (go_at_call 68; refine (Of_c _ (kw 128) rfl _).mono ?_; rintro e w2 ⟨rfl, hw2⟩; replace k6 := grow_blk hw2 k6; replace k9 := grow_blk hw2 k9; replace HO := HO.grow hw2; replace HB := bl_call hw2 HB; clear hw2 c9 f9; have c9 := blk_cell k9 0; have f9 := blk_frozen k9 0)
            refine gen_world fun W2 hW => ?_
            replace k6 := far_eq hW k6 (by simp; omega)
            replace HO : OwnBlk W2 w.heap.size u4 B (rawCells (lowB xs) B) := by subst hW; exact HO.set (by simpa using hne9) _
            replace HB : Below w.heap.size w W2 := by subst hW; exact bl_set _ _ (by simp; omega) HB
            replace k9 : W2.heap[g9]? = some (.cells #[.int .u32 (iw (byteAt (lowB xs ++ [128]) at_))] 80 (0, 0)) := by subst hW; rw [show at_ = xs.length by rw [hc, hnx.out], ← rawAt_eq]; exact blk_set k9 0 _
            clear hW c9 f9 hc1 hc2 hc3 hc
          rotate_left
          focus
            have hc1 : ¬ (at_ : Int) < (n : Int) := by omega
            have hc2 : ((at_ : Int) == (n : Int)) = false := by simp; omega
            have hc3 : ¬ (at_ : Int) = (n : Int) := by omega
            go_upto_region 16 with (fail)
            replace k9 : w1.heap[g9]? = some (.cells #[.int .u32 (iw (byteAt (lowB xs ++ [128]) at_))] 80 (0, 0)) := by rw [← rawAt_gt xs at_ (by rw [← hnx.out]; exact hc)]; exact k9
            clear hc1 hc2 hc3 hc
          rotate_left
          all_goals
            have c6 := blk_cell k6 (j / 4)
            rw [cw_at _ _ (by unfold rawBlk; rw [rblockTo_length]; omega)] at c6
            have e4 : IntKind.i64.wrap ((j : Int) / 4) = (j : Int) / 4 := by rw [IntWalk.i64_in _ (by omega)]; try omega
            have p4 : 0 ≤ (j : Int) / 4 := by omega
            have b4 : (j : Int) / 4 < 16 := by omega
            have t4 : ((j : Int) / 4).toNat = j / 4 := by omega
            refine wp_region_R 10 [6, 7, 9] (by kernel_rfl) (by kernel_rfl) (by kernel_rfl) (by kernel_rfl) ?_
            intro K_ ops_ hops_ hK
            replace hops_ := Lib.hid hops_
            apply Exists.intro
            intro R_ hb_
            simp only [↓baseR, ↓nthR_succ, ↓nthR_zero] at hb_
            simp only [List.take_succ_cons, List.take_zero, List.drop_succ_cons, List.drop_zero]
            repeat (first
              
              
              | (apply LexR_callF (f := 106) (by rfl) (by rfl) (by rfl) Tryz.func106 (by kernel_rfl) (by kernel_rfl) (fun _ => ?_) (fun w1 hw1 hd1 => ?_) (fun _ hr_ => ?_); rotate_right 3; (go_simp; first | done | rfl); exact (Shl_c _ _ (by omega) (by omega) w1)) | (apply LexR_callF (f := 105) (by rfl) (by rfl) (by rfl) Tryz.func105 (by kernel_rfl) (by kernel_rfl) (fun _ => ?_) (fun w1 hw1 hd1 => ?_) (fun _ hr_ => ?_); rotate_right 3; (go_simp; first | done | rfl); exact (Or_c _ _ w1))
              | (apply LexR_det (by rfl) (by rfl) (by rfl) (fun w1 hw1 hd1 => ?_) (fun _ hr_ => ?_); rotate_right 2; (go_simp; first | done | rfl | (rw [grow_cell hw1 c6]; focus ((try simp); first | done | rfl)) | (rw [blk_cell (grow_blk hw1 k9)]; focus ((try simp); first | done | rfl))))
              | (apply LexR_box (by rfl) (by rfl) (by rfl) (fun w1 hw1 hd1 => ?_) (fun _ hr_ => ?_); rotate_right 2; (go_simp; first | done | rfl))
              | (apply LexR_bs (t := 76) (e := 80) (z := .agg #[.int .u32 0]) (ho := rfl) (by rfl) (by rfl) Tryz.underlying76 (by kernel_rfl) (by decide) (by decide) (fun _ => ?_) (fun _ => ?_) (fun _ => ?_) (fun _ hr_ => ?_); rotate_right 4; (go_simp; rfl); (exact ⟨rfl, rfl, rfl⟩); (simp only [List.map_cons, List.map_nil, List.flatMap_cons, List.flatMap_nil, Value.cells, List.cons_append, List.nil_append, List.append_nil]; rfl)))
            apply LexR_end
            refine hK _ _ ?_
            clear hK K_
            repeat clear hr_
            clear hb_ R_ hops_ ops_
            intro w1 hw1 hf1
            apply tailR (fun _ => ?_) (fun _ => ?_) ?_
            rotate_right 2
            · simp only [putAll, Act.put, List.setIfInBounds_toArray, List.set_cons_succ, List.set_cons_zero]; first | done | rfl
            · simp only [List.drop_succ_cons, List.drop_zero]; first | done | rfl
            simp [allFacts, contOf, Exp.putAt, Exp.fact, Exp.fresh, Exp.blk] at hf1
            clear hf1 c6
            replace k6 := grow_blk hw1 k6
            replace HO := HO.grow hw1
            replace HB := bl_call hw1 HB
            clear hw1 k9
            have cs := blk_cell k6 (j / 4)
            rw [cw_at _ _ (by unfold rawBlk; rw [rblockTo_length]; omega)] at cs
            have fs := blk_frozen k6 (j / 4)
            go_wp2_with fail
            go_roundw
            case measure => simp [intOf] <;> omega
            refine ⟨j + 1, by omega, congrArg (Value.int .i64) (by omega), bl_set _ _ (by simp <;> omega) HB, HO.set (by simpa using hne) _, ?_⟩
            have z := rblockTo_set (lowB xs ++ [128]) (64 * B) j hlj
            rw [← hat.out] at z
            unfold rawBlk at k6 ⊢
            rw [← z, ← cw_set]
            exact blk_set k6 (j / 4) _
        · obtain rfl : j = 64 := by omega
          have hlj' : ¬ ((64 : Nat) : Int) < 64 := by omega
          have L16 := Lib.hid (show (rawBlk (lowB xs) B 64).length = 16 from rblockTo_length _ _ _)
          have hsn := rawCells_snoc (lowB xs) B
          generalize rawBlk (lowB xs) B 64 = rb at k6 L16 hsn
          replace hsn := Lib.hid hsn
          go_upto_region 18 with (fail)
          refine wp_region_R 2 [4, 6] (by kernel_rfl) (by kernel_rfl) (by kernel_rfl) (by kernel_rfl) ?_
          intro K_ ops_ hops_ hK
          replace hops_ := Lib.hid hops_
          apply Exists.intro
          intro R_ hb_
          simp only [↓baseR, ↓nthR_succ, ↓nthR_zero] at hb_
          simp only [List.take_succ_cons, List.take_zero, List.drop_succ_cons, List.drop_zero]
          repeat (first
            | (apply LexR_det (by rfl) (by rfl) (by rfl) (fun w1 hw1 hd1 => ?_) (fun _ hr_ => ?_); rotate_right 2; (refine run_load_rowR (ty := 140) rfl ?_ (grow_blk hw1 k6) Tryz.underlying140 rfl ?_; (focus (go_simp; done)); (rw [cw_size, L16.out]; kernel_rfl)))
            
            
            | (apply LexR_det (by rfl) (by rfl) (by rfl) (fun w1 hw1 hd1 => ?_) (fun _ hr_ => ?_); rotate_right 2; (go_simp; first | done | rfl ))
            | (apply LexR_box (by rfl) (by rfl) (by rfl) (fun w1 hw1 hd1 => ?_) (fun _ hr_ => ?_); rotate_right 2; (go_simp; first | done | rfl))
            | (apply LexR_bs (t := 76) (e := 80) (z := .agg #[.int .u32 0]) (ho := rfl) (by rfl) (by rfl) Tryz.underlying76 (by kernel_rfl) (by decide) (by decide) (fun _ => ?_) (fun _ => ?_) (fun _ => ?_) (fun _ hr_ => ?_); rotate_right 4; (go_simp; rfl); (exact ⟨rfl, rfl, rfl⟩); (simp only [List.map_cons, List.map_nil, List.flatMap_cons, List.flatMap_nil, Value.cells, List.cons_append, List.nil_append, List.append_nil]; rfl)))
          apply LexR_end
          refine hK _ _ ?_
          clear hK K_
          repeat clear hr_
          clear hb_ R_ hops_ ops_
          intro w1 hw1 hf1
          apply tailR (fun _ => ?_) (fun _ => ?_) ?_
          rotate_right 2
          · simp only [putAll, Act.put, List.setIfInBounds_toArray, List.set_cons_succ, List.set_cons_zero]; first | done | rfl
          · simp only [List.drop_succ_cons, List.drop_zero]; first | done | rfl
          simp [allFacts, contOf, Exp.putAt, Exp.fact, Exp.fresh, Exp.blk] at hf1
          clear hf1 k6
          replace HO := HO.grow hw1
          replace HB := bl_call hw1 HB
          clear hw1
          refine wpList_bs_blk rfl 145 140 _ (cw rb) rfl Tryz.underlying145 (by kernel_rfl) rfl (by rw [cw_size, L16.out]) ?_
          refine wpList_app_blk rfl _ _ 145 rfl w.heap.size 140 (.agg (Array.replicate 16 (.int .u32 0))) 16 128 Tryz.underlying145 (by kernel_rfl) rfl (by decide) (by decide) u4 B _ rfl (HO.grow (bl_alloc (Below.refl _ _) _)) w1.heap.size 1 140 (cw rb) (by rw [cw_size, L16.out]) rfl (blk_new w1 _) (cw_one _) (by omega) (bl_alloc HB _).size ?_
          intro g3 cap3 W2 hO hgr hsv hgl
          replace HB := grown_below (bl_alloc HB _) hgr (bl_alloc HB _).size fun g hg' => (ownsRow_lt HO hg').1
          rw [← hsn.out] at hO
          replace HO : OwnBlk W2 w.heap.size (.slice (some ⟨g3, 0, none⟩) (B + 1) cap3) (B + 1) (rawCells (lowB xs) (B + 1)) := hO
          generalize (Value.slice (some ⟨g3, 0, none⟩) (B + 1) cap3) = sv2 at HO ⊢
          clear hO hgr hsv hgl
          go_wp2_with fail
          refine ⟨⟨B + 1, by omega, congrArg (Value.int .i64) (by omega), HO, HB⟩, by simp [intOf]; omega⟩
    · obtain rfl : B = T := by omega
      obtain ⟨T0, rfl⟩ : ∃ T0, B = T0 + 1 := ⟨B - 1, by omega⟩
      have hlt' : ¬ (((T0 + 1 : Nat) : Int) + 1 < ((T0 + 1 : Nat) : Int) + 1) := by omega
      rcases HO.2 with ⟨_, q⟩ | ⟨g, capp, cur, rfl, hg, kg, h3, h4, h5, h6⟩
      · omega
      have hl15 : T0 * 16 + 15 < cur.size := by rw [h5]; have := Nat.mul_le_mul_right 16 h3; omega
      have pT : (0 : Int) ≤ (T0 : Int) := by omega
      go_upto_region 19 with (go_at_call 101; refine (hBl _).mono ?_; rintro e w' ⟨rfl, rfl⟩)
      go_upto_region 20 with (fail)
      have e8 : IntKind.i64.wrap (8 * (N : Int)) = 8 * (N : Int) := IntWalk.i64_in _ (by omega)
      have v15 : cur[T0 * 16 + 15]? = some cur[T0 * 16 + 15] := Array.getElem?_eq_getElem hl15
      refine wp_region_R 7 [3, 10] (by kernel_rfl) (by kernel_rfl) (by kernel_rfl) (by kernel_rfl) ?_
      intro K_ ops_ hops_ hK
      replace hops_ := Lib.hid hops_
      apply Exists.intro
      intro R_ hb_
      simp only [↓baseR, ↓nthR_succ, ↓nthR_zero] at hb_
      simp only [List.take_succ_cons, List.take_zero, List.drop_succ_cons, List.drop_zero]
      repeat (first
        
        
        | (apply LexR_callF (f := 68) (by rfl) (by rfl) (by rfl) Tryz.func68 (by kernel_rfl) (by kernel_rfl) (fun _ => ?_) (fun w1 hw1 hd1 => ?_) (fun _ hr_ => ?_); rotate_right 3; (go_simp; first | done | rfl); exact (Of_c _ (kw (8 * N)) (by have z := kw_iw (8 * N) (by omega); try simp only [IntKind.wrap_u32']; omega) w1))
        | (apply LexR_det (by rfl) (by rfl) (by rfl) (fun w1 hw1 hd1 => ?_) (fun _ hr_ => ?_); rotate_right 2; (go_simp; first | done | rfl ))
        | (apply LexR_box (by rfl) (by rfl) (by rfl) (fun w1 hw1 hd1 => ?_) (fun _ hr_ => ?_); rotate_right 2; (go_simp; first | done | rfl))
        | (apply LexR_bs (t := 76) (e := 80) (z := .agg #[.int .u32 0]) (ho := rfl) (by rfl) (by rfl) Tryz.underlying76 (by kernel_rfl) (by decide) (by decide) (fun _ => ?_) (fun _ => ?_) (fun _ => ?_) (fun _ hr_ => ?_); rotate_right 4; (go_simp; rfl); (exact ⟨rfl, rfl, rfl⟩); (simp only [List.map_cons, List.map_nil, List.flatMap_cons, List.flatMap_nil, Value.cells, List.cons_append, List.nil_append, List.append_nil]; rfl)))
      apply LexR_end
      refine hK _ _ ?_
      clear hK K_
      repeat clear hr_
      clear hb_ R_ hops_ ops_
      intro w1 hw1 hf1
      apply tailR (fun _ => ?_) (fun _ => ?_) ?_
      rotate_right 2
      · simp only [putAll, Act.put, List.setIfInBounds_toArray, List.set_cons_succ, List.set_cons_zero]; first | done | rfl
      · simp only [List.drop_succ_cons, List.drop_zero]; first | done | rfl
      simp [allFacts, contOf, Exp.putAt, Exp.fact, Exp.fresh, Exp.blk] at hf1
      clear hf1
      replace kg := grow_blk hw1 kg
      replace HB := bl_call hw1 HB
      clear hw1
      have c15 := blk_cell kg (T0 * 16 + 15)
      rw [v15] at c15
      have f15 := blk_frozen kg (T0 * 16 + 15)
      clear v15
      go_upto_region 21 with (fail)
      refine gen_world fun W2 hW => ?_
      replace HB : Below w.heap.size w W2 := by subst hW; exact bl_set _ _ (by simp <;> omega) HB
      replace kg : W2.heap[g]? = some (.cells (cur.setIfInBounds (T0 * 16 + 15) (sec (kw (8 * N)))) 140 (0, 0)) := by subst hW; exact blk_set kg _ _
      clear hW c15 f15
      have v14 : (cur.setIfInBounds (T0 * 16 + 15) (sec (kw (8 * N))))[T0 * 16 + 14]? = some cur[T0 * 16 + 14] := by rw [Array.getElem?_setIfInBounds_ne (by omega)]; exact Array.getElem?_eq_getElem (by omega)
      have e32 : 8 * (N : Int) / 4294967296 = 0 := by omega
      refine wp_region_R 8 [3, 10] (by kernel_rfl) (by kernel_rfl) (by kernel_rfl) (by kernel_rfl) ?_
      intro K_ ops_ hops_ hK
      replace hops_ := Lib.hid hops_
      apply Exists.intro
      intro R_ hb_
      simp only [↓baseR, ↓nthR_succ, ↓nthR_zero] at hb_
      simp only [List.take_succ_cons, List.take_zero, List.drop_succ_cons, List.drop_zero]
      repeat (first
        
        
        | (apply LexR_callF (f := 68) (by rfl) (by rfl) (by rfl) Tryz.func68 (by kernel_rfl) (by kernel_rfl) (fun _ => ?_) (fun w1 hw1 hd1 => ?_) (fun _ hr_ => ?_); rotate_right 3; (go_simp; first | done | rfl); exact (Of_c _ (kw 0) (by first | rfl | (have z := kw_iw 0 (by omega); (try simp only [IntKind.wrap_u32']); omega)) w1))
        | (apply LexR_det (by rfl) (by rfl) (by rfl) (fun w1 hw1 hd1 => ?_) (fun _ hr_ => ?_); rotate_right 2; (go_simp; first | done | rfl ))
        | (apply LexR_box (by rfl) (by rfl) (by rfl) (fun w1 hw1 hd1 => ?_) (fun _ hr_ => ?_); rotate_right 2; (go_simp; first | done | rfl))
        | (apply LexR_bs (t := 76) (e := 80) (z := .agg #[.int .u32 0]) (ho := rfl) (by rfl) (by rfl) Tryz.underlying76 (by kernel_rfl) (by decide) (by decide) (fun _ => ?_) (fun _ => ?_) (fun _ => ?_) (fun _ hr_ => ?_); rotate_right 4; (go_simp; rfl); (exact ⟨rfl, rfl, rfl⟩); (simp only [List.map_cons, List.map_nil, List.flatMap_cons, List.flatMap_nil, Value.cells, List.cons_append, List.nil_append, List.append_nil]; rfl)))
      apply LexR_end
      refine hK _ _ ?_
      clear hK K_
      repeat clear hr_
      clear hb_ R_ hops_ ops_
      intro w1 hw1 hf1
      apply tailR (fun _ => ?_) (fun _ => ?_) ?_
      rotate_right 2
      · simp only [putAll, Act.put, List.setIfInBounds_toArray, List.set_cons_succ, List.set_cons_zero]; first | done | rfl
      · simp only [List.drop_succ_cons, List.drop_zero]; first | done | rfl
      simp [allFacts, contOf, Exp.putAt, Exp.fact, Exp.fresh, Exp.blk] at hf1
      clear hf1
      replace kg := grow_blk hw1 kg
      replace HB := bl_call hw1 HB
      clear hw1
      have c14 := blk_cell kg (T0 * 16 + 14)
      rw [v14] at c14
      have f14 := blk_frozen kg (T0 * 16 + 14)
      clear v14
      go_upto_region 22 with (fail)
      refine gen_world fun W3 hW => ?_
      replace HB : Below w.heap.size w W3 := by subst hW; exact bl_set _ _ (by simp <;> omega) HB
      replace kg : W3.heap[g]? = some (.cells ((cur.setIfInBounds (T0 * 16 + 15) (sec (kw (8 * N)))).setIfInBounds (T0 * 16 + 14) (sec (kw 0))) 140 (0, 0)) := by subst hW; exact blk_set kg _ _
      clear hW c14 f14 e8 e32
      go_wp2
      refine bodyPost_ret (v := .slice (some ⟨g, 0, none⟩) (T0 + 1) capp) (by simp [results, Tryz.results107, go_sem]) rfl ⟨g, capp, _, rfl, hg, kg, ?_, HB⟩
      rw [hend.out, ← h6]
      simp only [Array.toList_setIfInBounds, List.take_set]
      rfl
end Go.Proofs.YthnackakgglhbaaGreat

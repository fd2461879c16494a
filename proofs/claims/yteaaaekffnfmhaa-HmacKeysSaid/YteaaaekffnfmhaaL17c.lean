/- The law HmacKeys. -/
import Derived.Test.YteaaaekffnfmhaaHk
import Derived.Test.YteaaaekffnfmhaaL17b
namespace Go.Proofs.Yteaaaekffnfmhaa
open Go.RowKit Go.Lib
set_option maxRecDepth 100000
set_option linter.unusedSimpArgs false
set_option linter.unusedVariables false
attribute [local go_sem] evR_tmp evR_const evR_global evR_func
/-- The events of taking n words and of putting k ones. -/
def puts (n k : Nat) : List Ev := (4, 0, (n : Int)) :: (List.range k).map fun (j : Nat) => (2, (j : Int), 0)
theorem puts_snoc (n k : Nat) : puts n (k + 1) = puts n k ++ [(2, (k : Int), 0)] := by simp [puts, List.range_succ]
theorem puts_length (n k : Nat) : (puts n k).length = k + 1 := by simp [puts]
theorem evcs_at (es : List Ev) (i : Nat) (h : i < es.length) : (evcs es)[3 * i]? = some (.int .i64 es[i].1) ∧ (evcs es)[3 * i + 1]? = some (.int .i64 es[i].2.1) ∧ (evcs es)[3 * i + 2]? = some (.int .u32 es[i].2.2) := by
  induction es generalizing i with
  | nil => simp at h
  | cons e es ih =>
    cases i with
    | zero => simp [evcs, evc]
    | succ i =>
      have hi : i < es.length := by simpa using h
      obtain ⟨a, b, c⟩ := ih i hi
      have e0 : evcs (e :: es) = [.int .i64 e.1, .int .i64 e.2.1, .int .u32 e.2.2] ++ evcs es := by simp [evcs, evc]
      refine ⟨?_, ?_, ?_⟩
      · rw [e0, List.getElem?_append_right (by simp; omega)]
        simpa [show 3 * (i + 1) - 3 = 3 * i by omega] using a
      · rw [e0, List.getElem?_append_right (by simp; omega)]
        simpa [show 3 * (i + 1) + 1 - 3 = 3 * i + 1 by omega] using b
      · rw [e0, List.getElem?_append_right (by simp; omega)]
        simpa [show 3 * (i + 1) + 2 - 3 = 3 * i + 2 by omega] using c
theorem RowB.hi {w : World} {ao : Option Addr} {cap : Nat} {bs : List UInt8} (h : RowB w (.slice ao bs.length cap) bs) (m : Nat) (hm : m ≤ bs.length) : RowB w (.slice ao m cap) (bs.take m) := by
  obtain ⟨ao', cap', h1, h2, h3⟩ := h
  cases h1
  refine ⟨ao, cap, by rw [List.length_take, Nat.min_eq_left hm], fun z => ?_, fun k hk => ?_⟩
  · obtain ⟨hb, hc⟩ := h2 z
    exact ⟨by rw [hb]; simp, hc⟩
  · have hk' : k < bs.length := by rw [List.length_take] at hk; omega
    obtain ⟨g, off, rfl, hc⟩ := h3 k hk'
    exact ⟨g, off, rfl, by rw [List.getElem_take]; exact hc⟩
/-- Bytes as words. -/
def wordsB (bs : List UInt8) : List W32 := bs.map fun b => kw b.toNat
theorem wordsB_length (bs : List UInt8) : (wordsB bs).length = bs.length := by rw [wordsB, List.length_map]
theorem wordsB_at (bs : List UInt8) (k : Nat) (h : k < bs.length) : (bs[k].toNat : Int) % 4294967296 = iw (at32 (wordsB bs) k) := by
  have hb := bs[k].toNat_lt
  rw [show at32 (wordsB bs) k = kw bs[k].toNat by simp [at32, wordsB, h]]
  exact conv_kw _ (by omega)
theorem keys_is (bs : List UInt8) (len : W32) (hn : bs.length ≤ 200) : (keyState bs.length len fun i => at32 (wordsB bs) (0 + i)) = stateW (keyB (bs.take (min bs.length len.toNat))) := by
  have hl : (bs.take (min bs.length len.toNat)).length = min bs.length len.toNat := by rw [List.length_take]; omega
  have hf : ∀ i, i < (bs.take (min bs.length len.toNat)).length → at32 (wordsB bs) (0 + i) &&& kw 255 = byteAt (bs.take (min bs.length len.toNat)) i := fun i hi => by
    have hib : i < bs.length := by rw [hl] at hi; omega
    rw [Nat.zero_add]
    simp only [at32, wordsB, List.getD_eq_getElem?_getD, List.getElem?_map, List.getElem?_eq_getElem hib, Option.map_some, Option.getD_some, byteAt, List.getElem?_take]
    rw [if_pos (by rw [hl] at hi; exact hi)]
    simp only [Option.getD_some]
    exact low_byte _
  unfold keyState
  rw [cutw_is _ (by omega)]
  conv => lhs; rw [← hl]
  rw [hash_is _ _ _ (by rw [hl]; omega) (by omega) hf, either_is _ _ _ (by rw [hl]; omega) (by omega) hf]
set_option maxHeartbeats 8000000 in
theorem HmacKeys_c (bs tb : List UInt8) (sv tv : Value) (len : W32) (w : World) (hb : RowB w sv bs) (hlc : ∀ ao len cap, sv = .slice ao len cap → len ≤ cap) (htv : RowB w tv tb) (hn : bs.length ≤ 100) (hn2 : tb.length ≤ 60) : Calls Try.prog 5 #[sv, .int .u32 (iw len), tv] w fun e w' => e = .returned (.bool true) ∧ Below w.heap.size w w' := by
  obtain ⟨ao, cap, rfl, hno, hcc⟩ := id hb
  replace hlc := hlc _ _ _ rfl
  obtain ⟨ta, tc, htv1, _, _⟩ := id htv
  subst htv1
  have hn' : (bs.length : Int) ≤ 100 := by omega
  have hn2' : ¬ (60 : Int) < (tb.length : Int) := by omega
  go_enter Try.func5, Try.ntmps5
  go_upto_region 6 with (go_at_call 6; refine (awake17_c _).mono ?_; rintro e w1 ⟨rfl, HB0⟩)
  go_upto_region 7 with (first | (go_at_call 15; refine (New_c bs.length (by omega) _).mono ?_; rintro e w2 ⟨g8, rfl, F8, hJ8, hF8, HB8⟩))
  rename_i w2a g9 F9 hJ9 hF9 HB9 _ _
  have KX := fun xs top es => ArJ.keeps g9 xs top es
  have KY := fun xs top es => ArJ.keeps g8 xs top es
  have T := Two.start (w0 := w) (KX _ _ _) (KY _ _ _) hJ9 (fun b hb => Nat.le_trans HB0.size (hF9 b hb)) (bl_call HB9 HB0) hJ8 hF8 HB8
  clear hJ9 hF9 HB9 hJ8 hF8 HB8 HB0
  obtain ⟨F, hJ, hup⟩ := T.up (KY _ _ _)
  go_upto_region 8 with (go_at_call 16; refine (Take_c g9 _ 0 [] bs.length _ F hJ (by simp) (by simp)).mono ?_; rintro e w3 ⟨rfl, hU⟩)
  replace T := (hup _ _ (KX _ _ _) hU).1.swap
  clear hup hU hJ
  obtain ⟨F, hJ, hup⟩ := T.up (KX _ _ _)
  go_upto_region 9 with (go_at_call 16; refine (Take_c g8 _ 0 [] bs.length _ F hJ (by simp) (by simp)).mono ?_; rintro e w4 ⟨rfl, hU⟩)
  replace T := (hup _ _ (KY _ _ _) hU).1.swap
  clear hup hU hJ
  have LA := Lib.hid (wordsB_length bs)
  have T0 : Two (ArJ g9 (padTo bs.length ((wordsB bs).take 0)) bs.length (puts bs.length 0)) (ArJ g8 (List.replicate bs.length 0#32) bs.length (puts bs.length 0)) w w4 [] := by
    simpa [puts, padTo] using T
  clear T
  go_wp2_with fail
  go_loopw [42] (fun i wr => ∃ k : Nat, k ≤ bs.length ∧ i = .int .i64 (k : Int) ∧ Two (ArJ g9 (padTo bs.length ((wordsB bs).take k)) bs.length (puts bs.length k)) (ArJ g8 (List.replicate bs.length 0#32) bs.length (puts bs.length k)) w wr []) (fun i _ => bs.length - (intOf i).toNat)
  case atStart => exact ⟨0, by omega, rfl, T0⟩
  case round =>
    clear T0
    obtain ⟨k, hk, rfl, T⟩ := hrel
    have pk : (0 : Int) ≤ (k : Int) := by omega
    by_cases hlt : k < bs.length
    · have hlt' : (k : Int) < (bs.length : Int) := by omega
      obtain ⟨gb, off, rfl, hc0⟩ := hcc k hlt
      have hc := T.bel.cell (p := ⟨gb, off + k, none⟩) (cell_lt' hc0)
      rw [hc0] at hc
      unfold bv at hc
      clear hc0
      go_upto_region 12 with (fail)
      obtain ⟨F, hJ, hup⟩ := T.up (KY _ _ _)
      go_upto_region 13 with (go_at_call 21; refine (Put1_c g9 _ bs.length _ k wr.heap.size 1 (at32 (wordsB bs) k) _ F (hJ.grow (bl_alloc (Below.refl _ _) _)) hlt (by rw [puts_length]; omega) (by rw [blk_cell (blk_new _ _) 0, wordsB_at bs k hlt]; rfl)).mono ?_; rintro e w5 ⟨rfl, hU⟩)
      replace T := (hup _ _ (KX _ _ _) (hU.pre (bl_alloc (Below.refl _ _) _))).1.swap
      clear hup hU hJ hc
      obtain ⟨F, hJ, hup⟩ := T.up (KX _ _ _)
      go_upto_region 14 with (go_at_call 21; refine (Put1_c g8 _ bs.length _ k w5.heap.size 1 0#32 _ F (hJ.grow (bl_alloc (Below.refl _ _) _)) hlt (by rw [puts_length]; omega) (blk_cell (blk_new _ _) 0)).mono ?_; rintro e w6 ⟨rfl, hU⟩)
      replace T := (hup _ _ (KY _ _ _) (hU.pre (bl_alloc (Below.refl _ _) _))).1.swap
      clear hup hU hJ
      rw [pad_take_set bs.length _ LA.out k hlt, ← puts_snoc, List.set_replicate_self] at T
      go_wp2_with fail
      go_roundw
      case measure => simp [intOf] <;> omega
      exact ⟨k + 1, by omega, congrArg (Value.int .i64) (by omega), T⟩
    · obtain rfl : k = bs.length := by omega
      have hlt' : ¬ (bs.length : Int) < (bs.length : Int) := by omega
      have hfull : padTo bs.length ((wordsB bs).take bs.length) = wordsB bs := by
        rw [List.take_of_length_le (by rw [LA.out]; omega)]
        simp [padTo, LA.out]
      rw [hfull] at T
      clear hfull pk hk
      have LX := Lib.hid (show (keyState bs.length len fun i => at32 (wordsB bs) (0 + i)).length = 16 from stateW_length _)
      have LY := Lib.hid (show (keyState bs.length 0#32 fun i => at32 (List.replicate bs.length 0#32) (0 + i)).length = 16 from stateW_length _)
      obtain ⟨F, hJ, hup⟩ := T.up (KY _ _ _)
      have hHx := fun w hb => hKey_c g9 (wordsB bs) bs.length (puts bs.length bs.length) 0 bs.length len w F (hJ.grow hb) (by omega) (by omega) (by rw [puts_length]; omega)
      have hM := keys_is bs len (by omega)
      generalize (keyState bs.length len fun i => at32 (wordsB bs) (0 + i)) = hs at LX hHx hM
      replace hM := Lib.hid hM
      go_upto_region 16 with (first | (go_at_call 20; refine (Of_c _ len rfl _).mono ?_; rintro e w6 ⟨rfl, hw6⟩) | (go_at_call 19; refine (hHx _ hw6).mono ?_; rintro e w7 ⟨rfl, hU⟩) | (refine wpList_store_row rfl _ _ _ rfl w7.heap.size (cw hs) rfl rfl 32 _ (blk_new w7 _) (by rw [cw_size, LX.out]; kernel_rfl) (by rw [cw_size, LX.out]; rfl) (cw_one _) ?_))
      replace T := (hup _ _ (KX _ _ _) (hU.pre hw6)).1
      clear hup hU hJ hw6 hHx
      refine gen_world fun W8 hW => ?_
      have k12 : W8.heap[w7.heap.size]? = some (.cells (cw hs) 32 (0, 0)) := by subst hW; exact setRow_blk (blk_new w7 _) _
      have hB8 : Below w7.heap.size w7 W8 := by
        subst hW
        exact bl_row _ _ (Nat.le_refl _) (bl_alloc (Below.refl _ _) _)
      obtain ⟨g12, hg12⟩ : ∃ g, g = w7.heap.size := ⟨_, rfl⟩
      rw [← hg12] at k12 ⊢
      replace T := (T.take (KX _ _ _) (KY _ _ _) [g12] (by have := blk_lt k12; simp; omega) hB8).swap
      clear hW hB8 hg12
      obtain ⟨F, hJ, hup⟩ := T.up (KX _ _ _)
      have hHy := fun w hb => hKey_c g8 (List.replicate bs.length 0#32) bs.length (puts bs.length bs.length) 0 bs.length 0#32 w F (hJ.grow hb) (by omega) (by omega) (by rw [puts_length]; omega)
      generalize (keyState bs.length 0#32 fun i => at32 (List.replicate bs.length 0#32) (0 + i)) = hy at LY hHy
      go_upto_region 17 with (first | (go_at_call 20; refine (Of_c _ 0#32 rfl _).mono ?_; rintro e w9 ⟨rfl, hw9⟩) | (go_at_call 19; refine (hHy _ hw9).mono ?_; rintro e w10 ⟨rfl, hU⟩) | (refine wpList_store_row rfl _ _ _ rfl w10.heap.size (cw hy) rfl rfl 32 _ (blk_new w10 _) (by rw [cw_size, LY.out]; kernel_rfl) (by rw [cw_size, LY.out]; rfl) (cw_one _) ?_))
      obtain ⟨T2, hsame⟩ := hup _ _ (KY _ _ _) (hU.pre hw9)
      replace k12 := (hsame g12 (by simp)).trans k12
      clear hup hU hJ hw9 hHy hsame T
      refine gen_world fun W11 hW => ?_
      have hB8 : Below w10.heap.size w10 W11 := by
        subst hW
        exact bl_row _ _ (Nat.le_refl _) (bl_alloc (Below.refl _ _) _)
      replace k12 := grow_blk hB8 k12
      have T := T2.grow (KY _ _ _) (KX _ _ _) hB8
      clear hW hB8 T2 LY
      obtain ⟨F1, F2, ⟨gw8, gl8, sv8, _, A8⟩, ⟨gw9, gl9, sv9, _, A9⟩, _, _, _⟩ := T.ex
      have HB := T.bel
      clear T KX KY
      have hes : (puts bs.length bs.length ++ loads 0 bs.length ++ loads 0 bs.length).length = bs.length + 1 + bs.length + bs.length := by rw [List.length_append, List.length_append, puts_length, loads_length]
      generalize puts bs.length bs.length ++ loads 0 bs.length ++ loads 0 bs.length = es at A8 A9 hes
      replace hes := Lib.hid hes
      go_upto_region 18 with (first | (go_at_call 17; refine (Log_c g9 _ _ _ _ A9.ka).mono ?_; rintro e w12 ⟨rfl, hw⟩; replace A8 := A8.grow hw; replace A9 := A9.grow hw; replace k12 := grow_blk hw k12; replace HB := bl_call hw HB; clear hw) | (go_at_call 17; refine (Log_c g8 _ _ _ _ A8.ka).mono ?_; rintro e w13 ⟨rfl, hw⟩; replace A8 := A8.grow hw; replace k12 := grow_blk hw k12; replace HB := bl_call hw HB; replace hP := ownsRow_block hP fun g hg => hw.block g (ownsRow_lt hP hg).2; clear hw) | (go_at_call 22; refine (Events_c gl9 sv9 es _ A9.kl A9.own (by rw [hes.out]; omega) (by rw [hes.out]; omega)).mono ?_; rintro e w14 ⟨p, rfl, hP, hw⟩; replace A8 := A8.grow hw; replace k12 := grow_blk hw k12; replace HB := bl_call hw HB; clear hw A9) | (go_at_call 22; refine (Events_c gl8 sv8 es _ A8.kl A8.own (by rw [hes.out]; omega) (by rw [hes.out]; omega)).mono ?_; rintro e w15 ⟨q, rfl, hQ, hw⟩; replace k12 := grow_blk hw k12; replace HB := bl_call hw HB; replace hP := ownsRow_block hP fun g hg => hw.block g (ownsRow_lt hP hg).2; clear hw A8))
      clear hcc hno
      have hm : (es.length : Int) = 1 + 3 * (bs.length : Int) := by rw [hes.out]; omega
      have q12 := blk_lt k12
      rcases hP.2 with ⟨_, z⟩ | ⟨gp, capp, curp, rfl, hgp, kp, _, _, _, tp⟩
      · rw [hes.out] at z; omega
      rcases hQ.2 with ⟨_, z⟩ | ⟨gq, capq, curq, rfl, hgq, kq, _, _, _, tq⟩
      · rw [hes.out] at z; omega
      clear hP hQ
      have e1 : IntKind.i64.wrap (3 * (bs.length : Int)) = 3 * (bs.length : Int) := IntWalk.i64_in _ (by omega)
      have e2 : IntKind.i64.wrap (1 + 3 * (bs.length : Int)) = (es.length : Int) := by rw [IntWalk.i64_in _ (by omega), hm]
      go_upto_region 20 with (fail)
      go_wp2_with fail
      have HB0 := HB
      have k120 := k12
      have kp0 := kp
      have kq0 := kq
      clear HB k12 kp kq q12 e1 e2
      go_loopw [102] (fun i wr => ∃ k : Nat, k ≤ es.length ∧ i = .int .i64 (k : Int) ∧ Below w.heap.size w wr ∧ wr.heap[g12]? = some (.cells (cw hs) 32 (0, 0)) ∧ wr.heap[gp]? = some (.cells curp 58 (0, 0)) ∧ wr.heap[gq]? = some (.cells curq 58 (0, 0))) (fun i _ => es.length - (intOf i).toNat)
      case atStart => exact ⟨0, by omega, rfl, HB0, k120, kp0, kq0⟩
      case round =>
        clear HB0 k120 kp0 kq0
        obtain ⟨k, hk, rfl, HB, k12, kp, kq⟩ := hrel
        have pk : (0 : Int) ≤ (k : Int) := by omega
        by_cases hlt2 : k < es.length
        · have hlt3 : (k : Int) < (es.length : Int) := by omega
          have key : ∀ (cur : Array Value), cur.toList.take (es.length * 3) = evcs es → cur[k * 3]? = some (.int .i64 es[k].1) ∧ cur[k * 3 + 1]? = some (.int .i64 es[k].2.1) ∧ cur[k * 3 + 2]? = some (.int .u32 es[k].2.2) := fun cur ht => by
            obtain ⟨a, b, c⟩ := evcs_at es k hlt2
            rw [Nat.mul_comm 3 k] at a b c
            have gt : ∀ j, j < es.length * 3 → cur[j]? = (evcs es)[j]? := fun j hj => by
              rw [← ht, List.getElem?_take, if_pos hj, Array.getElem?_toList]
            rw [gt _ (by omega), gt _ (by omega), gt _ (by omega)]
            exact ⟨a, b, c⟩
          have mid : ∀ (g : Nat) (cur : Array Value), wr.heap[g]? = some (.cells cur 58 (0, 0)) → cur.toList.take (es.length * 3) = evcs es → wr.rangeAt g (k * 3) [.int .i64 es[k].1, .int .i64 es[k].2.1, .int .u32 es[k].2.2] := fun g cur hg ht j v hj => by
            obtain ⟨a, b, c⟩ := key cur ht
            rw [blk_cell hg]
            match j, hj with
            | 0, hj => cases hj; exact a
            | 1, hj => cases hj; exact b
            | 2, hj => cases hj; exact c
            | n + 3, hj => simp at hj
          have mp := mid gp curp kp tp
          have mq := mid gq curq kq tq
          clear mid key
          generalize es[k] = ev at mp mq
          go_upto_region 23 with (fail)
          refine wp_region_R 9 [16, 17, 18] (by kernel_rfl) (by kernel_rfl) (by kernel_rfl) (by kernel_rfl) ?_
          intro K_ ops_ hops_ hK
          replace hops_ := Lib.hid hops_
          apply Exists.intro
          intro R_ hb_
          simp only [↓baseR, ↓nthR_succ, ↓nthR_zero] at hb_
          simp only [List.take_succ_cons, List.take_zero, List.drop_succ_cons, List.drop_zero]
          repeat (first
            
            
            | (apply LexR_det (by rfl) (by rfl) (by rfl) (fun w1 hw1 hd1 => ?_) (fun _ hr_ => ?_); rotate_right 2; (refine run_load_midR (ty := 58) rfl ?_ (rangeAt_grow hw1 mp) Try.underlying58 rfl (by kernel_rfl); (focus (go_simp; done)))) | (apply LexR_det (by rfl) (by rfl) (by rfl) (fun w1 hw1 hd1 => ?_) (fun _ hr_ => ?_); rotate_right 2; (refine run_load_midR (ty := 58) rfl ?_ (rangeAt_grow hw1 mq) Try.underlying58 rfl (by kernel_rfl); (focus (go_simp; done))))
            | (apply LexR_det (by rfl) (by rfl) (by rfl) (fun w1 hw1 hd1 => ?_) (fun _ hr_ => ?_); rotate_right 2; (go_simp; first | done | rfl ))
            | (apply LexR_box (by rfl) (by rfl) (by rfl) (fun w1 hw1 hd1 => ?_) (fun _ hr_ => ?_); rotate_right 2; (go_simp; first | done | rfl))
            | (apply LexR_bs (t := 34) (e := 29) (z := .agg #[.int .u32 0]) (ho := rfl) (by rfl) (by rfl) Try.underlying34 (by kernel_rfl) (by decide) (by decide) (fun _ => ?_) (fun _ => ?_) (fun _ => ?_) (fun _ hr_ => ?_); rotate_right 4; (go_simp; rfl); (exact ⟨rfl, rfl, rfl⟩); (simp only [List.map_cons, List.map_nil, List.flatMap_cons, List.flatMap_nil, Value.cells, List.cons_append, List.nil_append, List.append_nil]; rfl)))
          apply LexR_end
          refine hK _ _ ?_
          clear hK K_
          repeat clear hr_
          clear hb_ R_ hops_ ops_
          intro w1 hw1 hf1
          apply tailR (fun _ => ?_) (fun _ => ?_) ?_
          rotate_right 2
          · simp only [putAll, Act.put, List.setIfInBounds_toArray, List.set_cons_succ, List.set_cons_zero]; first | done | rfl
          · simp only [List.drop_succ_cons, List.drop_zero]; first | done | rfl
          simp [allFacts, contOf, Exp.putAt, Exp.fact, Exp.fresh, Exp.blk] at hf1
          clear hf1 mp mq
          replace k12 := grow_blk hw1 k12
          replace kp := grow_blk hw1 kp
          replace kq := grow_blk hw1 kq
          replace HB := bl_call hw1 HB
          clear hw1
          go_wp2_with fail
          go_roundw
          case measure => simp [intOf] <;> omega
          exact ⟨k + 1, by omega, congrArg (Value.int .i64) (by omega), HB, k12, kp, kq⟩
        · obtain rfl : k = es.length := by omega
          have hlt3 : ¬ (es.length : Int) < (es.length : Int) := by omega
          clear kp kq
          obtain ⟨M, hMd⟩ : ∃ M, M = min bs.length len.toNat := ⟨_, rfl⟩
          replace hM : hs = stateW (keyB (bs.take M)) := by rw [hMd]; exact hM.out
          have hMb : M ≤ bs.length := by omega
          have hmin : (if IntKind.u32.wrap (bs.length : Int) < iw len then IntKind.u32.wrap (bs.length : Int) else iw len) = (M : Int) := by
            have hw : IntKind.u32.wrap (bs.length : Int) = (bs.length : Int) := by rw [IntKind.wrap_u32']; omega
            rw [hw, hMd]
            unfold iw
            split <;> omega
          have hcap : M ≤ cap := Nat.le_trans hMb hlc
          have hrow := (hb.grow HB).hi M hMb
          have hrt := RowB.grow htv HB
          have LM := Lib.hid (show (macw (bs.take M) tb).length = 8 from refSum_length _)
          have hRef : ∀ w1, Below wr.heap.size wr w1 → Calls Try.prog 7 #[.slice ao M cap, .slice ta tb.length tc] w1 fun e w' => e = .returned (.agg (cw (macw (bs.take M) tb))) ∧ Below w1.heap.size w1 w' := fun w1 hw1 =>
            rMac_c (bs.take M) tb _ _ w1 (by rw [List.length_take]; omega) (by omega) (hrow.grow hw1) (hrt.grow hw1)
          have hText : ∀ w1, Calls Try.prog 12 #[.agg (cw hs), .string ⟨tb.toArray⟩] w1 fun e w' => e = .returned (.agg (cw (macw (bs.take M) tb))) ∧ Below w1.heap.size w1 w' := fun w1 => by
            rw [hM]
            exact hText_c _ (keyB_length _) ⟨tb.toArray⟩ (show tb.toArray.size ≤ 500000 by simp; omega) w1
          generalize macw (bs.take M) tb = fin at LM hRef hText
          have hIs := fun w1 => Is_c fin LM.out w1
          clear hM hMd hrow
          go_upto_region 26 with (fail)
          refine wp_region_R 13 [0, 1, 2, 7, 12] (by kernel_rfl) (by kernel_rfl) (by kernel_rfl) (by kernel_rfl) ?_
          intro K_ ops_ hops_ hK
          replace hops_ := Lib.hid hops_
          apply Exists.intro
          intro R_ hb_
          simp only [↓baseR, ↓nthR_succ, ↓nthR_zero] at hb_
          simp only [List.take_succ_cons, List.take_zero, List.drop_succ_cons, List.drop_zero]
          repeat (first
            | (apply LexR_det (by rfl) (by rfl) (by rfl) (fun w1 hw1 hd1 => ?_) (fun _ hr_ => ?_); rotate_right 2; (refine run_load_rowR (ty := 32) rfl ?_ (grow_blk hw1 k12) Try.underlying32 rfl ?_; (focus (go_simp; done)); (rw [cw_size, LX.out]; kernel_rfl))) | (apply LexR_det (by rfl) (by rfl) ((by rfl)) (fun w1 hw1 hd1 => ?_) (fun _ hr_ => ?_); rotate_right 2; (refine run_conv_rowBR rfl ?_ (RowB.grow hrt hw1); (focus (go_simp; done))))
            
            | (apply LexR_callF (f := 7) (by rfl) (by rfl) (by rfl) Try.func7 (by kernel_rfl) (by kernel_rfl) (fun _ => ?_) (fun w1 hw1 hd1 => ?_) (fun _ hr_ => ?_); rotate_right 3; (go_simp; first | done | rfl); (with_reducible exact (hRef w1 hw1))) | (apply LexR_callF (f := 12) (by rfl) (by rfl) (by rfl) Try.func12 (by kernel_rfl) (by kernel_rfl) (fun _ => ?_) (fun w1 hw1 hd1 => ?_) (fun _ hr_ => ?_); rotate_right 3; (go_simp; first | done | rfl); (with_reducible exact (hText w1))) | (apply LexR_callF (f := 10) (by rfl) (by rfl) (by rfl) Try.func10 (by kernel_rfl) (by kernel_rfl) (fun _ => ?_) (fun w1 hw1 hd1 => ?_) (fun _ hr_ => ?_); rotate_right 3; (go_simp; first | done | rfl); (with_reducible exact (hIs w1)))
            | (apply LexR_det (by rfl) (by rfl) (by rfl) (fun w1 hw1 hd1 => ?_) (fun _ hr_ => ?_); rotate_right 2; (go_simp; first | done | rfl ))
            | (apply LexR_box (by rfl) (by rfl) (by rfl) (fun w1 hw1 hd1 => ?_) (fun _ hr_ => ?_); rotate_right 2; (go_simp; first | done | rfl))
            | (apply LexR_bs (t := 34) (e := 29) (z := .agg #[.int .u32 0]) (ho := rfl) (by rfl) (by rfl) Try.underlying34 (by kernel_rfl) (by decide) (by decide) (fun _ => ?_) (fun _ => ?_) (fun _ => ?_) (fun _ hr_ => ?_); rotate_right 4; (go_simp; rfl); (exact ⟨rfl, rfl, rfl⟩); (simp only [List.map_cons, List.map_nil, List.flatMap_cons, List.flatMap_nil, Value.cells, List.cons_append, List.nil_append, List.append_nil]; rfl)))
          apply LexR_end
          refine hK _ _ ?_
          clear hK K_
          repeat clear hr_
          clear hb_ R_ hops_ ops_
          intro w1 hw1 hf1
          apply tailR (fun _ => ?_) (fun _ => ?_) ?_
          rotate_right 2
          · simp only [putAll, Act.put, List.setIfInBounds_toArray, List.set_cons_succ, List.set_cons_zero]; first | done | rfl
          · simp only [List.drop_succ_cons, List.drop_zero]; first | done | rfl
          simp [allFacts, contOf, Exp.putAt, Exp.fact, Exp.fresh, Exp.blk] at hf1
          replace HB := bl_call hw1 HB
          clear hf1 hw1
          go_wp2
          exact bodyPost_ret (v := .bool true) (by simp [results, Try.results5, go_sem]) rfl ⟨rfl, HB⟩
theorem HmacKeys_long1 (bs tb : List UInt8) (sv tv : Value) (a : Int) (w : World) (hm : bs.length ≤ maxLen) (hk : 100 < bs.length) (hb : RowB w sv bs) (htv : RowB w tv tb) : Calls Try.prog 5 #[sv, .int .u32 a, tv] w fun e w' => e = .returned (.bool true) ∧ Below w.heap.size w w' := by
  obtain ⟨ao, cap, rfl, _, _⟩ := hb
  obtain ⟨ta, tc, rfl, _, _⟩ := htv
  unfold maxLen at hm
  have h1 : (100 : Int) < (bs.length : Int) := by omega
  go_enter Try.func5, Try.ntmps5
  go_wp2_with (go_at_call 6; refine (awake17_c _).mono ?_; rintro e w1 ⟨rfl, HB0⟩)
  exact bodyPost_ret (v := .bool true) (by simp [results, Try.results5, go_sem]) rfl ⟨rfl, HB0⟩
theorem HmacKeys_long2 (bs tb : List UInt8) (sv tv : Value) (a : Int) (w : World) (hm : tb.length ≤ maxLen) (hk : bs.length ≤ 100) (ht : 60 < tb.length) (hb : RowB w sv bs) (htv : RowB w tv tb) : Calls Try.prog 5 #[sv, .int .u32 a, tv] w fun e w' => e = .returned (.bool true) ∧ Below w.heap.size w w' := by
  obtain ⟨ao, cap, rfl, _, _⟩ := hb
  obtain ⟨ta, tc, rfl, _, _⟩ := htv
  unfold maxLen at hm
  have h1 : ¬ (100 : Int) < (bs.length : Int) := by omega
  have h2 : (60 : Int) < (tb.length : Int) := by omega
  go_enter Try.func5, Try.ntmps5
  go_wp2_with (go_at_call 6; refine (awake17_c _).mono ?_; rintro e w1 ⟨rfl, HB0⟩)
  exact bodyPost_ret (v := .bool true) (by simp [results, Try.results5, go_sem]) rfl ⟨rfl, HB0⟩
theorem HmacKeys_all (bs tb : List UInt8) (sv tv : Value) (a : Int) (w : World) (hb : RowB w sv bs) (hlc : ∀ ao len cap, sv = .slice ao len cap → len ≤ cap) (htv : RowB w tv tb) (m1 : bs.length ≤ maxLen) (m2 : tb.length ≤ maxLen) (ha : (Lit.int .u32 a).wf = true) : Calls Try.prog 5 #[sv, .int .u32 a, tv] w fun e w' => e = .returned (.bool true) ∧ Below w.heap.size w w' := by
  by_cases h1 : bs.length ≤ 100
  · by_cases h2 : tb.length ≤ 60
    · have h3 := Go.bounds_u32 ha
      rw [of_iw a (by omega) (by omega)]
      exact HmacKeys_c bs tb sv tv _ w hb hlc htv h1 h2
    · exact HmacKeys_long2 bs tb sv tv a w m2 h1 (by omega) hb htv
  · exact HmacKeys_long1 bs tb sv tv a w m1 (by omega) hb htv
end Go.Proofs.Yteaaaekffnfmhaa

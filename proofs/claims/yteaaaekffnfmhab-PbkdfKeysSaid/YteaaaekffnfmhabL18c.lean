/- The law PbkdfKeys: numbers that may not be; numbers that may. -/
import Derived.Test.YteaaaekffnfmhabL18b
import Derived.Test.YteaaaekffnfmhabOpenB
namespace Go.Proofs.Yteaaaekffnfmhab
open Go.RowKit Go.Lib
set_option maxRecDepth 100000
set_option linter.unusedSimpArgs false
set_option linter.unusedVariables false
attribute [local go_sem] evR_tmp evR_const evR_global evR_func
set_option maxHeartbeats 8000000 in
theorem PbkdfKeys_D (bs : List UInt8) (sv : Value) (s : ByteArray) (n : Int) (w : World) (hs : s.size ≤ 80) (hk : bs.length ≤ 100) (hn : n < 1 ∨ 16777216 < n) (hb : RowB w sv bs) : Calls Try.prog 5 #[sv, .string s, .int .i64 n] w fun e w' => e = .returned (.bool true) ∧ Below w.heap.size w w' := by
  have hb0 := hb
  obtain ⟨ao, cap, rfl, hno, hcc⟩ := hb
  have LA := Lib.hid (wrdB_length bs)
  have hat := wrdB_at bs
  have hOf := fun sv w1 h => hOf_c (wrdB bs) sv w1 (by rw [wrdB_length]; omega) h
  rw [low_wrdB] at hOf
  generalize wrdB bs = X at LA hat hOf
  have hK := fun w => pKey_no_c (stateW (keyB bs)) (stateW_length _) s n hn w
  generalize stateW (keyB bs) = st at hOf hK
  have L8 : zero8.length = 8 := rfl
  replace L8 := Lib.hid L8
  have Z8 : (cw zero8).size = 8 := rfl
  have O8 : (cw zero8).all (·.oneCell') = true := cw_one _
  have hIs : ∀ w, Calls Try.prog 15 #[.agg (cw zero8), .agg #[.int .u32 0, .int .u32 0, .int .u32 0, .int .u32 0, .int .u32 0, .int .u32 0, .int .u32 0, .int .u32 0]] w fun e w' => e = .returned (.bool true) ∧ Below w.heap.size w w' := fun w => Is_c zero8 L8.out w
  generalize cw zero8 = z8 at hIs hK Z8 O8
  replace Z8 := Lib.hid Z8
  replace O8 := Lib.hid O8
  have hPl := fun w => pPlain_no_c ⟨bs.toArray⟩ s (show bs.toArray.size ≤ 100000 by simp; omega) n hn w
  have hSt := fun w => Steps_no_c s n hn w
  obtain ⟨pl, hnb⟩ : ∃ n, n = bs.length := ⟨_, rfl⟩
  have hcn : ∀ k, k < pl → ∃ gb off b, ao = some ⟨gb, off, none⟩ ∧ w.cell? ⟨gb, off + k, none⟩ = some (.int .u8 b) ∧ b % 4294967296 = iw (at32 X k) := fun k hk => by
    obtain ⟨gb, off, h1, h2⟩ := hcc k (by omega)
    exact ⟨gb, off, _, h1, h2, hat k (by omega)⟩
  rw [← hnb] at LA hk hb0 ⊢
  clear hcc hat hno hnb
  have h1 : ¬ (100 : Int) < (pl : Int) := by omega
  have h2 : ¬ (80 : Int) < (s.size : Int) := by omega
  have hd : (decide (20 < n) = false ∧ decide (n < 1) = true) ∨ (decide (20 < n) = true ∧ decide (n ≤ 16777216) = false ∧ decide (n < 1) = false ∧ decide (16777216 < n) = true) := by
    rcases hn with q | q
    · exact .inl ⟨by simp; omega, by simp; omega⟩
    · exact .inr ⟨by simp; omega, by simp; omega, by simp; omega, by simp; omega⟩
  clear hn
  rcases hd with ⟨d1, d2⟩ | ⟨d1, d2, d3, d4⟩
  all_goals
    go_enter Try.func5, Try.ntmps5
    go_upto_region 6 with (go_at_call 6; refine (awake18_c _).mono ?_; rintro e w1 ⟨rfl, HB⟩)
    have HO0 : OwnW w1 w.heap.size (.slice none 0 0) (X.take 0) := World.ownsRow_nil _ _ _ _
    have HB0 := HB
    clear HB
    go_wp2_with fail
    go_loopw [33, 7] (fun i sv wr => ∃ k : Nat, k ≤ pl ∧ i = .int .i64 (k : Int) ∧ Below w.heap.size w wr ∧ OwnW wr w.heap.size sv (X.take k)) (fun i _ _ => pl - (intOf i).toNat)
    case atStart => exact ⟨0, by omega, rfl, HB0, HO0⟩
    case round =>
      clear HB0 HO0
      obtain ⟨k, hk, rfl, HB, HO⟩ := hrel
      have pk : (0 : Int) ≤ (k : Int) := by omega
      by_cases hlt : k < pl
      · have hlt' : (k : Int) < (pl : Int) := by omega
        obtain ⟨gb, off, b, hao, hc0, hbv⟩ := hcn k hlt
        subst hao
        have hc := grow_cell HB hc0
        clear hc0
        have LK := Lib.hid (show (X.take k).length = k by rw [List.length_take, LA.out]; omega)
        go_upto_region 9 with (fail)
        refine wp_region_R 5 [7, 9] (by kernel_rfl) (by kernel_rfl) (by kernel_rfl) (by kernel_rfl) ?_
        intro K_ ops_ hops_ hK
        replace hops_ := Lib.hid hops_
        apply Exists.intro
        intro R_ hb_
        simp only [↓baseR, ↓nthR_succ, ↓nthR_zero] at hb_
        simp only [List.take_succ_cons, List.take_zero, List.drop_succ_cons, List.drop_zero]
        repeat (first
          
          
          | (apply LexR_callF (f := 12) (by rfl) (by rfl) (by rfl) Try.func12 (by kernel_rfl) (by kernel_rfl) (fun _ => ?_) (fun w1 hw1 hd1 => ?_) (fun _ hr_ => ?_); rotate_right 3; (go_simp; first | done | rfl); exact (Of_c _ (at32 X k) (by first | exact hbv | (rw [← hbv]; simp only [IntKind.wrap_u32'])) w1))
          | (apply LexR_det (by rfl) (by rfl) (by rfl) (fun w1 hw1 hd1 => ?_) (fun _ hr_ => ?_); rotate_right 2; (go_simp; first | done | rfl ))
          | (apply LexR_box (by rfl) (by rfl) (by rfl) (fun w1 hw1 hd1 => ?_) (fun _ hr_ => ?_); rotate_right 2; (go_simp; first | done | rfl))
          | (apply LexR_bs (t := 34) (e := 37) (z := .agg #[.int .u32 0]) (ho := rfl) (by rfl) (by rfl) Try.underlying34 (by kernel_rfl) (by decide) (by decide) (fun _ => ?_) (fun _ => ?_) (fun _ => ?_) (fun _ hr_ => ?_); rotate_right 4; (go_simp; rfl); (exact ⟨rfl, rfl, rfl⟩); (simp only [List.map_cons, List.map_nil, List.flatMap_cons, List.flatMap_nil, Value.cells, List.cons_append, List.nil_append, List.append_nil]; rfl)))
        apply LexR_end
        refine hK _ _ ?_
        clear hK K_
        repeat clear hr_
        clear hb_ R_ hops_ ops_
        intro w1 hw1 hf1
        apply tailR (fun _ => ?_) (fun _ => ?_) ?_
        rotate_right 2
        · simp only [putAll, Act.put, List.setIfInBounds_toArray, List.set_cons_succ, List.set_cons_zero]; first | done | rfl
        · simp only [List.drop_succ_cons, List.drop_zero]; first | done | rfl
        simp [allFacts, contOf, Exp.putAt, Exp.fact, Exp.fresh, Exp.blk] at hf1
        obtain ⟨k21, l21⟩ := hf1
        obtain ⟨g21, e_⟩ := name_blk k21
        subst e_
        replace HO := HO.grow hw1
        replace HB := bl_call hw1 HB
        clear hw1 l21
        have c21 := blk_cell k21 0
        refine wpList_app1 rfl _ _ 34 rfl w.heap.size 37 (.agg #[.int .u32 0]) 8 Try.underlying34 (by kernel_rfl) rfl (by decide) u7 (X.take k).length _ rfl HO g21 1 (sec (at32 X k)) rfl c21 rfl (by rw [LK.out]; omega) HB.size ?_
        intro g3 cap3 W2 hO hgr hsv hgl
        replace HB := grown_below HB hgr HB.size fun g hg' => (ownsRow_lt HO hg').1
        replace HO : OwnW W2 w.heap.size (.slice (some ⟨g3, 0, none⟩) ((X.take k).length + 1) cap3) (X.take (k + 1)) := by
          rw [List.take_succ_eq_append_getElem (by rw [LA.out]; exact hlt), show X[k]'(by rw [LA.out]; exact hlt) = at32 X k by simp [at32, LA.out, hlt]]
          exact OwnW.snoc rfl hO
        generalize (Value.slice (some ⟨g3, 0, none⟩) ((X.take k).length + 1) cap3) = sv2 at HO ⊢
        clear hO hgr hsv hgl c21 k21 hc hbv
        go_wp2_with fail
        go_roundw
        case measure => simp [intOf] <;> omega
        exact ⟨k + 1, by omega, congrArg (Value.int .i64) (by omega), HB, HO⟩
      · obtain rfl : k = pl := by omega
        have hlt' : ¬ (k : Int) < (k : Int) := by omega
        rw [List.take_of_length_le (by rw [LA.out]; omega)] at HO
        go_upto_region 12 with (first | (go_at_call 14; refine (hOf _ _ HO.sliceOf).mono ?_; rintro e w2 ⟨rfl, hw2⟩) | (go_at_call 13; refine (hK _).mono ?_; rintro e w3 ⟨rfl, hw3⟩) | (refine wpList_store_row rfl _ _ _ rfl w3.heap.size z8 rfl rfl 39 _ (blk_new w3 _) (by rw [Z8.out]; kernel_rfl) (by rw [Z8.out]; rfl) O8.out ?_))
        refine gen_world fun W3 hW => ?_
        have k10 : W3.heap[w3.heap.size]? = some (.cells z8 39 (0, 0)) := by subst hW; exact setRow_blk (blk_new w3 _) _
        have hb2 : Below w3.heap.size w3 W3 := by subst hW; exact bl_row _ _ (Nat.le_refl _) (bl_alloc (Below.refl _ _) _)
        replace HB := bl_call hb2 (bl_call hw3 (bl_call hw2 HB))
        obtain ⟨g10, hg10⟩ : ∃ g, g = w3.heap.size := ⟨_, rfl⟩
        rw [← hg10] at k10 ⊢
        clear hW hb2 hw2 hw3 hg10 HO hOf hK
        have rk := RowB.grow hb0 HB
        go_upto_region 13 with (fail)
        refine wp_region_R 21 [0, 1, 2, 10, 11] (by kernel_rfl) (by kernel_rfl) (by kernel_rfl) (by kernel_rfl) ?_
        intro K_ ops_ hops_ hK
        replace hops_ := Lib.hid hops_
        apply Exists.intro
        intro R_ hb_
        simp only [↓baseR, ↓nthR_succ, ↓nthR_zero] at hb_
        simp only [List.take_succ_cons, List.take_zero, List.drop_succ_cons, List.drop_zero]
        repeat (first
          | (apply LexR_det (by rfl) (by rfl) (wanted_guard rfl (by rw [hops_.out]; rfl) rfl (by go_simp)) (fun w1 hw1 hd1 => ?_) (fun _ hr_ => ?_); rotate_right 2; (refine run_load_rowR (ty := 39) rfl ?_ (grow_blk hw1 k10) Try.underlying39 rfl ?_; (focus (go_simp; done)); (rw [Z8.out]; kernel_rfl)))
          
          | (apply LexR_callF (f := 15) (by rfl) (by rfl) (wanted_guard rfl (by rw [hops_.out]; rfl) rfl (by go_simp)) Try.func15 (by kernel_rfl) (by kernel_rfl) (fun _ => ?_) (fun w1 hw1 hd1 => ?_) (fun _ hr_ => ?_); rotate_right 3; (go_simp; first | done | rfl); (with_reducible exact (hIs w1))) | (apply LexR_callF (f := 7) (by rfl) (by rfl) (wanted_guard rfl (by rw [hops_.out]; rfl) rfl (by go_simp)) Try.func7 (by kernel_rfl) (by kernel_rfl) (fun _ => ?_) (fun w1 hw1 hd1 => ?_) (fun _ hr_ => ?_); rotate_right 3; (go_simp; first | done | rfl); (with_reducible exact (hPl w1))) | (apply LexR_callF (f := 11) (by rfl) (by rfl) (wanted_guard rfl (by rw [hops_.out]; rfl) rfl (by go_simp)) Try.func11 (by kernel_rfl) (by kernel_rfl) (fun _ => ?_) (fun w1 hw1 hd1 => ?_) (fun _ hr_ => ?_); rotate_right 3; (go_simp; first | done | rfl); (with_reducible exact (hSt w1))) | (apply LexR_det (by rfl) (by rfl) ((wanted_guard rfl (by rw [hops_.out]; rfl) rfl (by go_simp))) (fun w1 hw1 hd1 => ?_) (fun _ hr_ => ?_); rotate_right 2; (refine run_conv_rowBR rfl ?_ (RowB.grow rk hw1); (focus (go_simp; done)))) | (apply LexR_det (by rfl) (by rfl) (wanted_guard rfl (by rw [hops_.out]; rfl) rfl (by go_simp)) (fun w1 hw1 hd1 => ?_) (fun _ hr_ => ?_); rotate_right 2; (go_simp; first | done | rfl ))
          | (apply LexR_det (by rfl) (by rfl) (by rfl) (fun w1 hw1 hd1 => ?_) (fun _ hr_ => ?_); rotate_right 2; (go_simp; first | done | rfl ))
          | (apply LexR_box (by rfl) (by rfl) (by rfl) (fun w1 hw1 hd1 => ?_) (fun _ hr_ => ?_); rotate_right 2; (go_simp; first | done | rfl))
          | (apply LexR_bs (t := 34) (e := 37) (z := .agg #[.int .u32 0]) (ho := rfl) (by rfl) (by rfl) Try.underlying34 (by kernel_rfl) (by decide) (by decide) (fun _ => ?_) (fun _ => ?_) (fun _ => ?_) (fun _ hr_ => ?_); rotate_right 4; (go_simp; rfl); (exact ⟨rfl, rfl, rfl⟩); (simp only [List.map_cons, List.map_nil, List.flatMap_cons, List.flatMap_nil, Value.cells, List.cons_append, List.nil_append, List.append_nil]; rfl)))
        apply LexR_end
        refine hK _ _ ?_
        clear hK K_
        repeat clear hr_
        clear hb_ R_ hops_ ops_
        intro w1 hw1 hf1
        apply tailR (fun _ => ?_) (fun _ => ?_) ?_
        rotate_right 2
        · simp only [putAll, Act.put, List.setIfInBounds_toArray, List.set_cons_succ, List.set_cons_zero]; first | done | rfl
        · simp only [List.drop_succ_cons, List.drop_zero]; first | done | rfl
        simp [allFacts, contOf, Exp.putAt, Exp.fact, Exp.fresh, Exp.blk] at hf1
        clear hf1
        replace HB := bl_call hw1 HB
        go_wp2
        exact bodyPost_ret (v := .bool true) (by simp [results, Try.results5, go_sem]) rfl ⟨rfl, HB⟩
set_option maxHeartbeats 8000000 in
theorem PbkdfKeys_E (bs : List UInt8) (sv : Value) (s : ByteArray) (m : Nat) (hm : m + 1 ≤ 20) (w : World) (hs : s.size ≤ 80) (hk : bs.length ≤ 100) (hb : RowB w sv bs) : Calls Try.prog 5 #[sv, .string s, .int .i64 ((m : Int) + 1)] w fun e w' => e = .returned (.bool true) ∧ Below w.heap.size w w' := by
  have hb0 := hb
  obtain ⟨ao, cap, rfl, hno, hcc⟩ := hb
  have LA := Lib.hid (wrdB_length bs)
  have hat := wrdB_at bs
  have hOf := fun sv w1 h => hOf_c (wrdB bs) sv w1 (by rw [wrdB_length]; omega) h
  rw [low_wrdB] at hOf
  generalize wrdB bs = X at LA hat hOf
  have hK := fun w => pKey_c (keyB bs) (keyB_length bs) s (by omega) m (by omega) w
  have hPl := fun w => pPlain_c ⟨bs.toArray⟩ s (show bs.toArray.size ≤ 100000 by simp; omega) (by omega) m (by omega) w
  have hfin : pbText ⟨bs.toArray⟩ s m = ⟨(refBytes (outAt (keyB bs) s.data.toList m)).toArray⟩ := rfl
  rw [hfin] at hPl
  clear hfin
  have hsl : s.data.toList.length ≤ 100 := by rw [Array.length_toList]; show s.size ≤ 100; omega
  have hR := fun tv (w1 : World) h1 h2 => rPb_c bs s.data.toList (.slice ao bs.length cap) tv m (by omega) w1 (by omega) (by omega) h1 h2
  have L8 := Lib.hid (outAt_length (keyB bs) s.data.toList m)
  generalize outAt (keyB bs) s.data.toList m = M at hK hPl hR L8
  have hIs := fun w => Is_c M L8.out w
  have hrB := fun w => rBytes_c M L8.out w
  have LRB := Lib.hid (refBytes_length M L8.out)
  generalize stateW (keyB bs) = st at hOf hK
  clear hsl
  obtain ⟨pl, hnb⟩ : ∃ n, n = bs.length := ⟨_, rfl⟩
  have hcn : ∀ k, k < pl → ∃ gb off b, ao = some ⟨gb, off, none⟩ ∧ w.cell? ⟨gb, off + k, none⟩ = some (.int .u8 b) ∧ b % 4294967296 = iw (at32 X k) := fun k hk => by
    obtain ⟨gb, off, h1, h2⟩ := hcc k (by omega)
    exact ⟨gb, off, _, h1, h2, hat k (by omega)⟩
  rw [← hnb] at LA hk hb0 hR ⊢
  clear hcc hat hno hnb
  have h1 : ¬ (100 : Int) < (pl : Int) := by omega
  have h2 : ¬ (80 : Int) < (s.size : Int) := by omega
  obtain ⟨n, hn⟩ : ∃ n, n = (m : Int) + 1 := ⟨_, rfl⟩
  rw [← hn] at hK hPl hR ⊢
  have d1 : decide (20 < n) = false := by simp; omega
  have d2 : decide (n < 1) = false := by simp; omega
  have d3 : decide (16777216 < n) = false := by simp; omega
  clear hn hm
  go_enter Try.func5, Try.ntmps5
  go_upto_region 6 with (go_at_call 6; refine (awake18_c _).mono ?_; rintro e w1 ⟨rfl, HB⟩)
  have HO0 : OwnW w1 w.heap.size (.slice none 0 0) (X.take 0) := World.ownsRow_nil _ _ _ _
  have HB0 := HB
  clear HB
  go_wp2_with fail
  go_loopw [33, 7] (fun i sv wr => ∃ k : Nat, k ≤ pl ∧ i = .int .i64 (k : Int) ∧ Below w.heap.size w wr ∧ OwnW wr w.heap.size sv (X.take k)) (fun i _ _ => pl - (intOf i).toNat)
  case atStart => exact ⟨0, by omega, rfl, HB0, HO0⟩
  case round =>
    clear HB0 HO0
    obtain ⟨k, hk, rfl, HB, HO⟩ := hrel
    have pk : (0 : Int) ≤ (k : Int) := by omega
    by_cases hlt : k < pl
    · have hlt' : (k : Int) < (pl : Int) := by omega
      obtain ⟨gb, off, b, hao, hc0, hbv⟩ := hcn k hlt
      subst hao
      have hc := grow_cell HB hc0
      clear hc0
      have LK := Lib.hid (show (X.take k).length = k by rw [List.length_take, LA.out]; omega)
      go_upto_region 9 with (fail)
      refine wp_region_R 5 [7, 9] (by kernel_rfl) (by kernel_rfl) (by kernel_rfl) (by kernel_rfl) ?_
      intro K_ ops_ hops_ hK
      replace hops_ := Lib.hid hops_
      apply Exists.intro
      intro R_ hb_
      simp only [↓baseR, ↓nthR_succ, ↓nthR_zero] at hb_
      simp only [List.take_succ_cons, List.take_zero, List.drop_succ_cons, List.drop_zero]
      repeat (first
        
        
        | (apply LexR_callF (f := 12) (by rfl) (by rfl) (by rfl) Try.func12 (by kernel_rfl) (by kernel_rfl) (fun _ => ?_) (fun w1 hw1 hd1 => ?_) (fun _ hr_ => ?_); rotate_right 3; (go_simp; first | done | rfl); exact (Of_c _ (at32 X k) (by first | exact hbv | (rw [← hbv]; simp only [IntKind.wrap_u32'])) w1))
        | (apply LexR_det (by rfl) (by rfl) (by rfl) (fun w1 hw1 hd1 => ?_) (fun _ hr_ => ?_); rotate_right 2; (go_simp; first | done | rfl ))
        | (apply LexR_box (by rfl) (by rfl) (by rfl) (fun w1 hw1 hd1 => ?_) (fun _ hr_ => ?_); rotate_right 2; (go_simp; first | done | rfl))
        | (apply LexR_bs (t := 34) (e := 37) (z := .agg #[.int .u32 0]) (ho := rfl) (by rfl) (by rfl) Try.underlying34 (by kernel_rfl) (by decide) (by decide) (fun _ => ?_) (fun _ => ?_) (fun _ => ?_) (fun _ hr_ => ?_); rotate_right 4; (go_simp; rfl); (exact ⟨rfl, rfl, rfl⟩); (simp only [List.map_cons, List.map_nil, List.flatMap_cons, List.flatMap_nil, Value.cells, List.cons_append, List.nil_append, List.append_nil]; rfl)))
      apply LexR_end
      refine hK _ _ ?_
      clear hK K_
      repeat clear hr_
      clear hb_ R_ hops_ ops_
      intro w1 hw1 hf1
      apply tailR (fun _ => ?_) (fun _ => ?_) ?_
      rotate_right 2
      · simp only [putAll, Act.put, List.setIfInBounds_toArray, List.set_cons_succ, List.set_cons_zero]; first | done | rfl
      · simp only [List.drop_succ_cons, List.drop_zero]; first | done | rfl
      simp [allFacts, contOf, Exp.putAt, Exp.fact, Exp.fresh, Exp.blk] at hf1
      obtain ⟨k21, l21⟩ := hf1
      obtain ⟨g21, e_⟩ := name_blk k21
      subst e_
      replace HO := HO.grow hw1
      replace HB := bl_call hw1 HB
      clear hw1 l21
      have c21 := blk_cell k21 0
      refine wpList_app1 rfl _ _ 34 rfl w.heap.size 37 (.agg #[.int .u32 0]) 8 Try.underlying34 (by kernel_rfl) rfl (by decide) u7 (X.take k).length _ rfl HO g21 1 (sec (at32 X k)) rfl c21 rfl (by rw [LK.out]; omega) HB.size ?_
      intro g3 cap3 W2 hO hgr hsv hgl
      replace HB := grown_below HB hgr HB.size fun g hg' => (ownsRow_lt HO hg').1
      replace HO : OwnW W2 w.heap.size (.slice (some ⟨g3, 0, none⟩) ((X.take k).length + 1) cap3) (X.take (k + 1)) := by
        rw [List.take_succ_eq_append_getElem (by rw [LA.out]; exact hlt), show X[k]'(by rw [LA.out]; exact hlt) = at32 X k by simp [at32, LA.out, hlt]]
        exact OwnW.snoc rfl hO
      generalize (Value.slice (some ⟨g3, 0, none⟩) ((X.take k).length + 1) cap3) = sv2 at HO ⊢
      clear hO hgr hsv hgl c21 k21 hc hbv
      go_wp2_with fail
      go_roundw
      case measure => simp [intOf] <;> omega
      exact ⟨k + 1, by omega, congrArg (Value.int .i64) (by omega), HB, HO⟩
    · obtain rfl : k = pl := by omega
      have hlt' : ¬ (k : Int) < (k : Int) := by omega
      rw [List.take_of_length_le (by rw [LA.out]; omega)] at HO
      go_upto_region 12 with (first | (go_at_call 14; refine (hOf _ _ HO.sliceOf).mono ?_; rintro e w2 ⟨rfl, hw2⟩) | (go_at_call 13; refine (hK _).mono ?_; rintro e w3 ⟨rfl, hw3⟩) | (refine wpList_store_row rfl _ _ _ rfl w3.heap.size (cw M) rfl rfl 39 _ (blk_new w3 _) (by rw [cw_size, L8.out]; kernel_rfl) (by rw [cw_size, L8.out]; rfl) (cw_one _) ?_))
      refine gen_world fun W3 hW => ?_
      have k10 : W3.heap[w3.heap.size]? = some (.cells (cw M) 39 (0, 0)) := by subst hW; exact setRow_blk (blk_new w3 _) _
      have hb2 : Below w3.heap.size w3 W3 := by subst hW; exact bl_row _ _ (Nat.le_refl _) (bl_alloc (Below.refl _ _) _)
      replace HB := bl_call hb2 (bl_call hw3 (bl_call hw2 HB))
      obtain ⟨g10, hg10⟩ : ∃ g, g = w3.heap.size := ⟨_, rfl⟩
      rw [← hg10] at k10 ⊢
      clear hW hb2 hw2 hw3 hg10 HO hOf hK
      have rk := RowB.grow hb0 HB
      go_upto_region 15 with (first | (refine wpList_convSB rfl rfl rfl Try.underlying9 Try.underlying22 Try.underlying5 ?_; intro cap6 w6 hr6 hw6 hs6) | (go_at_call 9; refine (hR _ _ (RowB.grow rk hw6) hr6).mono ?_; rintro e w7 ⟨rfl, hw7⟩) | (refine wpList_store_row rfl _ _ _ rfl w7.heap.size (cw M) rfl rfl 28 _ (blk_new w7 _) (by rw [cw_size, L8.out]; kernel_rfl) (by rw [cw_size, L8.out]; rfl) (cw_one _) ?_))
      refine gen_world fun W7 hW => ?_
      have k12 : W7.heap[w7.heap.size]? = some (.cells (cw M) 28 (0, 0)) := by subst hW; exact setRow_blk (blk_new w7 _) _
      have hb2 : Below w7.heap.size w7 W7 := by subst hW; exact bl_row _ _ (Nat.le_refl _) (bl_alloc (Below.refl _ _) _)
      have hb3 := bl_call hb2 (bl_call hw7 hw6)
      replace HB := bl_call hb3 HB
      replace k10 := grow_blk hb3 k10
      replace rk := RowB.grow rk hb3
      obtain ⟨g12, hg12⟩ : ∃ g, g = w7.heap.size := ⟨_, rfl⟩
      rw [← hg12] at k12 ⊢
      clear hW hb2 hb3 hw6 hw7 hg12 hr6 hs6 hR
      refine wp_region_R 17 [0, 1, 2, 10, 11, 12] (by kernel_rfl) (by kernel_rfl) (by kernel_rfl) (by kernel_rfl) ?_
      intro K_ ops_ hops_ hK
      replace hops_ := Lib.hid hops_
      apply Exists.intro
      intro R_ hb_
      simp only [↓baseR, ↓nthR_succ, ↓nthR_zero] at hb_
      simp only [List.take_succ_cons, List.take_zero, List.drop_succ_cons, List.drop_zero]
      repeat (first
        | (apply LexR_det (by rfl) (by rfl) (wanted_guard rfl (by rw [hops_.out]; rfl) rfl (by go_simp)) (fun w1 hw1 hd1 => ?_) (fun _ hr_ => ?_); rotate_right 2; (refine run_load_rowR (ty := 39) rfl ?_ (grow_blk hw1 k10) Try.underlying39 rfl ?_; (focus (go_simp; done)); (rw [cw_size, L8.out]; kernel_rfl))) | (apply LexR_det (by rfl) (by rfl) (wanted_guard rfl (by rw [hops_.out]; rfl) rfl (by go_simp)) (fun w1 hw1 hd1 => ?_) (fun _ hr_ => ?_); rotate_right 2; (refine run_load_rowR (ty := 28) rfl ?_ (grow_blk hw1 k12) Try.underlying28 rfl ?_; (focus (go_simp; done)); (rw [cw_size, L8.out]; kernel_rfl)))
        
        | (apply LexR_callF (f := 15) (by rfl) (by rfl) (wanted_guard rfl (by rw [hops_.out]; rfl) rfl (by go_simp)) Try.func15 (by kernel_rfl) (by kernel_rfl) (fun _ => ?_) (fun w1 hw1 hd1 => ?_) (fun _ hr_ => ?_); rotate_right 3; (go_simp; first | done | rfl); (with_reducible exact (hIs w1))) | (apply LexR_callF (f := 7) (by rfl) (by rfl) (wanted_guard rfl (by rw [hops_.out]; rfl) rfl (by go_simp)) Try.func7 (by kernel_rfl) (by kernel_rfl) (fun _ => ?_) (fun w1 hw1 hd1 => ?_) (fun _ hr_ => ?_); rotate_right 3; (go_simp; first | done | rfl); (with_reducible exact (hPl w1))) | (apply LexR_own (f := 8) (by rfl) (by rfl) ((wanted_guard rfl (by rw [hops_.out]; rfl) rfl (by go_simp))) Try.func8 (by kernel_rfl) (by kernel_rfl) (fun _ => ?_) (fun w1 hw1 hd1 => ?_) (fun _ hr_ => ?_); rotate_right 3; (go_simp; first | done | rfl); exact (hrB w1)) | (apply LexR_det (by rfl) (by rfl) ((wanted_guard rfl (by rw [hops_.out]; rfl) rfl (by go_simp))) (fun w1 hw1 hd1 => ?_) (fun _ hr_ => ?_); rotate_right 2; (simp [depFacts, needs, Region.binds, Exp.dep] at hd1; obtain ⟨cur_, hk_, ht_⟩ := hd1; exact run_conv_own rfl hr_ Try.underlying22 Try.underlying5 Try.underlying9 hk_ LRB.out (by first | exact ht_ | simpa using ht_))) | (apply LexR_det (by rfl) (by rfl) ((wanted_guard rfl (by rw [hops_.out]; rfl) rfl (by go_simp))) (fun w1 hw1 hd1 => ?_) (fun _ hr_ => ?_); rotate_right 2; (refine run_conv_rowBR rfl ?_ (RowB.grow rk hw1); (focus (go_simp; done)))) | (apply LexR_det (by rfl) (by rfl) (wanted_guard rfl (by rw [hops_.out]; rfl) rfl (by go_simp)) (fun w1 hw1 hd1 => ?_) (fun _ hr_ => ?_); rotate_right 2; (go_simp; first | done | rfl ))
        | (apply LexR_det (by rfl) (by rfl) (by rfl) (fun w1 hw1 hd1 => ?_) (fun _ hr_ => ?_); rotate_right 2; (go_simp; first | done | rfl ))
        | (apply LexR_box (by rfl) (by rfl) (by rfl) (fun w1 hw1 hd1 => ?_) (fun _ hr_ => ?_); rotate_right 2; (go_simp; first | done | rfl))
        | (apply LexR_bs (t := 34) (e := 37) (z := .agg #[.int .u32 0]) (ho := rfl) (by rfl) (by rfl) Try.underlying34 (by kernel_rfl) (by decide) (by decide) (fun _ => ?_) (fun _ => ?_) (fun _ => ?_) (fun _ hr_ => ?_); rotate_right 4; (go_simp; rfl); (exact ⟨rfl, rfl, rfl⟩); (simp only [List.map_cons, List.map_nil, List.flatMap_cons, List.flatMap_nil, Value.cells, List.cons_append, List.nil_append, List.append_nil]; rfl)))
      apply LexR_end
      refine hK _ _ ?_
      clear hK K_
      repeat clear hr_
      clear hb_ R_ hops_ ops_
      intro w1 hw1 hf1
      apply tailR (fun _ => ?_) (fun _ => ?_) ?_
      rotate_right 2
      · simp only [putAll, Act.put, List.setIfInBounds_toArray, List.set_cons_succ, List.set_cons_zero]; first | done | rfl
      · simp only [List.drop_succ_cons, List.drop_zero]; first | done | rfl
      simp [allFacts, contOf, Exp.putAt, Exp.fact, Exp.fresh, Exp.blk] at hf1
      clear hf1
      replace HB := bl_call hw1 HB
      go_wp2
      exact bodyPost_ret (v := .bool true) (by simp [results, Try.results5, go_sem]) rfl ⟨rfl, HB⟩
theorem PbkdfKeys_all (bs : List UInt8) (sv : Value) (s : ByteArray) (n : Int) (w : World) (hm : bs.length ≤ maxLen) (hs : s.size ≤ maxLen) (hb : RowB w sv bs) : Calls Try.prog 5 #[sv, .string s, .int .i64 n] w fun e w' => e = .returned (.bool true) ∧ Below w.heap.size w w' := by
  by_cases h1 : bs.length ≤ 100
  · by_cases h2 : s.size ≤ 80
    · by_cases h3 : n < 1 ∨ 16777216 < n
      · exact PbkdfKeys_D bs sv s n w h2 h1 h3 hb
      · by_cases h4 : 20 < n
        · exact PbkdfKeys_C bs sv s n w h2 h1 h4 (by omega) hb
        · obtain ⟨m, rfl⟩ : ∃ m : Nat, n = (m : Int) + 1 := ⟨(n - 1).toNat, by omega⟩
          exact PbkdfKeys_E bs sv s m (by omega) w h2 h1 hb
    · exact PbkdfKeys_B bs sv s n w hs h1 (by omega) hb
  · exact PbkdfKeys_A bs sv s n w hm (by omega) hb
end Go.Proofs.Yteaaaekffnfmhab

/- The law ShaTexts. -/
import Derived.Test.YtekblfcmmkipgaaL16
import Derived.Test.YtekblfcmmkipgaaR3
import Derived.Test.YtekblfcmmkipgaaEq
import Derived.Lib.ConvBytes
namespace Go.Proofs.Ytekblfcmmkipgaa
open Go.RowKit Go.Lib
set_option maxRecDepth 100000
set_option linter.unusedSimpArgs false
set_option linter.unusedVariables false
attribute [local go_sem] evR_tmp evR_const evR_global evR_func
/-- A byte with other bits above it. -/
def mixed (s : ByteArray) : List W32 := s.data.toList.map fun b => kw b.toNat ||| kw 23040
theorem mixed_length (s : ByteArray) : (mixed s).length = s.size := by
  rw [mixed, List.length_map, Array.length_toList]; rfl
theorem mix_at (s : ByteArray) (n : Nat) (h : n < s.size) : bits .or .u32 (IntKind.u32.wrap ((s[n].toNat : Nat) : Int)) 23040 = iw (at32 (mixed s) n) := by
  have e : at32 (mixed s) n = at32 (textw s) n ||| kw 23040 := by
    have h' : n < s.data.size := h
    simp only [at32, mixed, textw, List.getD_eq_getElem?_getD, List.getElem?_map, Array.getElem?_toList, Array.getElem?_eq_getElem h', Option.map_some, Option.getD_some]
  rw [text_at s n h, show (23040 : Int) = iw (kw 23040) from by decide +kernel, or_iw, e]
theorem low_mix (b : UInt8) : (kw b.toNat ||| kw 23040) &&& kw 255 = kw b.toNat := by
  have : ∀ n : Fin 256, (kw n.val ||| kw 23040) &&& kw 255 = kw n.val := by decide +kernel
  exact this ⟨b.toNat, b.toNat_lt⟩
theorem low_byte (b : UInt8) : kw b.toNat &&& kw 255 = kw b.toNat := by
  have : ∀ n : Fin 256, kw n.val &&& kw 255 = kw n.val := by decide +kernel
  exact this ⟨b.toNat, b.toNat_lt⟩
theorem joinw_mixed (s : ByteArray) (hs : s.size ≤ 500000) : joinw (mixed s) = refSum s.data.toList := by
  have hl : (mixed s).length = s.data.toList.length := by rw [mixed, List.length_map]
  unfold joinw
  rw [hl]
  have hsz : s.data.toList.length ≤ 500000 := by rw [Array.length_toList]; exact hs
  refine hash_is s.data.toList _ _ (Nat.le_refl _) (by omega) fun i hi => ?_
  simp only [at32, mixed, List.getD_eq_getElem?_getD, List.getElem?_map, List.getElem?_eq_getElem hi, Option.map_some, Option.getD_some, byteAt]
  exact low_mix _
theorem joinw_text (s : ByteArray) (hs : s.size ≤ 500000) : joinw (textw s) = refSum s.data.toList := by
  have hl : (textw s).length = s.data.toList.length := by rw [textw, List.length_map]
  unfold joinw
  rw [hl]
  have hsz : s.data.toList.length ≤ 500000 := by rw [Array.length_toList]; exact hs
  refine hash_is s.data.toList _ _ (Nat.le_refl _) (by omega) fun i hi => ?_
  simp only [at32, textw, List.getD_eq_getElem?_getD, List.getElem?_map, List.getElem?_eq_getElem hi, Option.map_some, Option.getD_some, byteAt]
  exact low_byte _
theorem byte_and (x : W32) : byteOf (x &&& kw 255) = byteOf x := by
  unfold byteOf
  apply UInt8.toNat.inj
  rw [UInt8.toNat_ofNat', UInt8.toNat_ofNat', BitVec.toNat_and, kw_nat 255 (by omega)]
  rw [show (255 : Nat) = 2 ^ 8 - 1 from rfl, Nat.and_two_pow_sub_one_eq_mod]
  omega
theorem quad_bytes (x : W32) : (byteQ x 4).map byteOf = quad x := by
  have e : byteQ x 4 = [shrI x 24 &&& kw 255, shrI x 16 &&& kw 255, shrI x 8 &&& kw 255, shrI x 0 &&& kw 255] := rfl
  rw [e]
  simp only [List.map_cons, List.map_nil, byte_and, quad]
  rw [show shrI x 0 = x by simp [shrI]]
theorem bytes_eq (h : List W32) : (bytesw h).map byteOf = refBytes h := by
  unfold bytesw refBytes
  induction h with
  | nil => rfl
  | cons x r ih => rw [List.flatMap_cons, List.flatMap_cons, List.map_append, ih, quad_bytes]
theorem sumText_is (s : ByteArray) (hs : s.size ≤ 500000) : sumText s = ⟨(refBytes (refSum s.data.toList)).toArray⟩ := by
  unfold sumText bytesOf
  rw [joinw_text s hs, bytes_eq]
/-- A byte slice of one's own as a text. -/
theorem run_conv_own {P : Program} {R : Nat → Value} {o : Oper} {w : World} {src dst e t : TypeId} {x : Operand} {g n cap : Nat} {cur : Array Value} {bs : List UInt8} (ho : o.op = .convert src dst x) (hx : evR R x = .slice (some ⟨g, 0, none⟩) n cap)
    (hs : P.underlying src = some (.slice e)) (he : P.underlying e = some (.int .u8)) (hd : P.underlying dst = some .string) (hk : w.heap[g]? = some (.cells cur t (0, 0))) (hl : bs.length = n) (ht : cur.toList.take n = bs.map bv) :
    (execOp (evR R) o).run P w = .ok (.value (.string ⟨bs.toArray⟩)) w := by
  have hcell : ∀ i, i < n → w.cell? ⟨g, 0 + i, none⟩ = some (.int .u8 ((bs.map fun b => ((b.toNat : Nat) : Int)).getD i 0)) := fun i hi => by
    have e1 := congrArg (fun l => l[i]?) ht
    simp only [List.getElem?_take, if_pos hi, List.getElem?_map, Array.getElem?_toList] at e1
    rw [Nat.zero_add]
    have e2 : w.cell? ⟨g, i, none⟩ = cur[i]? := by simp [World.cell?, hk]
    rw [e2, e1]
    simp [hl, hi, bv]
  have := run_convert_bytesR (R := R) (cap := cap) ho hx hs he hd (bs.map fun b => ((b.toNat : Nat) : Int)) (by rw [List.length_map, hl]) hcell
  have e3 : strOfNums (bs.map fun b => ((b.toNat : Nat) : Int)) = ⟨bs.toArray⟩ := by
    unfold strOfNums
    rw [List.map_map]
    congr 2
    conv => rhs; rw [← List.map_id bs]
    apply List.map_congr_left
    intro b _
    simp
  rw [e3] at this
  exact this
theorem Bytes_own (hs : List W32) (hh : hs.length = 8) (w : World) : Calls Try.prog 33 #[.agg (cw hs)] w fun x w' => ∃ g cap cur, x = .returned (.slice (some ⟨g, 0, none⟩) 32 cap) ∧ cap < 18446744073709551616 ∧ w.heap.size ≤ g ∧ w'.heap[g]? = some (.cells cur 44 (0, 0)) ∧ cur.toList.take 32 = (bytesw hs).map sec ∧ Below w.heap.size w w' := by
  refine (Bytes_c hs hh w).mono ?_
  rintro e w' ⟨sv, rfl, HO, HB⟩
  have HL := bytesw_length hs hh
  rcases HO.2 with ⟨_, q⟩ | ⟨g, cap, cur, rfl, hg, hk, _, hm, _, ht⟩
  · omega
  · rw [HL] at ht ⊢
    exact ⟨g, cap, cur, rfl, by simp only [maxLen] at hm; omega, hg, hk, by simpa using ht, HB⟩
theorem Padded_own (bs : List UInt8) (sv : Value) (w : World) (hn : bs.length ≤ 500000) (hs : RowB w sv bs) : Calls Try.prog 39 #[sv] w fun x w' => ∃ g cap cur, x = .returned (.slice (some ⟨g, 0, none⟩) (64 * (lastAt bs.length + 1)) cap) ∧ cap < 18446744073709551616 ∧ w.heap.size ≤ g ∧ w'.heap[g]? = some (.cells cur 5 (0, 0)) ∧ cur.toList.take (64 * (lastAt bs.length + 1)) = (padded bs).map bv ∧ Below w.heap.size w w' := by
  refine (Padded_c bs sv w hn hs).mono ?_
  rintro e w' ⟨sv', rfl, HO, HB⟩
  rw [padded_length] at HO
  rcases HO.2 with ⟨_, q⟩ | ⟨g, cap, cur, rfl, hg, hk, _, hm, _, ht⟩
  · omega
  · exact ⟨g, cap, cur, rfl, by simp only [maxLen] at hm; omega, hg, hk, by simpa using ht, HB⟩
theorem own_cell {w : World} {g n i : Nat} {cur : Array Value} {cs : List Value} {t : TypeId} (hk : w.heap[g]? = some (.cells cur t (0, 0))) (ht : cur.toList.take n = cs) (hi : i < n) : w.cell? ⟨g, i, none⟩ = cs[i]? := by
  have e1 := congrArg (fun l => l[i]?) ht
  simp only [List.getElem?_take, if_pos hi, Array.getElem?_toList] at e1
  rw [← e1]
  simp [World.cell?, hk]
theorem low_bytes (h : List W32) : ∀ x ∈ bytesw h, iw x < 256 := fun x hx => by
  unfold bytesw byteQ at hx
  obtain ⟨y, _, hy⟩ := List.mem_flatMap.1 hx
  obtain ⟨i, _, rfl⟩ := List.mem_map.1 hy
  unfold iw
  rw [BitVec.toNat_and, kw_nat 255 (by omega)]
  have := Nat.and_le_right (n := (shrI y (24 - 8 * (i : Int))).toNat) (m := 255)
  omega
theorem byte_wrap (x : W32) (h : iw x < 256) : IntKind.u32.wrap (byteN x) = iw x := by
  have := iw_lo x
  rw [byteN_eq, IntKind.wrap_u32']; omega
theorem Blocks_bel (n : Nat) (hn : n ≤ 1000000) (w : World) : Calls Try.prog 38 #[.int .i64 (n : Int)] w fun e w' => e = .returned (.int .i64 (blocksN n : Int)) ∧ Below w.heap.size w w' :=
  (Blocks_cN n hn w).mono fun e w' h => ⟨h.1, by rw [← h.2]; exact Below.refl _ _⟩
theorem Sum_ref (s : ByteArray) (hs : s.size ≤ 500000) (w : World) : Calls Try.prog 34 #[.string s] w fun e w' => e = .returned (.string ⟨(refBytes (refSum s.data.toList)).toArray⟩) ∧ Below w.heap.size w w' := by
  rw [← sumText_is s hs]
  exact Sum_c s (by omega) w
/-- A text as bytes. -/
theorem wpList_convSB {P : Program} {ops : Array Oper} {rest : List Oper} {o : Oper} {a : Act} {w : World} {Q : Exit → Act → World → Prop} {src dst e : TypeId} {x : Operand} {s : ByteArray} (hg : o.guard = none) (ho : o.op = .convert src dst x) (hx : a.eval x = .string s)
    (hs : P.underlying src = some .string) (hd : P.underlying dst = some (.slice e)) (he : P.underlying e = some (.int .u8))
    (h : ∀ cap w', RowB w' (.slice (some ⟨w.heap.size, 0, none⟩) s.size cap) s.data.toList → Below w.heap.size w w' → w.heap.size < w'.heap.size → wpList P ops Q rest (a.put o.dst (.slice (some ⟨w.heap.size, 0, none⟩) s.size cap)) w') : wpList P ops Q (o :: rest) a w := by
  refine wpList_plain hg fun K hK => ?_
  have hrow : RowB (bytesWorld w e s) (.slice (some ⟨w.heap.size, 0, none⟩) s.size (grownCap w s.size 0 e)) s.data.toList := by
    refine ⟨_, grownCap w s.size 0 e, by rw [Array.length_toList]; rfl, fun q => by simp at q, fun k hk => ⟨w.heap.size, 0, rfl, ?_⟩⟩
    have hk' : k < s.size := by rw [Array.length_toList] at hk; exact hk
    rw [Nat.zero_add, bytesWorld_cell w e s k hk', List.getD_eq_getElem?_getD, List.getElem?_eq_getElem hk]
    rfl
  have main := h _ _ hrow ⟨rfl, rfl, rfl, by rw [bytesWorld_size]; omega, fun k hk => bytesWorld_at_old w e s k hk⟩ (by rw [bytesWorld_size]; omega)
  have hr := Go.Lib.run_convert_string_bytes w src dst e s hs hd he
  have e1 : (execOp a.eval o).run P w = .ok (.value (.slice (some ⟨w.heap.size, 0, none⟩) s.size (grownCap w s.size 0 e))) (bytesWorld w e s) := by
    unfold execOp
    simp only [ho, hx]
    rw [Sem.run_bind, hr]
    rfl
  unfold Oper.wp
  rw [e1, Oper.upon_value]
  exact hK _ _ main
theorem Padded_zeros (N g : Nat) (w : World) (hN : N ≤ 2000) (hk : w.heap[g]? = some (.cells (Array.replicate N (.int .u8 0)) 5 (0, 0))) : Calls Try.prog 39 #[.slice (some ⟨g, 0, none⟩) N N] w fun x w' => ∃ g cap cur, x = .returned (.slice (some ⟨g, 0, none⟩) (64 * (lastAt N + 1)) cap) ∧ cap < 18446744073709551616 ∧ w.heap.size ≤ g ∧ w'.heap[g]? = some (.cells cur 5 (0, 0)) ∧ cur.toList.take (64 * (lastAt N + 1)) = (padded (List.replicate N 0)).map bv ∧ Below w.heap.size w w' := by
  have := Padded_own (List.replicate N 0) (.slice (some ⟨g, 0, none⟩) N N) w (by simp; omega) ⟨_, N, by simp, fun q => by simp at q, fun k hk' => ⟨g, 0, rfl, by
    rw [Nat.zero_add, blk_cell hk k]
    simp at hk'
    simp [hk', bv]⟩⟩
  simpa using this
theorem blocks_last (N : Nat) : blocksN N = lastAt N + 1 := by unfold blocksN lastAt; omega
set_option maxHeartbeats 8000000 in
theorem ShaTexts_c (s : ByteArray) (n : Int) (w : World) : Calls Try.prog 7 #[.string s, .int .i64 n] w fun e w' => e = .returned (.bool true) ∧ Below w.heap.size w w' := by
  by_cases hs : s.size > 300
  · have hs' : (s.size : Int) > 300 := by omega
    go_enter Try.func7, Try.ntmps7
    go_wp2_with (go_at_call 24; refine (awake16_c _).mono ?_; rintro e w1 ⟨rfl, hw1⟩)
    exact bodyPost_ret (v := .bool true) (by simp [results, Try.results7, go_sem]) rfl ⟨rfl, hw1⟩
  have hs' : ¬ (s.size : Int) > 300 := by omega
  go_enter Try.func7, Try.ntmps7
  go_upto_region 5 with (go_at_call 24; refine (awake16_c _).mono ?_; rintro e w1 ⟨rfl, HB⟩)
  go_wp2_with fail
  have LT := Lib.hid (mixed_length s)
  have HB0 := HB
  have HO0 : OwnW w1 w.heap.size (.slice none 0 0) ((mixed s).take 0) := OwnW.empty (World.ownsRow_nil _ _ _ _)
  clear HB
  go_loopw [19, 5] (fun i sv wr => ∃ k : Nat, k ≤ s.size ∧ i = .int .i64 (k : Int) ∧ Below w.heap.size w wr ∧ OwnW wr w.heap.size sv ((mixed s).take k)) (fun i _ _ => s.size - (intOf i).toNat)
  case atStart => exact ⟨0, by omega, rfl, HB0, HO0⟩
  case round =>
    clear HB0 HO0
    obtain ⟨k, hk, rfl, HB, HO⟩ := hrel
    have pk : (0 : Int) ≤ (k : Int) := by omega
    by_cases hlt : k < s.size
    · have hlt' : (k : Int) < (s.size : Int) := by omega
      go_upto_region 9 with (fail)
      refine wp_region_R 8 [0, 5, 6] (by kernel_rfl) (by kernel_rfl) (by kernel_rfl) (by kernel_rfl) ?_
      intro K_ ops_ hops_ hK
      replace hops_ := Lib.hid hops_
      apply Exists.intro
      intro R_ hb_
      simp only [↓baseR, ↓nthR_succ, ↓nthR_zero] at hb_
      simp only [List.take_succ_cons, List.take_zero, List.drop_succ_cons, List.drop_zero]
      repeat (first
        
        
        | (apply LexR_callF (f := 25) (by rfl) (by rfl) (by rfl) Try.func25 (by kernel_rfl) (by kernel_rfl) (fun _ => ?_) (fun w1 hw1 hd1 => ?_) (fun _ hr_ => ?_); rotate_right 3; (go_simp; first | done | rfl); exact (Of_c _ (at32 (mixed s) k) (mix_at s k hlt) w1))
        | (apply LexR_det (by rfl) (by rfl) (by rfl) (fun w1 hw1 hd1 => ?_) (fun _ hr_ => ?_); rotate_right 2; (go_simp; first | done | rfl ))
        | (apply LexR_box (by rfl) (by rfl) (by rfl) (fun w1 hw1 hd1 => ?_) (fun _ hr_ => ?_); rotate_right 2; (go_simp; first | done | rfl))
        | (apply LexR_bs (t := 54) (e := 44) (z := .agg #[.int .u32 0]) (ho := rfl) (by rfl) (by rfl) Try.underlying54 (by kernel_rfl) (by decide) (by decide) (fun _ => ?_) (fun _ => ?_) (fun _ => ?_) (fun _ hr_ => ?_); rotate_right 4; (go_simp; rfl); (exact ⟨rfl, rfl, rfl⟩); (simp only [List.map_cons, List.map_nil, List.flatMap_cons, List.flatMap_nil, Value.cells, List.cons_append, List.nil_append, List.append_nil]; rfl)))
      apply LexR_end
      refine hK _ _ ?_
      clear hK K_
      repeat clear hr_
      clear hb_ R_ hops_ ops_
      intro w1 hw1 hf1
      apply tailR (fun _ => ?_) (fun _ => ?_) ?_
      rotate_right 2
      · simp only [putAll, Act.put, List.setIfInBounds_toArray, List.set_cons_succ, List.set_cons_zero]; first | done | rfl
      · simp only [List.drop_succ_cons, List.drop_zero]; first | done | rfl
      simp [allFacts, contOf, Exp.putAt, Exp.fact, Exp.fresh, Exp.blk] at hf1
      obtain ⟨k29, l29⟩ := hf1
      obtain ⟨g29, e_⟩ := name_blk k29
      subst e_
      replace HO := HO.grow hw1
      replace HB := bl_call hw1 HB
      clear hw1 l29
      have hlk : (List.take k (mixed s)).length = k := by rw [List.length_take, LT.out]; omega
      have c29 := blk_cell k29 0
      refine wpList_app1 rfl _ _ 54 rfl w.heap.size 44 (.agg #[.int .u32 0]) 8 Try.underlying54 (by kernel_rfl) rfl (by decide) u5 _ _ rfl HO g29 1 (sec (at32 (mixed s) k)) rfl c29 rfl (by rw [hlk]; omega) HB.size ?_
      intro g3 cap3 W2 hO hgr hsv hgl
      replace HB := grown_below HB hgr HB.size fun g hg' => (ownsRow_lt HO hg').1
      replace HO : OwnW W2 w.heap.size (.slice (some ⟨g3, 0, none⟩) ((List.take k (mixed s)).length + 1) cap3) ((mixed s).take (k + 1)) := by
        rw [List.take_succ_eq_append_getElem (by rw [LT.out]; exact hlt), show (mixed s)[k]'(by rw [LT.out]; exact hlt) = at32 (mixed s) k by simp [at32, LT.out, hlt]]
        exact OwnW.snoc rfl hO
      generalize (Value.slice (some ⟨g3, 0, none⟩) ((List.take k (mixed s)).length + 1) cap3) = sv2 at HO ⊢
      clear hO hgr hsv hgl c29 k29 hlk
      go_wp2_with fail
      go_roundw
      case measure => simp [intOf] <;> omega
      exact ⟨k + 1, by omega, congrArg (Value.int .i64) (by omega), HB, HO⟩
    · obtain rfl : k = s.size := by omega
      have hlt' : ¬ (s.size : Int) < (s.size : Int) := by omega
      rw [List.take_of_length_le (by rw [LT.out]; omega)] at HO
      have hJ := joinw_mixed s (by omega)
      have LR := Lib.hid (show (refSum s.data.toList).length = 8 from refSumAt_length _ _)
      have LRB := Lib.hid (show (refBytes (refSum s.data.toList)).length = 32 by unfold refBytes; rw [quads_length]; rw [LR.out])
      have hbe := bytes_eq (refSum s.data.toList)
      have LBW := Lib.hid (bytesw_length _ LR.out)
      have hlow := low_bytes (refSum s.data.toList)
      have hSum := Sum_ref s (by omega)
      have hRef : ∀ sv w, RowB w sv s.data.toList → _ := fun sv w h => rSum_c s.data.toList sv w (by rw [Array.length_toList]; show s.size ≤ 500000; omega) h
      have hJoin := fun w1 hw1 => JoinS_c (mixed s) u5 w1 (by rw [LT.out]; omega) (OwnW.sliceOf (HO.grow hw1))
      rw [hJ] at hJoin
      obtain ⟨rs, hrs⟩ : ∃ rs, rs = refSum s.data.toList := ⟨_, rfl⟩
      rw [← hrs] at hJ LR LRB hbe LBW hlow hSum hRef hJoin
      replace hrs := Lib.hid hrs
      clear hJ
      have hcs : (cw rs).size = 8 := by rw [cw_size, LR.out]
      have L8 := LR
      go_upto_region 12 with (first | (refine wpList_convSB rfl rfl rfl Try.underlying9 Try.underlying56 Try.underlying5 ?_; intro cap6 w6 hr6 hw6 hs6) | (go_at_call 31; refine (hRef _ _ hr6).mono ?_; rintro e w7 ⟨rfl, hw7⟩) | (refine wpList_store_row rfl _ _ _ rfl w7.heap.size (cw rs) rfl rfl 40 _ (blk_new w7 _) (by rw [hcs]; kernel_rfl) (by rw [hcs]; rfl) (cw_one _) ?_))
      refine gen_world fun W8 hW => ?_
      have k7 : W8.heap[w7.heap.size]? = some (.cells (cw rs) 40 (0, 0)) := by subst hW; exact setRow_blk (blk_new w7 _) _
      have HW : Below wr.heap.size wr W8 := by
        subst hW
        have h1 := bl_call hw7 hw6
        exact bl_row _ _ h1.size (bl_alloc h1 _)
      obtain ⟨g7, hg7⟩ : ∃ g, g = w7.heap.size := ⟨_, rfl⟩
      rw [← hg7] at k7 ⊢
      have m7 : wr.heap.size < g7 := by have := hw7.size; omega
      clear hW hr6 hw6 hw7 hs6 hg7
      replace hJoin : ∀ w1, Below W8.heap.size W8 w1 → _ := fun w1 hw1 => hJoin w1 (bl_call hw1 HW)
      replace HB := bl_call HW HB
      clear HO HW
      refine wp_region_R 4 [5] (by kernel_rfl) (by kernel_rfl) (by kernel_rfl) (by kernel_rfl) ?_
      intro K_ ops_ hops_ hK
      replace hops_ := Lib.hid hops_
      apply Exists.intro
      intro R_ hb_
      simp only [↓baseR, ↓nthR_succ, ↓nthR_zero] at hb_
      simp only [List.take_succ_cons, List.take_zero, List.drop_succ_cons, List.drop_zero]
      repeat (first
        
        | (apply LexR_put (j := 2) (ho := rfl); (go_simp; rfl); (go_simp; rfl); rfl; rfl; (focus (first | decide | (simp; done))); rfl; rfl; kernel_rfl; kernel_rfl; (first | exact cw_one _ | simp [Value.oneCell']); (first | (rw [cw_size, L64.out]; rfl) | (rw [cw_size, L8.out]; rfl) | (rw [cw_size]; rfl) | rfl); intro _)
        | (apply LexR_callF (f := 32) (by rfl) (by rfl) (by rfl) Try.func32 (by kernel_rfl) (by kernel_rfl) (fun _ => ?_) (fun w1 hw1 hd1 => ?_) (fun _ hr_ => ?_); rotate_right 3; (go_simp; first | done | rfl); exact (hJoin w1 hw1))
        | (apply LexR_det (by rfl) (by rfl) (by rfl) (fun w1 hw1 hd1 => ?_) (fun _ hr_ => ?_); rotate_right 2; (go_simp; first | done | rfl ))
        | (apply LexR_box (by rfl) (by rfl) (by rfl) (fun w1 hw1 hd1 => ?_) (fun _ hr_ => ?_); rotate_right 2; (go_simp; first | done | rfl))
        | (apply LexR_bs (t := 54) (e := 44) (z := .agg #[.int .u32 0]) (ho := rfl) (by rfl) (by rfl) Try.underlying54 (by kernel_rfl) (by decide) (by decide) (fun _ => ?_) (fun _ => ?_) (fun _ => ?_) (fun _ hr_ => ?_); rotate_right 4; (go_simp; rfl); (exact ⟨rfl, rfl, rfl⟩); (simp only [List.map_cons, List.map_nil, List.flatMap_cons, List.flatMap_nil, Value.cells, List.cons_append, List.nil_append, List.append_nil]; rfl)))
      apply LexR_end
      refine hK _ _ ?_
      clear hK K_
      repeat clear hr_
      clear hb_ R_ hops_ ops_
      intro w1 hw1 hf1
      apply tailR (fun _ => ?_) (fun _ => ?_) ?_
      rotate_right 2
      · simp only [putAll, Act.put, List.setIfInBounds_toArray, List.set_cons_succ, List.set_cons_zero]; first | done | rfl
      · simp only [List.drop_succ_cons, List.drop_zero]; first | done | rfl
      simp [allFacts, contOf, Exp.putAt, Exp.fact, Exp.fresh, Exp.blk] at hf1
      obtain ⟨k8, l8⟩ := hf1
      obtain ⟨g8, e_⟩ := name_blk k8
      subst e_
      replace k7 := grow_blk hw1 k7
      replace HB := bl_call hw1 HB
      clear hw1 l8 hJoin
      go_upto_region 13 with (fail)
      refine wp_region_R 2 [8] (by kernel_rfl) (by kernel_rfl) (by kernel_rfl) (by kernel_rfl) ?_
      intro K_ ops_ hops_ hK
      replace hops_ := Lib.hid hops_
      apply Exists.intro
      intro R_ hb_
      simp only [↓baseR, ↓nthR_succ, ↓nthR_zero] at hb_
      simp only [List.take_succ_cons, List.take_zero, List.drop_succ_cons, List.drop_zero]
      repeat (first
        | (apply LexR_det (by rfl) (by rfl) (by rfl) (fun w1 hw1 hd1 => ?_) (fun _ hr_ => ?_); rotate_right 2; (refine run_load_rowR (ty := 45) rfl ?_ (grow_blk hw1 k8) Try.underlying45 rfl ?_; (focus (go_simp; done)); (rw [cw_size, LR.out]; kernel_rfl)))
        
        | (apply LexR_own (f := 33) (by rfl) (by rfl) (by rfl) Try.func33 (by kernel_rfl) (by kernel_rfl) (fun _ => ?_) (fun w1 hw1 hd1 => ?_) (fun _ hr_ => ?_); rotate_right 3; (go_simp; first | done | rfl); exact (Bytes_own _ LR.out w1))
        | (apply LexR_det (by rfl) (by rfl) (by rfl) (fun w1 hw1 hd1 => ?_) (fun _ hr_ => ?_); rotate_right 2; (go_simp; first | done | rfl ))
        | (apply LexR_box (by rfl) (by rfl) (by rfl) (fun w1 hw1 hd1 => ?_) (fun _ hr_ => ?_); rotate_right 2; (go_simp; first | done | rfl))
        | (apply LexR_bs (t := 54) (e := 44) (z := .agg #[.int .u32 0]) (ho := rfl) (by rfl) (by rfl) Try.underlying54 (by kernel_rfl) (by decide) (by decide) (fun _ => ?_) (fun _ => ?_) (fun _ => ?_) (fun _ hr_ => ?_); rotate_right 4; (go_simp; rfl); (exact ⟨rfl, rfl, rfl⟩); (simp only [List.map_cons, List.map_nil, List.flatMap_cons, List.flatMap_nil, Value.cells, List.cons_append, List.nil_append, List.append_nil]; rfl)))
      apply LexR_end
      refine hK _ _ ?_
      clear hK K_
      repeat clear hr_
      clear hb_ R_ hops_ ops_
      intro w1 hw1 hf1
      apply tailR (fun _ => ?_) (fun _ => ?_) ?_
      rotate_right 2
      · simp only [putAll, Act.put, List.setIfInBounds_toArray, List.set_cons_succ, List.set_cons_zero]; first | done | rfl
      · simp only [List.drop_succ_cons, List.drop_zero]; first | done | rfl
      simp [allFacts, contOf, Exp.putAt, Exp.fact, Exp.fresh, Exp.blk] at hf1
      rename_i p9
      obtain ⟨⟨cur9, k9, t9⟩, l9⟩ := hf1
      replace k7 := grow_blk hw1 k7
      replace k8 := grow_blk hw1 k8
      replace HB := bl_call hw1 HB
      clear hw1
      go_upto_region 14 with (fail)
      have HSum := fun w => hSum w
      refine wp_region_R 17 [0, 7, 8, 9] (by kernel_rfl) (by kernel_rfl) (by kernel_rfl) (by kernel_rfl) ?_
      intro K_ ops_ hops_ hK
      replace hops_ := Lib.hid hops_
      apply Exists.intro
      intro R_ hb_
      simp only [↓baseR, ↓nthR_succ, ↓nthR_zero] at hb_
      simp only [List.take_succ_cons, List.take_zero, List.drop_succ_cons, List.drop_zero]
      repeat (first
        | (apply LexR_det (by rfl) (by rfl) (by rfl) (fun w1 hw1 hd1 => ?_) (fun _ hr_ => ?_); rotate_right 2; (refine run_load_rowR (ty := 45) rfl ?_ (grow_blk hw1 k8) Try.underlying45 rfl ?_; (focus (go_simp; done)); (rw [cw_size, LR.out]; kernel_rfl))) | (apply LexR_det (by rfl) (by rfl) (by rfl) (fun w1 hw1 hd1 => ?_) (fun _ hr_ => ?_); rotate_right 2; (refine run_load_rowR (ty := 40) rfl ?_ (grow_blk hw1 k7) Try.underlying40 rfl ?_; (focus (go_simp; done)); (rw [cw_size, LR.out]; kernel_rfl)))
        
        | (apply LexR_callF (f := 26) (by rfl) (by rfl) (by rfl) Try.func26 (by kernel_rfl) (by kernel_rfl) (fun _ => ?_) (fun w1 hw1 hd1 => ?_) (fun _ hr_ => ?_); rotate_right 3; (go_simp; first | done | rfl); exact (Is_c _ LR.out w1)) | (apply LexR_callF (f := 34) (by rfl) (by rfl) (wanted_guard rfl (by rw [hops_.out]; rfl) rfl (by go_simp)) Try.func34 (by kernel_rfl) (by kernel_rfl) (fun _ => ?_) (fun w1 hw1 hd1 => ?_) (fun _ hr_ => ?_); rotate_right 3; (go_simp; first | done | rfl); exact (hSum w1)) | (apply LexR_own (f := 35) (by rfl) (by rfl) ((wanted_guard rfl (by rw [hops_.out]; rfl) rfl (by go_simp))) Try.func35 (by kernel_rfl) (by kernel_rfl) (fun _ => ?_) (fun w1 hw1 hd1 => ?_) (fun _ hr_ => ?_); rotate_right 3; (go_simp; first | done | rfl); exact (rBytes_c _ LR.out w1)) | (apply LexR_det (by rfl) (by rfl) ((wanted_guard rfl (by rw [hops_.out]; rfl) rfl (by go_simp))) (fun w1 hw1 hd1 => ?_) (fun _ hr_ => ?_); rotate_right 2; (simp [depFacts, needs, Region.binds, Exp.dep] at hd1; obtain ⟨cur_, hk_, ht_⟩ := hd1; exact run_conv_own rfl hr_ Try.underlying56 Try.underlying5 Try.underlying9 hk_ LRB.out (by first | exact ht_ | simpa using ht_))) | (apply LexR_det (by rfl) (by rfl) (wanted_guard rfl (by rw [hops_.out]; rfl) rfl (by go_simp)) (fun w1 hw1 hd1 => ?_) (fun _ hr_ => ?_); rotate_right 2; (refine run_load_rowR (ty := 40) rfl ?_ (grow_blk hw1 k7) Try.underlying40 rfl ?_; (focus (go_simp; done)); (rw [cw_size, LR.out]; kernel_rfl))) | (apply LexR_det (by rfl) (by rfl) (wanted_guard rfl (by rw [hops_.out]; rfl) rfl (by go_simp)) (fun w1 hw1 hd1 => ?_) (fun _ hr_ => ?_); rotate_right 2; (go_simp; first | done | rfl ))
        | (apply LexR_det (by rfl) (by rfl) (by rfl) (fun w1 hw1 hd1 => ?_) (fun _ hr_ => ?_); rotate_right 2; (go_simp; first | done | rfl ))
        | (apply LexR_box (by rfl) (by rfl) (by rfl) (fun w1 hw1 hd1 => ?_) (fun _ hr_ => ?_); rotate_right 2; (go_simp; first | done | rfl))
        | (apply LexR_bs (t := 54) (e := 44) (z := .agg #[.int .u32 0]) (ho := rfl) (by rfl) (by rfl) Try.underlying54 (by kernel_rfl) (by decide) (by decide) (fun _ => ?_) (fun _ => ?_) (fun _ => ?_) (fun _ hr_ => ?_); rotate_right 4; (go_simp; rfl); (exact ⟨rfl, rfl, rfl⟩); (simp only [List.map_cons, List.map_nil, List.flatMap_cons, List.flatMap_nil, Value.cells, List.cons_append, List.nil_append, List.append_nil]; rfl)))
      apply LexR_end
      refine hK _ _ ?_
      clear hK K_
      repeat clear hr_
      clear hb_ R_ hops_ ops_
      intro w1 hw1 hf1
      apply tailR (fun _ => ?_) (fun _ => ?_) ?_
      rotate_right 2
      · simp only [putAll, Act.put, List.setIfInBounds_toArray, List.set_cons_succ, List.set_cons_zero]; first | done | rfl
      · simp only [List.drop_succ_cons, List.drop_zero]; first | done | rfl
      simp [allFacts, contOf, Exp.putAt, Exp.fact, Exp.fresh, Exp.blk] at hf1
      clear hf1 HSum
      replace k7 := grow_blk hw1 k7
      replace k8 := grow_blk hw1 k8
      replace k9 := grow_blk hw1 k9
      replace HB := bl_call hw1 HB
      clear hw1
      go_upto_region 16 with (fail)
      refine wp_region_R 4 [7] (by kernel_rfl) (by kernel_rfl) (by kernel_rfl) (by kernel_rfl) ?_
      intro K_ ops_ hops_ hK
      replace hops_ := Lib.hid hops_
      apply Exists.intro
      intro R_ hb_
      simp only [↓baseR, ↓nthR_succ, ↓nthR_zero] at hb_
      simp only [List.take_succ_cons, List.take_zero, List.drop_succ_cons, List.drop_zero]
      repeat (first
        | (apply LexR_det (by rfl) (by rfl) (by rfl) (fun w1 hw1 hd1 => ?_) (fun _ hr_ => ?_); rotate_right 2; (refine run_load_rowR (ty := 40) rfl ?_ (grow_blk hw1 k7) Try.underlying40 rfl ?_; (focus (go_simp; done)); (rw [cw_size, LR.out]; kernel_rfl)))
        
        | (apply LexR_own (f := 35) (by rfl) (by rfl) (by rfl) Try.func35 (by kernel_rfl) (by kernel_rfl) (fun _ => ?_) (fun w1 hw1 hd1 => ?_) (fun _ hr_ => ?_); rotate_right 3; (go_simp; first | done | rfl); exact (rBytes_c _ LR.out w1))
        | (apply LexR_det (by rfl) (by rfl) (by rfl) (fun w1 hw1 hd1 => ?_) (fun _ hr_ => ?_); rotate_right 2; (go_simp; first | done | rfl ))
        | (apply LexR_box (by rfl) (by rfl) (by rfl) (fun w1 hw1 hd1 => ?_) (fun _ hr_ => ?_); rotate_right 2; (go_simp; first | done | rfl))
        | (apply LexR_bs (t := 54) (e := 44) (z := .agg #[.int .u32 0]) (ho := rfl) (by rfl) (by rfl) Try.underlying54 (by kernel_rfl) (by decide) (by decide) (fun _ => ?_) (fun _ => ?_) (fun _ => ?_) (fun _ hr_ => ?_); rotate_right 4; (go_simp; rfl); (exact ⟨rfl, rfl, rfl⟩); (simp only [List.map_cons, List.map_nil, List.flatMap_cons, List.flatMap_nil, Value.cells, List.cons_append, List.nil_append, List.append_nil]; rfl)))
      apply LexR_end
      refine hK _ _ ?_
      clear hK K_
      repeat clear hr_
      clear hb_ R_ hops_ ops_
      intro w1 hw1 hf1
      apply tailR (fun _ => ?_) (fun _ => ?_) ?_
      rotate_right 2
      · simp only [putAll, Act.put, List.setIfInBounds_toArray, List.set_cons_succ, List.set_cons_zero]; first | done | rfl
      · simp only [List.drop_succ_cons, List.drop_zero]; first | done | rfl
      simp [allFacts, contOf, Exp.putAt, Exp.fact, Exp.fresh, Exp.blk] at hf1
      rename_i p57 _ _
      obtain ⟨⟨cur57, k57, t57⟩, l57⟩ := hf1
      replace k9 := grow_blk hw1 k9
      replace HB := bl_call hw1 HB
      have q9 := blk_lt k9
      clear hw1 k7 k8 l57 m7
      go_wp2_with fail
      have HB0 := HB
      have k90 := k9
      have k570 := k57
      clear HB k9 k57 q9
      go_loopw [59] (fun i wr => ∃ k : Nat, k ≤ 32 ∧ i = .int .i64 (k : Int) ∧ Below w.heap.size w wr ∧ wr.heap[ownBlk p9]? = some (.cells cur9 44 (0, 0)) ∧ wr.heap[ownBlk p57]? = some (.cells cur57 5 (0, 0))) (fun i _ => 32 - (intOf i).toNat)
      case atStart => exact ⟨0, by omega, rfl, HB0, k90, k570⟩
      case round =>
        clear HB0 k90 k570
        obtain ⟨k, hk, rfl, HB, k9, k57⟩ := hrel
        have pk : (0 : Int) ≤ (k : Int) := by omega
        by_cases hlt2 : k < 32
        · have hlt3 : (k : Int) < 32 := by omega
          have hmem : at32 (bytesw rs) k ∈ bytesw rs := by
            rw [show at32 (bytesw rs) k = (bytesw rs)[k]'(by rw [LBW.out]; exact hlt2) by simp [at32, LBW.out, hlt2]]
            exact List.getElem_mem _
          have hB := byte_wrap _ (hlow _ hmem)
          have cb : wr.cell? ⟨ownBlk p57, k, none⟩ = some (.int .u8 (byteN (at32 (bytesw rs) k))) := by
            rw [own_cell k57 t57 hlt2, ← hbe]
            simp [LBW.out, hlt2, bv, byteN, at32]
          have c9 : wr.cell? ⟨ownBlk p9, k, none⟩ = some (.int .u32 (iw (at32 (bytesw rs) k))) := by
            rw [own_cell k9 t9 hlt2]
            simp [LBW.out, hlt2, sec, at32]
          clear hmem
          go_upto_region 19 with (fail)
          refine wp_region_R 9 [9, 10, 11] (by kernel_rfl) (by kernel_rfl) (by kernel_rfl) (by kernel_rfl) ?_
          intro K_ ops_ hops_ hK
          replace hops_ := Lib.hid hops_
          apply Exists.intro
          intro R_ hb_
          simp only [↓baseR, ↓nthR_succ, ↓nthR_zero] at hb_
          simp only [List.take_succ_cons, List.take_zero, List.drop_succ_cons, List.drop_zero]
          repeat (first
            
            
            | (apply LexR_new (f := 36) (by rfl) (by rfl) (by rfl) Try.func36 (by kernel_rfl) (by kernel_rfl) (fun _ => ?_) (fun w1 hw1 hd1 => ?_) (fun _ hr_ => ?_); rotate_right 3; (go_simp; first | done | rfl); exact (NewLog_c w1)) | (apply LexR_use (f := 37) (j := 0) (by rfl) (by rfl) (by rfl) Try.func37 (by kernel_rfl) (by kernel_rfl) (fun _ => ?_) (by simp) rfl (by simp) rfl rfl (fun w1 hw1 hg1 hk1 => ?_) (fun _ hr_ => ?_); rotate_right 3; (go_simp; first | done | rfl); exact (Release_new_c _ _ _ w1 hk1 hg1))
            | (apply LexR_det (by rfl) (by rfl) (by rfl) (fun w1 hw1 hd1 => ?_) (fun _ hr_ => ?_); rotate_right 2; (go_simp; first | done | rfl | (rw [grow_cell hw1 c9]; focus ((try simp); first | done | rfl))))
            | (apply LexR_box (by rfl) (by rfl) (by rfl) (fun w1 hw1 hd1 => ?_) (fun _ hr_ => ?_); rotate_right 2; (go_simp; first | done | rfl))
            | (apply LexR_bs (t := 54) (e := 44) (z := .agg #[.int .u32 0]) (ho := rfl) (by rfl) (by rfl) Try.underlying54 (by kernel_rfl) (by decide) (by decide) (fun _ => ?_) (fun _ => ?_) (fun _ => ?_) (fun _ hr_ => ?_); rotate_right 4; (go_simp; rfl); (exact ⟨rfl, rfl, rfl⟩); (simp only [List.map_cons, List.map_nil, List.flatMap_cons, List.flatMap_nil, Value.cells, List.cons_append, List.nil_append, List.append_nil]; rfl)))
          apply LexR_end
          refine hK _ _ ?_
          clear hK K_
          repeat clear hr_
          clear hb_ R_ hops_ ops_
          intro w1 hw1 hf1
          apply tailR (fun _ => ?_) (fun _ => ?_) ?_
          rotate_right 2
          · simp only [putAll, Act.put, List.setIfInBounds_toArray, List.set_cons_succ, List.set_cons_zero]; first | done | rfl
          · simp only [List.drop_succ_cons, List.drop_zero]; first | done | rfl
          simp [allFacts, contOf, Exp.putAt, Exp.fact, Exp.fresh, Exp.blk] at hf1
          clear hf1 cb c9 hB
          replace k9 := grow_blk hw1 k9
          replace k57 := grow_blk hw1 k57
          replace HB := bl_call hw1 HB
          clear hw1
          go_wp2_with fail
          go_roundw
          case measure => simp [intOf] <;> omega
          exact ⟨k + 1, by omega, congrArg (Value.int .i64) (by omega), HB, k9, k57⟩
        · obtain rfl : k = 32 := by omega
          have hlt3 : ¬ ((32 : Nat) : Int) < 32 := by omega
          clear k9 k57
          by_cases h1 : n > 2000
          · go_wp2
            exact bodyPost_ret (v := .bool true) (by simp [results, Try.results7, go_sem]) rfl ⟨rfl, HB⟩
          · by_cases h2 : n < 0
            · go_wp2_with (go_at_call 38; refine (Blocks_neg _ _ h2).mono ?_; rintro e w1 ⟨rfl, rfl⟩)
              exact bodyPost_ret (v := .bool true) (by simp [results, Try.results7, go_sem]) rfl ⟨rfl, HB⟩
            · obtain ⟨N, rfl⟩ : ∃ N : Nat, n = N := ⟨n.toNat, by omega⟩
              have hN : N ≤ 2000 := by omega
              have hN2 : N ≤ 1000000 := by omega
              go_upto_region 26 with (fail)
              refine wp_region_R 9 [1] (by kernel_rfl) (by kernel_rfl) (by kernel_rfl) (by kernel_rfl) ?_
              intro K_ ops_ hops_ hK
              replace hops_ := Lib.hid hops_
              apply Exists.intro
              intro R_ hb_
              simp only [↓baseR, ↓nthR_succ, ↓nthR_zero] at hb_
              simp only [List.take_succ_cons, List.take_zero, List.drop_succ_cons, List.drop_zero]
              repeat (first
                
                
                | (apply LexR_callF (f := 38) (by rfl) (by rfl) (by rfl) Try.func38 (by kernel_rfl) (by kernel_rfl) (fun _ => ?_) (fun w1 hw1 hd1 => ?_) (fun _ hr_ => ?_); rotate_right 3; (go_simp; first | done | rfl); exact (Blocks_bel N hN2 w1)) | (apply LexR_makeN (t := 56) (e := 5) (z := .int .u8 0) (cell := .int .u8 0) (bytes := 1) (n := N) (L := (N : Int)) rfl (by rfl) (by rfl) Try.underlying56 (by kernel_rfl) rfl (by decide) (by exact hr_) (by exact hr_) rfl hN2 (fun _ hr_ => ?_); rotate_left 1) | (apply LexR_own (f := 39) (by rfl) (by rfl) (by rfl) Try.func39 (by kernel_rfl) (by kernel_rfl) (fun _ => ?_) (fun w1 hw1 hd1 => ?_) (fun _ hr_ => ?_); rotate_right 3; (go_simp; first | done | rfl); (simp [depFacts, needs, Region.binds, Exp.dep] at hd1; exact Padded_zeros N _ w1 hN hd1))
                | (apply LexR_det (by rfl) (by rfl) (by rfl) (fun w1 hw1 hd1 => ?_) (fun _ hr_ => ?_); rotate_right 2; (go_simp; first | done | rfl ))
                | (apply LexR_box (by rfl) (by rfl) (by rfl) (fun w1 hw1 hd1 => ?_) (fun _ hr_ => ?_); rotate_right 2; (go_simp; first | done | rfl))
                | (apply LexR_bs (t := 54) (e := 44) (z := .agg #[.int .u32 0]) (ho := rfl) (by rfl) (by rfl) Try.underlying54 (by kernel_rfl) (by decide) (by decide) (fun _ => ?_) (fun _ => ?_) (fun _ => ?_) (fun _ hr_ => ?_); rotate_right 4; (go_simp; rfl); (exact ⟨rfl, rfl, rfl⟩); (simp only [List.map_cons, List.map_nil, List.flatMap_cons, List.flatMap_nil, Value.cells, List.cons_append, List.nil_append, List.append_nil]; rfl)))
              apply LexR_end
              refine hK _ _ ?_
              clear hK K_
              repeat clear hr_
              clear hb_ R_ hops_ ops_
              intro w1 hw1 hf1
              apply tailR (fun _ => ?_) (fun _ => ?_) ?_
              rotate_right 2
              · simp only [putAll, Act.put, List.setIfInBounds_toArray, List.set_cons_succ, List.set_cons_zero]; first | done | rfl
              · simp only [List.drop_succ_cons, List.drop_zero]; first | done | rfl
              simp [allFacts, contOf, Exp.putAt, Exp.fact, Exp.fresh, Exp.blk] at hf1
              have hq : ((blocksN N : Int) == IntKind.i64.wrap ((lastAt N : Int) + 1)) = true := by
                rw [IntWalk.i64_in _ (by unfold lastAt; omega), blocks_last]
                simp
              rw [hq]
              clear hf1
              replace HB := bl_call hw1 HB
              clear hw1
              go_wp2
              exact bodyPost_ret (v := .bool true) (by simp [results, Try.results7, go_sem]) rfl ⟨rfl, HB⟩
end Go.Proofs.Ytekblfcmmkipgaa

/- The law PbkdfUnlike. -/
import Derived.Test.YteaaaekffnfmhabL18a
import Derived.Test.YteaaaekffnfmhabOpenB
namespace Go.Proofs.Yteaaaekffnfmhab
open Go.RowKit Go.Lib
set_option maxRecDepth 100000
set_option linter.unusedSimpArgs false
set_option linter.unusedVariables false
attribute [local go_sem] evR_tmp evR_const evR_global evR_func
theorem wpList_convBS {ops : Array Oper} {rest : List Oper} {o : Oper} {a : Act} {w : World} {Q : Exit → Act → World → Prop} {x : Operand} {sv : Value} {bs : List UInt8} (hg : o.guard = none) (ho : o.op = .convert 22 9 x) (hx : a.eval x = sv) (hr : RowB w sv bs)
    (h : wpList Try.prog ops Q rest (a.put o.dst (.string ⟨bs.toArray⟩)) w) : wpList Try.prog ops Q (o :: rest) a w := by
  refine wpList_plain hg fun K hK => ?_
  obtain ⟨ao, cap, hsv, hno, hcc⟩ := hr
  have h1 : (convert 22 9 sv).run Try.prog w = .ok (.string ⟨bs.toArray⟩) w := by
    rw [hsv]
    cases ao with
    | none =>
      obtain ⟨rfl, rfl⟩ := hno rfl
      exact run_convert_bytes_nil w _ 5 Try.underlying22 Try.underlying5 0 0 _ Try.underlying9
    | some a =>
      refine run_convert_bytes_back w _ _ 5 a cap bs Try.underlying22 Try.underlying5 Try.underlying9 fun j hj => ?_
      obtain ⟨g, off, e, hc⟩ := hcc j hj
      cases e
      rw [Addr.add_lit]
      exact hc
  have e1 : (execOp a.eval o).run Try.prog w = .ok (.value (.string ⟨bs.toArray⟩)) w := by
    unfold execOp
    simp only [ho, hx]
    rw [Sem.run_bind, h1]
    rfl
  unfold Oper.wp
  rw [e1, Oper.upon_value]
  exact hK _ _ h
theorem PbkdfUnlike_A (bs : List UInt8) (sv : Value) (s : ByteArray) (a b : Int) (w : World) (hm : bs.length ≤ maxLen) (hk : 40 < bs.length) (hb : RowB w sv bs) : Calls Try.prog 3 #[sv, .string s, .int .u8 a, .int .u8 b] w fun e w' => e = .returned (.bool true) ∧ Below w.heap.size w w' := by
  obtain ⟨ao, cap, rfl, _, _⟩ := hb
  unfold maxLen at hm
  have h1 : (40 : Int) < (bs.length : Int) := by omega
  go_enter Try.func3, Try.ntmps3
  go_wp2_with (go_at_call 6; refine (awake18_c _).mono ?_; rintro e w1 ⟨rfl, HB0⟩)
  exact bodyPost_ret (v := .bool true) (by simp [results, Try.results3, go_sem]) rfl ⟨rfl, HB0⟩
theorem PbkdfUnlike_B (sv : Value) (s : ByteArray) (a b : Int) (w : World) (hb : RowB w sv []) : Calls Try.prog 3 #[sv, .string s, .int .u8 a, .int .u8 b] w fun e w' => e = .returned (.bool true) ∧ Below w.heap.size w w' := by
  obtain ⟨ao, cap, rfl, _, _⟩ := hb
  go_enter Try.func3, Try.ntmps3
  go_wp2_with (go_at_call 6; refine (awake18_c _).mono ?_; rintro e w1 ⟨rfl, HB0⟩)
  exact bodyPost_ret (v := .bool true) (by simp [results, Try.results3, go_sem]) rfl ⟨rfl, HB0⟩
theorem PbkdfUnlike_C (bs : List UInt8) (sv : Value) (s : ByteArray) (a b : Int) (w : World) (hm : s.size ≤ maxLen) (hk : bs.length ≤ 40) (hp : 0 < bs.length) (hs : 20 < s.size) (hb : RowB w sv bs) : Calls Try.prog 3 #[sv, .string s, .int .u8 a, .int .u8 b] w fun e w' => e = .returned (.bool true) ∧ Below w.heap.size w w' := by
  obtain ⟨ao, cap, rfl, _, _⟩ := hb
  unfold maxLen at hm
  have h1 : ¬ (40 : Int) < (bs.length : Int) := by omega
  have h3 : ((bs.length : Int) == 0) = false := beq_eq_false_iff_ne.mpr (by omega)
  have h2 : (20 : Int) < (s.size : Int) := by omega
  go_enter Try.func3, Try.ntmps3
  go_wp2_with (go_at_call 6; refine (awake18_c _).mono ?_; rintro e w1 ⟨rfl, HB0⟩)
  all_goals exact bodyPost_ret (v := .bool true) (by simp [results, Try.results3, go_sem]) rfl ⟨rfl, HB0⟩
set_option maxHeartbeats 8000000 in
theorem PbkdfUnlike_c (bs : List UInt8) (sv : Value) (s : ByteArray) (q t : Nat) (hq : q < 256) (ht : t < 256) (w : World) (hs : s.size ≤ 20) (hk : bs.length ≤ 40) (hp : 0 < bs.length) (hb : RowB w sv bs) : Calls Try.prog 3 #[sv, .string s, .int .u8 (q : Int), .int .u8 (t : Int)] w fun e w' => e = .returned (.bool true) ∧ Below w.heap.size w w' := by
  obtain ⟨m, hmq⟩ : ∃ m, m = q % 6 := ⟨_, rfl⟩
  have hm6 : m < 6 := by omega
  obtain ⟨i, hi⟩ : ∃ i, i = t % bs.length := ⟨_, rfl⟩
  have hil : i < bs.length := by rw [hi]; exact Nat.mod_lt _ hp
  have ei : (t : Int) % (bs.length : Int) = (i : Int) := by rw [hi]; exact (Int.natCast_emod t bs.length).symm
  obtain ⟨c, hc⟩ : ∃ c : UInt8, c = UInt8.ofNat (1 + t / 16) := ⟨_, rfl⟩
  have hcn : (c.toNat : Int) = 1 + (t : Int) / 16 := by rw [hc, UInt8.toNat_ofNat']; omega
  obtain ⟨ob, hob⟩ : ∃ ob, ob = bs.set i (bs.getD i 0 ^^^ c) := ⟨_, rfl⟩
  have hol : ob.length = bs.length := by rw [hob, List.length_set]
  obtain ⟨n, hn⟩ : ∃ n, n = (m : Int) + 1 := ⟨_, rfl⟩
  have en : 1 + (q : Int) % 6 = n := by omega
  have hsl : s.data.toList.length ≤ 100 := by rw [Array.length_toList]; show s.size ≤ 100; omega
  have hPa := fun w => pPlain_c ⟨bs.toArray⟩ s (show bs.toArray.size ≤ 100000 by simp; omega) (by omega) m (by omega) w
  have hPb := fun w => pPlain_c ⟨ob.toArray⟩ s (show ob.toArray.size ≤ 100000 by simp; omega) (by omega) m (by omega) w
  have hPc := fun w => pPlain_c ⟨bs.toArray⟩ s (show bs.toArray.size ≤ 100000 by simp; omega) (by omega) (m + 1) (by omega) w
  have fa : pbText ⟨bs.toArray⟩ s m = ⟨(refBytes (outAt (keyB bs) s.data.toList m)).toArray⟩ := rfl
  have fb : pbText ⟨ob.toArray⟩ s m = ⟨(refBytes (outAt (keyB ob) s.data.toList m)).toArray⟩ := rfl
  have fc : pbText ⟨bs.toArray⟩ s (m + 1) = ⟨(refBytes (outAt (keyB bs) s.data.toList (m + 1))).toArray⟩ := rfl
  have en1 : ((m + 1 : Nat) : Int) + 1 = n + 1 := by omega
  have hRa := fun kv tv (w1 : World) h1 h2 => rPb_c bs s.data.toList kv tv m (by omega) w1 (by omega) (by omega) h1 h2
  have hRb := fun kv tv (w1 : World) h1 h2 => rPb_c ob s.data.toList kv tv m (by omega) w1 (by omega) (by omega) h1 h2
  have hRc := fun kv tv (w1 : World) h1 h2 => rPb_c bs s.data.toList kv tv (m + 1) (by omega) w1 (by omega) (by omega) h1 h2
  rw [fa, ← hn] at hPa
  rw [fb, ← hn] at hPb
  rw [fc, en1] at hPc
  rw [← hn] at hRa hRb
  rw [en1] at hRc
  clear fa fb fc en1
  have LA := Lib.hid (outAt_length (keyB bs) s.data.toList m)
  have LB := Lib.hid (outAt_length (keyB ob) s.data.toList m)
  have LC := Lib.hid (outAt_length (keyB bs) s.data.toList (m + 1))
  generalize outAt (keyB bs) s.data.toList m = A at hPa hRa LA
  generalize outAt (keyB ob) s.data.toList m = B at hPb hRb LB
  generalize outAt (keyB bs) s.data.toList (m + 1) = C at hPc hRc LC
  have hBa := fun w => rBytes_c A LA.out w
  have hBb := fun w => rBytes_c B LB.out w
  have hBc := fun w => rBytes_c C LC.out w
  have RA := Lib.hid (refBytes_length A LA.out)
  have RB := Lib.hid (refBytes_length B LB.out)
  have RC := Lib.hid (refBytes_length C LC.out)
  generalize refBytes A = ra at hPa hBa RA
  generalize refBytes B = rb at hPb hBb RB
  generalize refBytes C = rc at hPc hBc RC
  have hb0 := hb
  obtain ⟨ao, cap, rfl, hno, hcc⟩ := hb
  have h1 : ¬ (40 : Int) < (bs.length : Int) := by omega
  have h3 : ((bs.length : Int) == 0) = false := beq_eq_false_iff_ne.mpr (by omega)
  have h4 : ¬ (bs.length : Int) = 0 := by omega
  have h2 : ¬ (20 : Int) < (s.size : Int) := by omega
  have hnb : n ≤ 6 := by omega
  have hnb1 : 1 ≤ n := by omega
  clear hmq hm6 hn hsl hcc hno
  have hin := Lib.hid hi.symm
  clear hi
  replace hc := Lib.hid hc
  replace hob := Lib.hid hob
  replace hol := Lib.hid hol
  replace hcn := Lib.hid hcn
  go_enter Try.func3, Try.ntmps3
  go_upto_region 6 with (go_at_call 6; refine (awake18_c _).mono ?_; rintro e w1 ⟨rfl, HB⟩)
  go_upto_region 7 with (refine wpList_app_rowB rfl _ _ rfl w.heap.size (.slice (some ⟨w1.heap.size, 0, none⟩) 0 0) (.slice ao bs.length cap) 0 [] bs rfl (empty_owns w1 _ _ HB.size) rfl (RowB.grow hb0 (bl_alloc HB _)) (by omega) (bl_alloc HB _).size ?_; intro sv3 w3 hO3 hg3 _)
  replace HB : Below w.heap.size w w3 := (bl_alloc HB _).grown hg3 (bl_alloc HB _).size (fun g hg => (by cases hg; exact HB.size))
  rcases hO3.2 with ⟨_, z⟩ | ⟨g3, cap3, cur3, rfl, hg4, k3, _, _, _, t3⟩
  · omega
  have t4 : cur3.toList.take bs.length = bs.map bv := by simpa using t3
  have hci : cur3[i]? = some (bv (bs.getD i 0)) := by
    have e := congrArg (fun l => l[i]?) t4
    simp only [List.getElem?_take, if_pos hil, List.getElem?_map, Array.getElem?_toList] at e
    rw [e]
    simp [hil]
  have hx := xor_u8 (bs.getD i 0) c
  have t5 : (cur3.setIfInBounds i (bv (bs.getD i 0 ^^^ c))).toList.take ob.length = ob.map bv := by
    rw [hol.out, Array.toList_setIfInBounds, List.take_set, t4, hob.out, List.map_set]
  have ec : 1 + (t : Int) / 16 = (c.toNat : Int) := hcn.out.symm
  have bi : (i : Int) < (bs.length : Int) := by omega
  have pi : (0 : Int) ≤ (i : Int) := by omega
  have hv : (bs.getD i 0).toNat < 256 := (bs.getD i 0).toNat_lt
  have hcl : c.toNat < 256 := c.toNat_lt
  have c3 : w3.cell? ⟨g3, i, none⟩ = some (.int .u8 ((bs.getD i 0).toNat : Int)) := by rw [blk_cell k3]; exact hci
  have f3 := blk_frozen k3 i
  have hb4 : bv (bs.getD i 0 ^^^ c) = .int .u8 ((bs.getD i 0 ^^^ c).toNat : Int) := rfl
  rw [hb4] at t5
  clear hO3 hg3 t3 t4 hci hb4 hcn hob hc
  generalize (bs.getD i 0).toNat = v at hx hv c3
  generalize (bs.getD i 0 ^^^ c).toNat = v2 at hx t5
  generalize c.toNat = cn at hx hcl ec
  replace t5 := Lib.hid t5
  have pl0 : (0 : Int) < (bs.length : Int) := by omega
  have ein : t % bs.length = i := hin.out
  go_upto_region 8 with (fail)
  refine gen_world fun W hW => ?_
  have k3' : W.heap[g3]? = some (.cells (cur3.setIfInBounds i (.int .u8 (v2 : Int))) 5 (0, 0)) := by subst hW; exact blk_set k3 i _
  replace HB : Below w.heap.size w W := by subst hW; exact bl_set _ _ (by simpa using hg4) HB
  have ro : RowB W (.slice (some ⟨g3, 0, none⟩) bs.length cap3) ob := by
    rw [← hol.out]
    exact RowB.block k3' t5.out
  have rk := RowB.grow hb0 HB
  clear hW k3 k3' c3 f3 hx ec ein ei hv hcl
  have e1 : IntKind.i64.wrap (n + 1) = n + 1 := IntWalk.i64_in _ (by omega)
  refine wp_region_R 16 [0, 1, 9, 10] (by kernel_rfl) (by kernel_rfl) (by kernel_rfl) (by kernel_rfl) ?_
  intro K_ ops_ hops_ hK
  replace hops_ := Lib.hid hops_
  apply Exists.intro
  intro R_ hb_
  simp only [↓baseR, ↓nthR_succ, ↓nthR_zero] at hb_
  simp only [List.take_succ_cons, List.take_zero, List.drop_succ_cons, List.drop_zero]
  repeat (first
    
    
    | (apply LexR_callF (f := 7) (by rfl) (by rfl) (by rfl) Try.func7 (by kernel_rfl) (by kernel_rfl) (fun _ => ?_) (fun w1 hw1 hd1 => ?_) (fun _ hr_ => ?_); rotate_right 3; (go_simp; first | done | rfl); (with_reducible exact (hPa w1))) | (apply LexR_callF (f := 7) (by rfl) (by rfl) (by rfl) Try.func7 (by kernel_rfl) (by kernel_rfl) (fun _ => ?_) (fun w1 hw1 hd1 => ?_) (fun _ hr_ => ?_); rotate_right 3; (go_simp; first | done | rfl); (with_reducible exact (hPb w1))) | (apply LexR_callF (f := 7) (by rfl) (by rfl) (by rfl) Try.func7 (by kernel_rfl) (by kernel_rfl) (fun _ => ?_) (fun w1 hw1 hd1 => ?_) (fun _ hr_ => ?_); rotate_right 3; (go_simp; first | done | rfl); (with_reducible exact (hPc w1))) | (apply LexR_det (by rfl) (by rfl) ((by rfl)) (fun w1 hw1 hd1 => ?_) (fun _ hr_ => ?_); rotate_right 2; (refine run_conv_rowBR rfl ?_ (RowB.grow rk hw1); (focus (go_simp; done)))) | (apply LexR_det (by rfl) (by rfl) ((by rfl)) (fun w1 hw1 hd1 => ?_) (fun _ hr_ => ?_); rotate_right 2; (refine run_conv_rowBR rfl ?_ (RowB.grow ro hw1); (focus (go_simp; done))))
    | (apply LexR_det (by rfl) (by rfl) (by rfl) (fun w1 hw1 hd1 => ?_) (fun _ hr_ => ?_); rotate_right 2; (go_simp; first | done | rfl ))
    | (apply LexR_box (by rfl) (by rfl) (by rfl) (fun w1 hw1 hd1 => ?_) (fun _ hr_ => ?_); rotate_right 2; (go_simp; first | done | rfl))
    | (apply LexR_bs (t := 34) (e := 37) (z := .agg #[.int .u32 0]) (ho := rfl) (by rfl) (by rfl) Try.underlying34 (by kernel_rfl) (by decide) (by decide) (fun _ => ?_) (fun _ => ?_) (fun _ => ?_) (fun _ hr_ => ?_); rotate_right 4; (go_simp; rfl); (exact ⟨rfl, rfl, rfl⟩); (simp only [List.map_cons, List.map_nil, List.flatMap_cons, List.flatMap_nil, Value.cells, List.cons_append, List.nil_append, List.append_nil]; rfl)))
  apply LexR_end
  refine hK _ _ ?_
  clear hK K_
  repeat clear hr_
  clear hb_ R_ hops_ ops_
  intro w1 hw1 hf1
  apply tailR (fun _ => ?_) (fun _ => ?_) ?_
  rotate_right 2
  · simp only [putAll, Act.put, List.setIfInBounds_toArray, List.set_cons_succ, List.set_cons_zero]; first | done | rfl
  · simp only [List.drop_succ_cons, List.drop_zero]; first | done | rfl
  simp [allFacts, contOf, Exp.putAt, Exp.fact, Exp.fresh, Exp.blk] at hf1
  clear hf1 hPa hPb hPc e1
  replace HB := bl_call hw1 HB
  replace ro := RowB.grow ro hw1
  replace rk := RowB.grow rk hw1
  clear hw1
  go_upto_region 9 with (fail)
  have e32 : ∀ (l : List UInt8), l.length = 32 → ∀ (g cap : Nat) (cur : Array Value) (w : World), w.heap[g]? = some (.cells cur 5 (0, 0)) → cur.toList.take 32 = l.map bv → RowB w (.slice (some ⟨g, 0, none⟩) 32 cap) l := fun l hl g cap cur w h1 h2 => by
    have := RowB.block (bs := l) (cap := cap) h1 (by rw [hl]; exact h2)
    rwa [hl] at this
  go_upto_region 10 with (first | (refine wpList_convSB rfl rfl rfl Try.underlying9 Try.underlying22 Try.underlying5 ?_; intro cap6 w6 hr6 hw6 hs6) | (go_at_call 9; refine (hRa _ _ _ (RowB.grow rk hw6) hr6).mono ?_; rintro e w7 ⟨rfl, hw7⟩) | (go_at_call 8; refine (hBa _).mono ?_; rintro e w8 ⟨g8, cap8, cur8, rfl, _, _, k8, t8, hw8⟩; have r8 := e32 _ RA.out _ cap8 _ _ k8 t8) | (refine wpList_convBS rfl rfl rfl r8 ?_))
  have hq1 := bl_call hw8 (bl_call hw7 hw6)
  replace HB := bl_call hq1 HB
  replace ro := RowB.grow ro hq1
  replace rk := RowB.grow rk hq1
  clear hq1 hw6 hw7 hw8 hr6 hs6 k8 t8 r8 hRa hBa
  go_upto_region 11 with (first | (refine wpList_convSB rfl rfl rfl Try.underlying9 Try.underlying22 Try.underlying5 ?_; intro cap6 w6 hr6 hw6 hs6) | (go_at_call 9; refine (hRb _ _ _ (RowB.grow ro hw6) hr6).mono ?_; rintro e w7 ⟨rfl, hw7⟩) | (go_at_call 8; refine (hBb _).mono ?_; rintro e w8 ⟨g8, cap8, cur8, rfl, _, _, k8, t8, hw8⟩; have r8 := e32 _ RB.out _ cap8 _ _ k8 t8) | (refine wpList_convBS rfl rfl rfl r8 ?_))
  have hq1 := bl_call hw8 (bl_call hw7 hw6)
  replace HB := bl_call hq1 HB
  replace rk := RowB.grow rk hq1
  clear hq1 hw6 hw7 hw8 hr6 hs6 k8 t8 r8 hRb hBb ro
  go_upto_region 12 with (first | (refine wpList_convSB rfl rfl rfl Try.underlying9 Try.underlying22 Try.underlying5 ?_; intro cap6 w6 hr6 hw6 hs6) | (go_at_call 9; refine (hRc _ _ _ (RowB.grow rk hw6) hr6).mono ?_; rintro e w7 ⟨rfl, hw7⟩) | (go_at_call 8; refine (hBc _).mono ?_; rintro e w8 ⟨g8, cap8, cur8, rfl, _, _, k8, t8, hw8⟩; have r8 := e32 _ RC.out _ cap8 _ _ k8 t8) | (refine wpList_convBS rfl rfl rfl r8 ?_))
  have hq1 := bl_call hw8 (bl_call hw7 hw6)
  replace HB := bl_call hq1 HB
  clear hq1 hw6 hw7 hw8 hr6 hs6 k8 t8 r8 hRc hBc rk e32
  have sa := RA.out
  have sb := RB.out
  have sc := RC.out
  go_wp2
  exact bodyPost_ret (v := .bool true) (by simp [results, Try.results3, go_sem]) rfl ⟨rfl, HB⟩
theorem PbkdfUnlike_all (bs : List UInt8) (sv : Value) (s : ByteArray) (a b : Int) (w : World) (hm : bs.length ≤ maxLen) (hs : s.size ≤ maxLen) (hb : RowB w sv bs) (ha : (Lit.int .u8 a).wf = true) (hb2 : (Lit.int .u8 b).wf = true) : Calls Try.prog 3 #[sv, .string s, .int .u8 a, .int .u8 b] w fun e w' => e = .returned (.bool true) ∧ Below w.heap.size w w' := by
  by_cases h1 : bs.length ≤ 40
  · by_cases h0 : 0 < bs.length
    · by_cases h2 : s.size ≤ 20
      · have b1 := Go.bounds_u8 ha
        have b2 := Go.bounds_u8 hb2
        obtain ⟨q, rfl⟩ : ∃ q : Nat, a = (q : Int) := ⟨a.toNat, by omega⟩
        obtain ⟨t, rfl⟩ : ∃ t : Nat, b = (t : Int) := ⟨b.toNat, by omega⟩
        exact PbkdfUnlike_c bs sv s q t (by omega) (by omega) w h2 h1 h0 hb
      · exact PbkdfUnlike_C bs sv s a b w hs h1 h0 (by omega) hb
    · obtain rfl : bs = [] := List.eq_nil_of_length_eq_zero (by omega)
      exact PbkdfUnlike_B sv s a b w hb
  · exact PbkdfUnlike_A bs sv s a b w hm (by omega) hb
end Go.Proofs.Yteaaaekffnfmhab

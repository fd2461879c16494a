/- Texts xor'ed: the contracts of scram.Xor and of the reference's Xor (as in Sk, Sr, for seats without scram's keys). -/
import Derived.Test.YthnackakgglhbaaGreatL17b
import Derived.Deep.RegionWith
namespace Go.Proofs.YthnackakgglhbaaGreat
open Go.RowKit Go.Lib
set_option maxRecDepth 100000
set_option linter.unusedSimpArgs false
set_option linter.unusedVariables false
attribute [local go_sem] evR_tmp evR_const evR_global evR_func
theorem RowB.hi {w : World} {ao : Option Addr} {cap : Nat} {bs : List UInt8} (h : RowB w (.slice ao bs.length cap) bs) (m : Nat) (hm : m ≤ bs.length) : RowB w (.slice ao m cap) (bs.take m) := by
  obtain ⟨ao', cap', h1, h2, h3⟩ := h
  cases h1
  refine ⟨ao, cap, by rw [List.length_take, Nat.min_eq_left hm], fun z => ?_, fun k hk => ?_⟩
  · obtain ⟨hb, hc⟩ := h2 z
    exact ⟨by rw [hb]; simp, hc⟩
  · have hk' : k < bs.length := by rw [List.length_take] at hk; omega
    obtain ⟨g, off, rfl, hc⟩ := h3 k hk'
    exact ⟨g, off, rfl, by rw [List.getElem_take]; exact hc⟩
/-- Bytes as words. -/
theorem RowB.owns {w : World} {base n : Nat} {sv : Value} {bs : List UInt8} (hn : n = bs.length) (h : w.ownsRow base 5 1 sv n (bs.map bv)) : RowB w sv bs := by
  subst hn
  rcases h.2 with ⟨rfl, q⟩ | ⟨g, cap, cur, rfl, _, hk, _, _, _, ht⟩
  · obtain rfl := List.eq_nil_of_length_eq_zero q
    exact RowB.nil w
  · rw [Nat.mul_one] at ht
    exact RowB.block hk ht
def xorB (a b : List UInt8) : List UInt8 := List.zipWith (· ^^^ ·) a b
theorem bc_zeros (n : Nat) : bc (padZ n []) = Array.replicate n (.int .u8 0) := by
  apply Array.ext'
  simp [bc, padZ, bv]
theorem xorB_length (a b : List UInt8) : (xorB a b).length = min a.length b.length := by simp [xorB]
theorem xorB_at (a b : List UInt8) (k : Nat) (h : k < (xorB a b).length) : (xorB a b)[k] = a[k]'(by rw [xorB_length] at h; omega) ^^^ b[k]'(by rw [xorB_length] at h; omega) := by simp [xorB]
/-- A byte of two texts, xor'ed. -/
theorem xorS_at (a b : ByteArray) (k : Nat) (h1 : k < a.size) (h2 : k < b.size) : bits .xor .u8 ((a[k].toNat : Nat) : Int) ((b[k].toNat : Nat) : Int) = (((xorB a.data.toList b.data.toList).getD k 0).toNat : Int) := by
  rw [xor_u8]
  have e1 : a.data.toList[k]'(by rw [Array.length_toList]; exact h1) = a[k] := by simp; rfl
  have e2 : b.data.toList[k]'(by rw [Array.length_toList]; exact h2) = b[k] := by simp; rfl
  have hl : k < (xorB a.data.toList b.data.toList).length := by rw [xorB_length, Array.length_toList, Array.length_toList]; exact Nat.lt_min.2 ⟨h1, h2⟩
  rw [List.getD_eq_getElem?_getD, List.getElem?_eq_getElem hl, xorB_at, e1, e2]
  rfl
theorem wpList_convBS {ops : Array Oper} {rest : List Oper} {o : Oper} {a : Act} {w : World} {Q : Exit → Act → World → Prop} {x : Operand} {sv : Value} {bs : List UInt8} (hg : o.guard = none) (ho : o.op = .convert 36 9 x) (hx : a.eval x = sv) (hr : RowB w sv bs)
    (h : wpList Tryz.prog ops Q rest (a.put o.dst (.string ⟨bs.toArray⟩)) w) : wpList Tryz.prog ops Q (o :: rest) a w := by
  refine wpList_plain hg fun K hK => ?_
  obtain ⟨ao, cap, hsv, hno, hcc⟩ := hr
  have h1 : (convert 36 9 sv).run Tryz.prog w = .ok (.string ⟨bs.toArray⟩) w := by
    rw [hsv]
    cases ao with
    | none =>
      obtain ⟨rfl, rfl⟩ := hno rfl
      exact run_convert_bytes_nil w _ 5 Tryz.underlying36 Tryz.underlying5 0 0 _ Tryz.underlying9
    | some a =>
      refine run_convert_bytes_back w _ _ 5 a cap bs Tryz.underlying36 Tryz.underlying5 Tryz.underlying9 fun j hj => ?_
      obtain ⟨g, off, e, hc⟩ := hcc j hj
      cases e
      rw [Addr.add_lit]
      exact hc
  have e1 : (execOp a.eval o).run Tryz.prog w = .ok (.value (.string ⟨bs.toArray⟩)) w := by
    unfold execOp
    simp only [ho, hx]
    rw [Sem.run_bind, h1]
    rfl
  unfold Oper.wp
  rw [e1, Oper.upon_value]
  exact hK _ _ h
set_option maxHeartbeats 4000000 in
theorem sXor_c (a b : ByteArray) (ha : a.size ≤ 500000) (hb : b.size ≤ 500000) (w : World) : Calls Tryz.prog 32 #[.string a, .string b] w fun e w' => e = .returned (.string ⟨(xorB a.data.toList b.data.toList).toArray⟩) ∧ Below w.heap.size w w' := by
  have hxa := xorS_at a b
  have hlen : (xorB a.data.toList b.data.toList).length = min a.size b.size := by rw [xorB_length, Array.length_toList, Array.length_toList]; rfl
  generalize xorB a.data.toList b.data.toList = X at hxa hlen ⊢
  obtain ⟨n, hn⟩ : ∃ n, n = min a.size b.size := ⟨_, rfl⟩
  rw [← hn] at hlen
  have hna : n ≤ a.size := by omega
  have hnb : n ≤ b.size := by omega
  have hmn : (if (a.size : Int) < (b.size : Int) then (a.size : Int) else (b.size : Int)) = (n : Int) := by split <;> omega
  have hn5 : n ≤ 1000000 := by omega
  replace hn := Lib.hid hn
  replace hlen := Lib.hid hlen
  have h64 : (n : Int) ≤ 1000000 := by omega
  rcases Nat.lt_or_ge b.size a.size with hlt | hge
  focus
    have q1 : (b.size : Int) < (a.size : Int) := by omega
    have q2 : ¬ (a.size : Int) ≤ (b.size : Int) := by omega
    have q3 : ¬ (a.size : Int) < (b.size : Int) := by omega
    have q4 : (b.size : Int) ≤ (a.size : Int) := by omega
    have q5 : b.size = n := by have := hn.out; omega
    go_enter Tryz.func32, Tryz.ntmps32
    go_upto_region 1 with (fail)
    go_upto_region 2 with (refine wpList_makeN rfl _ _ 36 rfl 5 (.int .u8 0) (.int .u8 0) 1 Tryz.underlying36 (by kernel_rfl) rfl (by omega) _ n rfl rfl rfl (by omega) ?_)
    clear q1 q2 q3 q4 q5 hlt
  rotate_left
  focus
    have q1 : ¬ (b.size : Int) < (a.size : Int) := by omega
    have q2 : (a.size : Int) ≤ (b.size : Int) := by omega
    have q5 : a.size = n := by have := hn.out; omega
    go_enter Tryz.func32, Tryz.ntmps32
    go_upto_region 1 with (fail)
    go_upto_region 2 with (refine wpList_makeN rfl _ _ 36 rfl 5 (.int .u8 0) (.int .u8 0) 1 Tryz.underlying36 (by kernel_rfl) rfl (by omega) _ n rfl rfl rfl (by omega) ?_)
    clear q1 q2 q5 hge
  rotate_left
  all_goals
    refine gen_world fun W hW => ?_
    have k7 : W.heap[w.heap.size]? = some (.cells (bc (padZ n (X.take 0))) 5 (0, 0)) := by subst hW; rw [List.take_zero, bc_zeros]; exact blk_new _ _
    have HB : Below w.heap.size w W := by subst hW; (repeat (first | exact Below.refl _ _ | (refine bl_alloc ?_ _) | (refine bl_drewN ?_ _) | (refine bl_drew ?_) | (refine bl_call (by assumption) ?_) | (refine bl_set _ _ (by simp <;> omega) ?_) | assumption))
    clear hW hmn
    go_wp2_with fail
    have HB0 := HB
    have k70 := k7
    clear HB k7
    go_loopw [15] (fun i wr => ∃ m : Nat, m ≤ n ∧ i = .int .i64 (m : Int) ∧ Below w.heap.size w wr ∧ wr.heap[w.heap.size]? = some (.cells (bc (padZ n (X.take m))) 5 (0, 0))) (fun i _ => n - (intOf i).toNat)
    case atStart => exact ⟨0, by omega, rfl, HB0, k70⟩
    case round =>
      clear HB0 k70
      obtain ⟨m, hm2, rfl, HB, k7⟩ := hrel
      have pn : (0 : Int) ≤ (m : Int) := by omega
      by_cases hlt : m < n
      · have hlt' : (m : Int) < (n : Int) := by omega
        have ham : m < a.size := by omega
        have hbm : m < b.size := by omega
        have hx := hxa m ham hbm
        clear hxa
        have hs := padZ_set n X hlen.out m hlt
        replace hs := Lib.hid hs
        generalize X.getD m 0 = y at hx hs
        go_upto_region 5 with (fail)
        refine wp_region_R 10 [0, 1, 5, 6] (by kernel_rfl) (by kernel_rfl) (by kernel_rfl) (by kernel_rfl) ?_
        intro K_ ops_ hops_ hK
        replace hops_ := Lib.hid hops_
        apply Exists.intro
        intro R_ hb_
        simp only [↓baseR, ↓nthR_succ, ↓nthR_zero] at hb_
        simp only [List.take_succ_cons, List.take_zero, List.drop_succ_cons, List.drop_zero]
        repeat (first
          
          
          
          | (apply LexR_det (by rfl) (by rfl) (by rfl) (fun w1 hw1 hd1 => ?_) (fun _ hr_ => ?_); rotate_right 2; (go_simp; first | done | rfl ))
          | (apply LexR_box (by rfl) (by rfl) (by rfl) (fun w1 hw1 hd1 => ?_) (fun _ hr_ => ?_); rotate_right 2; (go_simp; first | done | rfl))
          | (apply LexR_bs (t := 76) (e := 80) (z := .agg #[.int .u32 0]) (ho := rfl) (by rfl) (by rfl) Tryz.underlying76 (by kernel_rfl) (by decide) (by decide) (fun _ => ?_) (fun _ => ?_) (fun _ => ?_) (fun _ hr_ => ?_); rotate_right 4; (go_simp; rfl); (exact ⟨rfl, rfl, rfl⟩); (simp only [List.map_cons, List.map_nil, List.flatMap_cons, List.flatMap_nil, Value.cells, List.cons_append, List.nil_append, List.append_nil]; rfl)))
        apply LexR_end
        refine hK _ _ ?_
        clear hK K_
        repeat clear hr_
        clear hb_ R_ hops_ ops_
        intro w1 hw1 hf1
        apply tailR (fun _ => ?_) (fun _ => ?_) ?_
        rotate_right 2
        · simp only [putAll, Act.put, List.setIfInBounds_toArray, List.set_cons_succ, List.set_cons_zero]; first | done | rfl
        · simp only [List.drop_succ_cons, List.drop_zero]; first | done | rfl
        simp [allFacts, contOf, Exp.putAt, Exp.fact, Exp.fresh, Exp.blk] at hf1
        clear hf1
        replace k7 := grow_blk hw1 k7
        replace HB := bl_call hw1 HB
        clear hw1
        have c7 := blk_cell k7 m
        rw [bc_at _ _ (by rw [padZ_length _ _ (by simp; omega)]; exact hlt)] at c7
        generalize (padZ n (X.take m))[m]'(by rw [padZ_length _ _ (by simp; omega)]; exact hlt) = old at c7
        have f7 := blk_frozen k7 m
        go_upto_region 6 with (fail)
        try rw [hx]
        refine gen_world fun W2 hW => ?_
        replace HB : Below w.heap.size w W2 := by subst hW; exact bl_set _ _ (by simp) HB
        replace k7 : W2.heap[w.heap.size]? = some (.cells (bc (padZ n (X.take (m + 1)))) 5 (0, 0)) := by
          subst hW
          rw [← hs.out, ← bc_set]
          exact blk_set k7 m _
        clear hW c7 f7 hx
        go_wp2_with fail
        go_roundw
        case measure => simp [intOf] <;> omega
        exact ⟨m + 1, by omega, congrArg (Value.int .i64) (by omega), HB, k7⟩
      · obtain rfl : m = n := by omega
        have hlt' : ¬ (m : Int) < (m : Int) := by omega
        rw [List.take_of_length_le (by rw [hlen.out]; omega), show padZ m X = X by simp [padZ, hlen.out]] at k7
        have hR : RowB wr (.slice (some ⟨w.heap.size, 0, none⟩) m m) X := by
          have := RowB.block (cap := m) (bs := X) k7 (by rw [bc_list, List.take_of_length_le (by rw [List.length_map]; omega)])
          rwa [hlen.out] at this
        go_wp2_with (refine wpList_convBS rfl rfl rfl hR ?_)
        exact bodyPost_ret (v := .string ⟨X.toArray⟩) (by simp [results, Tryz.results32, go_sem]) rfl ⟨rfl, HB⟩
theorem run_convBS {w : World} {sv : Value} {bs : List UInt8} (hr : RowB w sv bs) : (convert 36 9 sv).run Tryz.prog w = .ok (.string ⟨bs.toArray⟩) w := by
  obtain ⟨ao, cap, hsv, hno, hcc⟩ := hr
  rw [hsv]
  cases ao with
  | none =>
    obtain ⟨rfl, rfl⟩ := hno rfl
    exact run_convert_bytes_nil w _ 5 Tryz.underlying36 Tryz.underlying5 0 0 _ Tryz.underlying9
  | some a =>
    refine run_convert_bytes_back w _ _ 5 a cap bs Tryz.underlying36 Tryz.underlying5 Tryz.underlying9 fun j hj => ?_
    obtain ⟨g, off, e, hc⟩ := hcc j hj
    cases e
    rw [Addr.add_lit]
    exact hc
theorem rowOf {w : World} {g n : Nat} {cur : Array Value} {bs : List UInt8} (cap : Nat) (hk : w.heap[g]? = some (.cells cur 5 (0, 0))) (ht : cur.toList.take n = bs.map bv) (hn : bs.length = n) : RowB w (.slice (some ⟨g, 0, none⟩) n cap) bs := by
  subst hn
  exact RowB.block hk ht
theorem take_getD {l : List UInt8} {k : Nat} (h : k < l.length) : l.take (k + 1) = l.take k ++ [l.getD k 0] := by
  rw [List.take_succ_eq_append_getElem h, List.getD_eq_getElem?_getD, List.getElem?_eq_getElem h]; rfl
set_option maxHeartbeats 4000000 in
theorem rXor_c (a b : ByteArray) (ha : a.size ≤ 400000) (hb : b.size ≤ 400000) (w : World) : Calls Tryz.prog 19 #[.string a, .string b] w fun e w' => e = .returned (.string ⟨(xorB a.data.toList b.data.toList).toArray⟩) ∧ Below w.heap.size w w' := by
  have hxa := xorS_at a b
  have hlen : (xorB a.data.toList b.data.toList).length = min a.size b.size := by rw [xorB_length, Array.length_toList, Array.length_toList]; rfl
  generalize xorB a.data.toList b.data.toList = X at hxa hlen ⊢
  obtain ⟨n, hn⟩ : ∃ n, n = min a.size b.size := ⟨_, rfl⟩
  rw [← hn] at hlen
  have hna : n ≤ a.size := by omega
  have hnb : n ≤ b.size := by omega
  replace hn := Lib.hid hn
  replace hlen := Lib.hid hlen
  replace hxa := Lib.hid hxa
  go_enter Tryz.func19, Tryz.ntmps19
  go_wp2_with fail
  have hO0 : w.ownsRow w.heap.size 5 1 (.slice none 0 0) 0 ((X.take 0).map bv) := World.ownsRow_nil _ _ _ _
  go_loopw [6, 5] (fun i sv wr => ∃ k : Nat, k ≤ n ∧ i = .int .i64 (k : Int) ∧ Below w.heap.size w wr ∧ wr.ownsRow w.heap.size 5 1 sv k ((X.take k).map bv)) (fun i _ _ => n - (intOf i).toNat)
  case atStart => exact ⟨0, by omega, rfl, Below.refl _ _, hO0⟩
  case round =>
    clear hO0
    obtain ⟨k, hk, rfl, HB, hO⟩ := hrel
    have pn : (0 : Int) ≤ (k : Int) := by omega
    by_cases hlt : k < n
    · have hlt' : (k : Int) < (n : Int) := by omega
      have h1 : (k : Int) < (a.size : Int) := by omega
      have h2 : (k : Int) < (b.size : Int) := by omega
      have ham : k < a.size := by omega
      have hbm : k < b.size := by omega
      have hx := hxa.out k ham hbm
      have htk := Lib.hid (take_getD (l := X) (k := k) (by rw [hlen.out]; exact hlt))
      generalize X.getD k 0 = y at hx htk
      go_upto_region 5 with fail
      refine wp_region_R 9 [0, 1, 5, 6] (by kernel_rfl) (by kernel_rfl) (by kernel_rfl) (by kernel_rfl) ?_
      intro K_ ops_ hops_ hK
      replace hops_ := Lib.hid hops_
      apply Exists.intro
      intro R_ hb_
      simp only [↓baseR, ↓nthR_succ, ↓nthR_zero] at hb_
      simp only [List.take_succ_cons, List.take_zero, List.drop_succ_cons, List.drop_zero]
      repeat (first
        
        | (apply LexR_bs (t := 36) (e := 5) (z := .int .u8 0) (ho := rfl) (by rfl) (by rfl) Tryz.underlying36 (by kernel_rfl) (by decide) (by decide) (fun _ => ?_) (fun _ => ?_) (fun _ => ?_) (fun _ hr_ => ?_); rotate_right 4; (go_simp; rfl); (exact ⟨rfl, rfl, rfl⟩); (simp only [List.map_cons, List.map_nil, List.flatMap_cons, List.flatMap_nil, Value.cells, List.cons_append, List.nil_append, List.append_nil]; rfl))
        
        | (apply LexR_det (by rfl) (by rfl) (by rfl) (fun w1 hw1 hd1 => ?_) (fun _ hr_ => ?_); rotate_right 2; (go_simp; first | done | rfl ))
        | (apply LexR_box (by rfl) (by rfl) (by rfl) (fun w1 hw1 hd1 => ?_) (fun _ hr_ => ?_); rotate_right 2; (go_simp; first | done | rfl))
        | (apply LexR_bs (t := 76) (e := 80) (z := .agg #[.int .u32 0]) (ho := rfl) (by rfl) (by rfl) Tryz.underlying76 (by kernel_rfl) (by decide) (by decide) (fun _ => ?_) (fun _ => ?_) (fun _ => ?_) (fun _ hr_ => ?_); rotate_right 4; (go_simp; rfl); (exact ⟨rfl, rfl, rfl⟩); (simp only [List.map_cons, List.map_nil, List.flatMap_cons, List.flatMap_nil, Value.cells, List.cons_append, List.nil_append, List.append_nil]; rfl)))
      apply LexR_end
      refine hK _ _ ?_
      clear hK K_
      repeat clear hr_
      clear hb_ R_ hops_ ops_
      intro w1 hw1 hf1
      apply tailR (fun _ => ?_) (fun _ => ?_) ?_
      rotate_right 2
      · simp only [putAll, Act.put, List.setIfInBounds_toArray, List.set_cons_succ, List.set_cons_zero]; first | done | rfl
      · simp only [List.drop_succ_cons, List.drop_zero]; first | done | rfl
      simp [allFacts, contOf, Exp.putAt, Exp.fact, Exp.fresh, Exp.blk] at hf1
      obtain ⟨k29, l29⟩ := hf1
      obtain ⟨g29, e_⟩ := name_blk k29
      subst e_
      have HQ : RowB w1 (.slice (some ⟨g29, 0, none⟩) 1 1) [y] := RowB.of (bs := [y]) (off := 0) fun j hj => by
        have : j = 0 := by simpa using hj
        subst this
        rw [Nat.zero_add, blk_cell k29 0]
        simp [bv]
      replace hO := ownsRow_block hO fun g hg => hw1.block g (ownsRow_lt hO hg).2
      replace HB := bl_call hw1 HB
      clear hw1 l29
      refine wpList_app_rowB rfl _ _ rfl w.heap.size u5 (.slice (some ⟨g29, 0, none⟩) 1 1) k _ [y] rfl hO rfl HQ (by simp; omega) HB.size ?_
      intro sv' w2 hO2 hg2 _
      replace HB := grown_below HB hg2 HB.size fun g hg' => (ownsRow_lt hO hg').1
      replace hO2 : w2.ownsRow w.heap.size 5 1 sv' (k + 1) ((X.take (k + 1)).map bv) := by
        rw [htk.out, List.map_append]
        exact hO2
      clear hg2 hO HQ k29 hx htk
      go_wp2_with fail
      go_roundw
      case measure => simp [intOf] <;> omega
      exact ⟨k + 1, by omega, congrArg (Value.int .i64) (by omega), HB, hO2⟩
    · obtain rfl : k = n := by omega
      rw [List.take_of_length_le (by rw [hlen.out]; omega)] at hO
      have hR : RowB wr u5 X := RowB.owns hlen.out.symm hO
      have hn2 := hn.out
      rcases Nat.lt_or_ge k a.size with h | h
      focus
        have q1 : (k : Int) < (a.size : Int) := by omega
        have q2 : ¬ (k : Int) < (b.size : Int) := by omega
        clear hn2 h
        go_wp2_with (refine wpList_convBS rfl rfl rfl hR ?_)
      rotate_left
      focus
        have q1 : ¬ (k : Int) < (a.size : Int) := by omega
        clear hn2 h
        go_wp2_with (refine wpList_convBS rfl rfl rfl hR ?_)
      all_goals exact bodyPost_ret (v := .string ⟨X.toArray⟩) (by simp [results, Tryz.results19, go_sem]) rfl ⟨rfl, HB⟩
end Go.Proofs.YthnackakgglhbaaGreat

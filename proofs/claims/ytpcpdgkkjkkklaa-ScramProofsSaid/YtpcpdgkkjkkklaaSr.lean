/- Contracts of the scram reference: Keys, Plain, Xor, Proof, Check. -/
import Derived.Test.YtpcpdgkkjkkklaaSq
import Derived.Deep.RegionWith
namespace Go.Proofs.Ytpcpdgkkjkkklaa
open Go.RowKit Go.Lib
set_option maxRecDepth 100000
set_option linter.unusedSimpArgs false
set_option linter.unusedVariables false
attribute [local go_sem] evR_tmp evR_const evR_global evR_func
theorem run_convBS {w : World} {sv : Value} {bs : List UInt8} (hr : RowB w sv bs) : (convert 42 9 sv).run Try.prog w = .ok (.string ⟨bs.toArray⟩) w := by
  obtain ⟨ao, cap, hsv, hno, hcc⟩ := hr
  rw [hsv]
  cases ao with
  | none =>
    obtain ⟨rfl, rfl⟩ := hno rfl
    exact run_convert_bytes_nil w _ 5 Try.underlying42 Try.underlying5 0 0 _ Try.underlying9
  | some a =>
    refine run_convert_bytes_back w _ _ 5 a cap bs Try.underlying42 Try.underlying5 Try.underlying9 fun j hj => ?_
    obtain ⟨g, off, e, hc⟩ := hcc j hj
    cases e
    rw [Addr.add_lit]
    exact hc
theorem rowOf {w : World} {g n : Nat} {cur : Array Value} {bs : List UInt8} (cap : Nat) (hk : w.heap[g]? = some (.cells cur 5 (0, 0))) (ht : cur.toList.take n = bs.map bv) (hn : bs.length = n) : RowB w (.slice (some ⟨g, 0, none⟩) n cap) bs := by
  subst hn
  exact RowB.block hk ht
theorem take_getD {l : List UInt8} {k : Nat} (h : k < l.length) : l.take (k + 1) = l.take k ++ [l.getD k 0] := by
  rw [List.take_succ_eq_append_getElem h, List.getD_eq_getElem?_getD, List.getElem?_eq_getElem h]; rfl
set_option maxHeartbeats 4000000 in
theorem rXor_c (a b : ByteArray) (ha : a.size ≤ 400000) (hb : b.size ≤ 400000) (w : World) : Calls Try.prog 14 #[.string a, .string b] w fun e w' => e = .returned (.string ⟨(xorB a.data.toList b.data.toList).toArray⟩) ∧ Below w.heap.size w w' := by
  have hxa := xorS_at a b
  have hlen : (xorB a.data.toList b.data.toList).length = min a.size b.size := by rw [xorB_length, Array.length_toList, Array.length_toList]; rfl
  generalize xorB a.data.toList b.data.toList = X at hxa hlen ⊢
  obtain ⟨n, hn⟩ : ∃ n, n = min a.size b.size := ⟨_, rfl⟩
  rw [← hn] at hlen
  have hna : n ≤ a.size := by omega
  have hnb : n ≤ b.size := by omega
  replace hn := Lib.hid hn
  replace hlen := Lib.hid hlen
  replace hxa := Lib.hid hxa
  go_enter Try.func14, Try.ntmps14
  go_wp2_with fail
  have hO0 : w.ownsRow w.heap.size 5 1 (.slice none 0 0) 0 ((X.take 0).map bv) := World.ownsRow_nil _ _ _ _
  go_loopw [6, 5] (fun i sv wr => ∃ k : Nat, k ≤ n ∧ i = .int .i64 (k : Int) ∧ Below w.heap.size w wr ∧ wr.ownsRow w.heap.size 5 1 sv k ((X.take k).map bv)) (fun i _ _ => n - (intOf i).toNat)
  case atStart => exact ⟨0, by omega, rfl, Below.refl _ _, hO0⟩
  case round =>
    clear hO0
    obtain ⟨k, hk, rfl, HB, hO⟩ := hrel
    have pn : (0 : Int) ≤ (k : Int) := by omega
    by_cases hlt : k < n
    · have hlt' : (k : Int) < (n : Int) := by omega
      have h1 : (k : Int) < (a.size : Int) := by omega
      have h2 : (k : Int) < (b.size : Int) := by omega
      have ham : k < a.size := by omega
      have hbm : k < b.size := by omega
      have hx := hxa.out k ham hbm
      have htk := Lib.hid (take_getD (l := X) (k := k) (by rw [hlen.out]; exact hlt))
      generalize X.getD k 0 = y at hx htk
      go_upto_region 5 with fail
      refine wp_region_R 9 [0, 1, 5, 6] (by kernel_rfl) (by kernel_rfl) (by kernel_rfl) (by kernel_rfl) ?_
      intro K_ ops_ hops_ hK
      replace hops_ := Lib.hid hops_
      apply Exists.intro
      intro R_ hb_
      simp only [↓baseR, ↓nthR_succ, ↓nthR_zero] at hb_
      simp only [List.take_succ_cons, List.take_zero, List.drop_succ_cons, List.drop_zero]
      repeat (first
        
        | (apply LexR_bs (t := 42) (e := 5) (z := .int .u8 0) (ho := rfl) (by rfl) (by rfl) Try.underlying42 (by kernel_rfl) (by decide) (by decide) (fun _ => ?_) (fun _ => ?_) (fun _ => ?_) (fun _ hr_ => ?_); rotate_right 4; (go_simp; rfl); (exact ⟨rfl, rfl, rfl⟩); (simp only [List.map_cons, List.map_nil, List.flatMap_cons, List.flatMap_nil, Value.cells, List.cons_append, List.nil_append, List.append_nil]; rfl))
        
        | (apply LexR_det (by rfl) (by rfl) (by rfl) (fun w1 hw1 hd1 => ?_) (fun _ hr_ => ?_); rotate_right 2; (go_simp; first | done | rfl ))
        | (apply LexR_box (by rfl) (by rfl) (by rfl) (fun w1 hw1 hd1 => ?_) (fun _ hr_ => ?_); rotate_right 2; (go_simp; first | done | rfl))
        | (apply LexR_bs (t := 60) (e := 36) (z := .agg #[.int .u32 0]) (ho := rfl) (by rfl) (by rfl) Try.underlying60 (by kernel_rfl) (by decide) (by decide) (fun _ => ?_) (fun _ => ?_) (fun _ => ?_) (fun _ hr_ => ?_); rotate_right 4; (go_simp; rfl); (exact ⟨rfl, rfl, rfl⟩); (simp only [List.map_cons, List.map_nil, List.flatMap_cons, List.flatMap_nil, Value.cells, List.cons_append, List.nil_append, List.append_nil]; rfl)))
      apply LexR_end
      refine hK _ _ ?_
      clear hK K_
      repeat clear hr_
      clear hb_ R_ hops_ ops_
      intro w1 hw1 hf1
      apply tailR (fun _ => ?_) (fun _ => ?_) ?_
      rotate_right 2
      · simp only [putAll, Act.put, List.setIfInBounds_toArray, List.set_cons_succ, List.set_cons_zero]; first | done | rfl
      · simp only [List.drop_succ_cons, List.drop_zero]; first | done | rfl
      simp [allFacts, contOf, Exp.putAt, Exp.fact, Exp.fresh, Exp.blk] at hf1
      obtain ⟨k29, l29⟩ := hf1
      obtain ⟨g29, e_⟩ := name_blk k29
      subst e_
      have HQ : RowB w1 (.slice (some ⟨g29, 0, none⟩) 1 1) [y] := RowB.of (bs := [y]) (off := 0) fun j hj => by
        have : j = 0 := by simpa using hj
        subst this
        rw [Nat.zero_add, blk_cell k29 0]
        simp [bv]
      replace hO := ownsRow_block hO fun g hg => hw1.block g (ownsRow_lt hO hg).2
      replace HB := bl_call hw1 HB
      clear hw1 l29
      refine wpList_app_rowB rfl _ _ rfl w.heap.size u5 (.slice (some ⟨g29, 0, none⟩) 1 1) k _ [y] rfl hO rfl HQ (by simp; omega) HB.size ?_
      intro sv' w2 hO2 hg2 _
      replace HB := grown_below HB hg2 HB.size fun g hg' => (ownsRow_lt hO hg').1
      replace hO2 : w2.ownsRow w.heap.size 5 1 sv' (k + 1) ((X.take (k + 1)).map bv) := by
        rw [htk.out, List.map_append]
        exact hO2
      clear hg2 hO HQ k29 hx htk
      go_wp2_with fail
      go_roundw
      case measure => simp [intOf] <;> omega
      exact ⟨k + 1, by omega, congrArg (Value.int .i64) (by omega), HB, hO2⟩
    · obtain rfl : k = n := by omega
      rw [List.take_of_length_le (by rw [hlen.out]; omega)] at hO
      have hR : RowB wr u5 X := RowB.owns hlen.out.symm hO
      have hn2 := hn.out
      rcases Nat.lt_or_ge k a.size with h | h
      focus
        have q1 : (k : Int) < (a.size : Int) := by omega
        have q2 : ¬ (k : Int) < (b.size : Int) := by omega
        clear hn2 h
        go_wp2_with (refine wpList_convBS rfl rfl rfl hR ?_)
      rotate_left
      focus
        have q1 : ¬ (k : Int) < (a.size : Int) := by omega
        clear hn2 h
        go_wp2_with (refine wpList_convBS rfl rfl rfl hR ?_)
      all_goals exact bodyPost_ret (v := .string ⟨X.toArray⟩) (by simp [results, Try.results14, go_sem]) rfl ⟨rfl, HB⟩
set_option maxHeartbeats 4000000 in
theorem rKeys_c (ks : List UInt8) (kv : Value) (w : World) (hk : ks.length ≤ 400000) (hkv : RowB w kv ks) : Calls Try.prog 17 #[kv] w fun e w' => e = .returned (.tuple #[.string (stoB ks), .string (serB ks)]) ∧ Below w.heap.size w w' := by
  have hM1 := fun (w1 : World) (h : Below w.heap.size w w1) => smac_c ks kv ckS w1 hk (by decide) (hkv.grow h)
  have hM2 := fun (w1 : World) (h : Below w.heap.size w w1) => smac_c ks kv skS w1 hk (by decide) (hkv.grow h)
  have L1 : (refBytes (cliW ks)).length = 32 := refBytes_length _ (cliW_length _)
  have L2 : (refBytes (stoW ks)).length = 32 := refBytes_length _ (stoW_length _)
  have L3 : (refBytes (serW ks)).length = 32 := refBytes_length _ (serW_length _)
  have hSm : ∀ (g cap : Nat) (cur : Array Value) (w1 : World), w1.heap[g]? = some (.cells cur 5 (0, 0)) → cur.toList.take 32 = (refBytes (cliW ks)).map bv → Calls Try.prog 30 #[.slice (some ⟨g, 0, none⟩) 32 cap] w1 (OwnRet 5 32 ((refBytes (stoW ks)).map bv) w1) := fun g cap cur w1 h1 h2 => by
    have hR : RowB w1 (.slice (some ⟨g, 0, none⟩) 32 cap) (refBytes (cliW ks)) := by
      have := RowB.block (cap := cap) (bs := refBytes (cliW ks)) h1 (by rw [L1]; exact h2)
      rwa [L1] at this
    exact ssum_c (refBytes (cliW ks)) _ w1 (by omega) hR
  rw [show macw ks ckS.data.toList = cliW ks from rfl] at hM1
  rw [show macw ks skS.data.toList = serW ks from rfl] at hM2
  unfold stoB serB
  generalize refBytes (cliW ks) = b1 at hM1 L1 hSm
  generalize refBytes (stoW ks) = b2 at hSm L2 ⊢
  generalize refBytes (serW ks) = b3 at hM2 L3 ⊢
  unfold ckS at hM1
  unfold skS at hM2
  unfold OwnRet at hM1 hM2 hSm
  replace L1 := Lib.hid L1
  replace L2 := Lib.hid L2
  replace L3 := Lib.hid L3
  go_enter Try.func17, Try.ntmps17
  go_upto_region 1 with fail
  go_region_with (first
    | (go_at_call 29; with_reducible refine (hM1 _ (bl_drew (Below.refl _ _))).mono ?_; rintro e w2 ⟨g2, cap2, cur2, rfl, _, _, k2, t2, hb2⟩)
    | (go_at_call 30; refine (hSm _ _ _ _ k2 t2).mono ?_; rintro e w3 ⟨g3, cap3, cur3, rfl, _, _, k3, t3, hb3⟩; have hR3 := rowOf cap3 k3 t3 L2.out; have hb33 : Below w.heap.size w w3 := bl_call hb3 (bl_call hb2 (bl_drew (Below.refl _ _))); have hcv3 := run_convBS hR3)
    | (go_at_call 29; with_reducible refine (hM2 _ hb33).mono ?_; rintro e w5 ⟨g5, cap5, cur5, rfl, _, _, k5, t5, hb5⟩; have hR5 := rowOf cap5 k5 t5 L3.out; have hcv5 := run_convBS hR5; have hcv6 := run_convBS (hR3.grow hb5)))
  all_goals
    go_wp2
    exact bodyPost_ret (v := .tuple #[.string ⟨b2.toArray⟩, .string ⟨b3.toArray⟩]) (by simp [results, Try.results17, go_sem]) rfl ⟨rfl, bl_call hb5 hb33⟩
end Go.Proofs.Ytpcpdgkkjkkklaa

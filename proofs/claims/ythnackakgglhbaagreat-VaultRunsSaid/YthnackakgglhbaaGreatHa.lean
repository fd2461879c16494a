/- Contract of sha.hash: over any reader that is called for the bytes 0, 1, .., n - 1 in this order. -/
import Derived.Test.YthnackakgglhbaaGreatHs
namespace Go.Proofs.YthnackakgglhbaaGreat
open Go.RowKit
set_option maxRecDepth 100000
set_option linter.unusedSimpArgs false
set_option linter.unusedVariables false
attribute [local go_sem] evR_tmp evR_const evR_global evR_func
theorem Blocks_cN (n : Nat) (hn : n ≤ 1000000) (w : World) : Calls Tryz.prog 101 #[.int .i64 (n : Int)] w fun e w' => e = .returned (.int .i64 (blocksN n : Int)) ∧ w = w' := by
  have e : (n : Int) / 64 + 1 + ((n : Int) % 64 + 8) / 64 = (blocksN n : Int) := by unfold blocksN; omega
  rw [← e]
  exact Blocks_c n w (by omega) (by omega)
theorem conv_kw (b : Nat) (h : b < 4294967296) : (b : Int) % 4294967296 = iw (kw b) := by
  rw [← kw_iw b h]; omega
set_option maxHeartbeats 8000000 in
theorem hash_c {J : Nat → World → (Nat → Prop) → Prop} (fj : Foot J) {F0 : Nat → Prop} {fc : FuncId} {fn : Func} {cap : Array Value} (hf : Tryz.prog.funcs[fc]? = some fn) (hn : (fn.name == "runtime.NumGoroutine") = false) (hb : fn.body.isNone = false)
    (n : Nat) (hn1 : n ≤ 1000000) (len : W32) (bs : Nat → W32)
    (hat : ∀ k W F, k < n → J k W F → Calls Tryz.prog fc (#[.int .i64 (k : Int)] ++ cap) W fun e W' => e = .returned (.agg #[.int .u32 (iw (bs k))]) ∧ Read J k F W W')
    (w : World) (hJ : J 0 w F0) :
    Calls Tryz.prog 90 #[.int .i64 (n : Int), .agg #[.int .u32 (iw len)], .func (.func fc) #[] cap] w fun e w' => e = .returned (.agg (cw (hashw n len bs))) ∧ St J F0 w n w' [] := by
  go_enter Tryz.func90, Tryz.ntmps90
  go_upto_region 1 with (fail)
  refine gen_world fun W hW => ?_
  have k4 : W.heap[w.heap.size]? = some (.cells #[.int .u32 (iw len)] 80 (0, 0)) := by subst hW; (repeat (first | (with_reducible assumption) | ((with_reducible refine blk_new' ?_ _); (simp; done)) | ((with_reducible refine blk_alloc ?_ _)) | ((with_reducible refine blk_far ?_ ?_ _); (simp <;> omega))))
  have k6 : W.heap[w.heap.size + 1]? = some (.cells (Array.replicate 8 (.int .u32 0)) 81 (0, 0)) := by subst hW; exact blk_new' (by simp) _
  have HB : Below w.heap.size w W := by subst hW; (repeat (first | exact Below.refl _ _ | (refine bl_alloc ?_ _) | (refine bl_drewN ?_ _) | (refine bl_drew ?_) | (refine bl_call (by assumption) ?_) | (refine bl_set _ _ (by simp <;> omega) ?_) | assumption))
  clear hW
  have q6 := blk_lt k6
  have S : St J F0 w 0 W [w.heap.size + 1, w.heap.size] := (St.start (w := w) (F0 := F0) hJ).take fj [w.heap.size + 1, w.heap.size] (by simp) HB
  clear HB
  refine wp_region_R 6 [] (by kernel_rfl) (by kernel_rfl) (by kernel_rfl) (by kernel_rfl) ?_
  intro K_ ops_ hops_ hK
  replace hops_ := Lib.hid hops_
  apply Exists.intro
  intro R_ hb_
  simp only [↓baseR, ↓nthR_succ, ↓nthR_zero] at hb_
  simp only [List.take_succ_cons, List.take_zero, List.drop_succ_cons, List.drop_zero]
  repeat (first
    
    | (apply LexR_put (j := 2) (ho := rfl); (go_simp; rfl); (go_simp; rfl); rfl; rfl; (focus (first | decide | (simp; done))); rfl; rfl; kernel_rfl; kernel_rfl; (first | exact cw_one _ | simp [Value.oneCell']); (first | (rw [cw_size, L64.out]; rfl) | (rw [cw_size, L8.out]; rfl) | (rw [cw_size]; rfl) | rfl); intro _) | (apply LexR_put (j := 3) (ho := rfl); (go_simp; rfl); (go_simp; rfl); rfl; rfl; (focus (first | decide | (simp; done))); rfl; rfl; kernel_rfl; kernel_rfl; (first | exact cw_one _ | simp [Value.oneCell']); (first | (rw [cw_size, L64.out]; rfl) | (rw [cw_size, L8.out]; rfl) | (rw [cw_size]; rfl) | rfl); intro _)
    | (apply LexR_callF (f := 98) (by rfl) (by rfl) (by rfl) Tryz.func98 (by kernel_rfl) (by kernel_rfl) (fun _ => ?_) (fun w1 hw1 hd1 => ?_) (fun _ hr_ => ?_); rotate_right 3; (go_simp; first | done | rfl); exact (First_c w1))
    | (apply LexR_det (by rfl) (by rfl) (by rfl) (fun w1 hw1 hd1 => ?_) (fun _ hr_ => ?_); rotate_right 2; (go_simp; first | done | rfl ))
    | (apply LexR_box (by rfl) (by rfl) (by rfl) (fun w1 hw1 hd1 => ?_) (fun _ hr_ => ?_); rotate_right 2; (go_simp; first | done | rfl))
    | (apply LexR_bs (t := 76) (e := 80) (z := .agg #[.int .u32 0]) (ho := rfl) (by rfl) (by rfl) Tryz.underlying76 (by kernel_rfl) (by decide) (by decide) (fun _ => ?_) (fun _ => ?_) (fun _ => ?_) (fun _ hr_ => ?_); rotate_right 4; (go_simp; rfl); (exact ⟨rfl, rfl, rfl⟩); (simp only [List.map_cons, List.map_nil, List.flatMap_cons, List.flatMap_nil, Value.cells, List.cons_append, List.nil_append, List.append_nil]; rfl)))
  apply LexR_end
  refine hK _ _ ?_
  clear hK K_
  repeat clear hr_
  clear hb_ R_ hops_ ops_
  intro w1 hw1 hf1
  apply tailR (fun _ => ?_) (fun _ => ?_) ?_
  rotate_right 2
  · simp only [putAll, Act.put, List.setIfInBounds_toArray, List.set_cons_succ, List.set_cons_zero]; first | done | rfl
  · simp only [List.drop_succ_cons, List.drop_zero]; first | done | rfl
  simp [allFacts, contOf, Exp.putAt, Exp.fact, Exp.fresh, Exp.blk] at hf1
  obtain ⟨k7, l7, n78, k8, l8⟩ := hf1
  replace k4 := grow_blk hw1 k4
  replace k6 := grow_blk hw1 k6
  obtain ⟨g7, e_⟩ := name_blk k7
  subst e_
  obtain ⟨g8, e_⟩ := name_blk k8
  subst e_
  replace k8 : w1.heap[g8]? = some (.cells (cw (List.replicate 8 0#32)) 81 (0, 0)) := k8
  replace S : St J F0 w 0 w1 [g8, g7, w.heap.size + 1, w.heap.size] := S.take fj [g8, g7] (by simp; omega) hw1
  have m7 : w.heap.size + 1 < g7 := by omega
  have m8 : w.heap.size + 1 < g8 := by omega
  have q7 := blk_lt k7
  have q8 := blk_lt k8
  clear hw1 l7 l8 q6
  go_upto_region 2 with (fail)
  refine wp_region_R 6 [4] (by kernel_rfl) (by kernel_rfl) (by kernel_rfl) (by kernel_rfl) ?_
  intro K_ ops_ hops_ hK
  replace hops_ := Lib.hid hops_
  apply Exists.intro
  intro R_ hb_
  simp only [↓baseR, ↓nthR_succ, ↓nthR_zero] at hb_
  simp only [List.take_succ_cons, List.take_zero, List.drop_succ_cons, List.drop_zero]
  repeat (first
    
    | (apply LexR_put (j := 4) (ho := rfl); (go_simp; rfl); (go_simp; rfl); rfl; rfl; (focus (first | decide | (simp; done))); rfl; rfl; kernel_rfl; kernel_rfl; (first | exact cw_one _ | simp [Value.oneCell']); (first | (rw [cw_size, L64.out]; rfl) | (rw [cw_size, L8.out]; rfl) | (rw [cw_size]; rfl) | rfl); intro _)
    | (apply LexR_callF (f := 68) (by rfl) (by rfl) (by rfl) Tryz.func68 (by kernel_rfl) (by kernel_rfl) (fun _ => ?_) (fun w1 hw1 hd1 => ?_) (fun _ hr_ => ?_); rotate_right 3; (go_simp; first | done | rfl); exact (Of_c _ (kw 8) rfl w1)) | (apply LexR_callF (f := 100) (by rfl) (by rfl) (by rfl) Tryz.func100 (by kernel_rfl) (by kernel_rfl) (fun _ => ?_) (fun w1 hw1 hd1 => ?_) (fun _ hr_ => ?_); rotate_right 3; (go_simp; first | done | rfl); exact (Add_c _ _ w1)) | (apply LexR_callF (f := 67) (by rfl) (by rfl) (by rfl) Tryz.func67 (by kernel_rfl) (by kernel_rfl) (fun _ => ?_) (fun w1 hw1 hd1 => ?_) (fun _ hr_ => ?_); rotate_right 3; (go_simp; first | done | rfl); exact (Shr_c _ _ (by omega) (by omega) w1))
    | (apply LexR_det (by rfl) (by rfl) (by rfl) (fun w1 hw1 hd1 => ?_) (fun _ hr_ => ?_); rotate_right 2; (go_simp; first | done | rfl | (rw [blk_cell (grow_blk hw1 k4)]; focus ((try simp); first | done | rfl))))
    | (apply LexR_box (by rfl) (by rfl) (by rfl) (fun w1 hw1 hd1 => ?_) (fun _ hr_ => ?_); rotate_right 2; (go_simp; first | done | rfl))
    | (apply LexR_bs (t := 76) (e := 80) (z := .agg #[.int .u32 0]) (ho := rfl) (by rfl) (by rfl) Tryz.underlying76 (by kernel_rfl) (by decide) (by decide) (fun _ => ?_) (fun _ => ?_) (fun _ => ?_) (fun _ hr_ => ?_); rotate_right 4; (go_simp; rfl); (exact ⟨rfl, rfl, rfl⟩); (simp only [List.map_cons, List.map_nil, List.flatMap_cons, List.flatMap_nil, Value.cells, List.cons_append, List.nil_append, List.append_nil]; rfl)))
  apply LexR_end
  refine hK _ _ ?_
  clear hK K_
  repeat clear hr_
  clear hb_ R_ hops_ ops_
  intro w1 hw1 hf1
  apply tailR (fun _ => ?_) (fun _ => ?_) ?_
  rotate_right 2
  · simp only [putAll, Act.put, List.setIfInBounds_toArray, List.set_cons_succ, List.set_cons_zero]; first | done | rfl
  · simp only [List.drop_succ_cons, List.drop_zero]; first | done | rfl
  simp [allFacts, contOf, Exp.putAt, Exp.fact, Exp.fresh, Exp.blk] at hf1
  obtain ⟨k9, l9⟩ := hf1
  replace k4 := grow_blk hw1 k4
  replace k6 := grow_blk hw1 k6
  replace k7 := grow_blk hw1 k7
  replace k8 := grow_blk hw1 k8
  obtain ⟨g9, e_⟩ := name_blk k9
  subst e_
  replace S : St J F0 w 0 w1 [g9, g8, g7, w.heap.size + 1, w.heap.size] := S.take fj [g9] (by simp; omega) hw1
  have m9 : w.heap.size + 1 < g9 := by omega
  have m79 : g7 < g9 := by omega
  have m89 : g8 < g9 := by omega
  clear hw1 l9 q7 q8
  go_wp2_with (go_at_call 101; refine (Blocks_cN _ hn1 _).mono ?_; rintro e w' ⟨rfl, rfl⟩)
  have hNb : blocksN n * 64 ≤ n + 192 := by unfold blocksN; omega
  have hNn : n ≤ blocksN n * 64 := by unfold blocksN; omega
  obtain ⟨N, hN⟩ : ∃ N, N = blocksN n := ⟨_, rfl⟩
  rw [← hN] at hNb hNn ⊢
  replace hN := Lib.hid hN
  have S0 : St J F0 w (min n (0 * 64)) w1 [g9, g8, g7, w.heap.size + 1, w.heap.size] := by rw [show min n (0 * 64) = 0 by omega]; exact S
  have k40 := k4
  have k60 := k6
  have k70 : w1.heap[g7]? = some (.cells (cw (hashAt n len bs 0).1) 81 (0, 0)) := k7
  have k80 : w1.heap[g8]? = some (.cells (cw (hashAt n len bs 0).2) 81 (0, 0)) := k8
  have k90 := k9
  clear k4 k6 k7 k8 k9 S
  go_loopw [27] (fun i wr => ∃ b : Nat, b ≤ N ∧ i = .int .i64 (b : Int) ∧ St J F0 w (min n (b * 64)) wr [g9, g8, g7, w.heap.size + 1, w.heap.size] ∧ wr.heap[w.heap.size]? = some (.cells #[.int .u32 (iw len)] 80 (0, 0)) ∧
      wr.heap[w.heap.size + 1]? = some (.cells (Array.replicate 8 (.int .u32 0)) 81 (0, 0)) ∧ wr.heap[g7]? = some (.cells (cw (hashAt n len bs b).1) 81 (0, 0)) ∧ wr.heap[g8]? = some (.cells (cw (hashAt n len bs b).2) 81 (0, 0)) ∧
      wr.heap[g9]? = some (.cells #[.int .u32 (iw (shrI (len + kw 8) 6))] 80 (0, 0))) (fun i _ => N - (intOf i).toNat)
  case atStart => exact ⟨0, by omega, rfl, S0, k40, k60, k70, k80, k90⟩
  case round =>
    clear S0 k40 k60 k70 k80 k90
    obtain ⟨b, hb1, rfl, S, k4, k6, k7, k8, k9⟩ := hrel
    have pb : (0 : Int) ≤ (b : Int) := by omega
    have bb : (b : Int) ≤ N := by omega
    have bN : (N : Int) ≤ 100000 := by omega
    by_cases hlt : b < N
    · have q9 := blk_lt k9
      have hlt' : (b : Int) < (N : Int) := by omega
      go_upto_region 6 with (fail)
      refine wp_region_R 1 [] (by kernel_rfl) (by kernel_rfl) (by kernel_rfl) (by kernel_rfl) ?_
      intro K_ ops_ hops_ hK
      replace hops_ := Lib.hid hops_
      apply Exists.intro
      intro R_ hb_
      simp only [↓baseR, ↓nthR_succ, ↓nthR_zero] at hb_
      simp only [List.take_succ_cons, List.take_zero, List.drop_succ_cons, List.drop_zero]
      repeat (first
        
        
        
        | (apply LexR_det (by rfl) (by rfl) (by rfl) (fun w1 hw1 hd1 => ?_) (fun _ hr_ => ?_); rotate_right 2; (go_simp; first | done | rfl ))
        | (apply LexR_box (by rfl) (by rfl) (by rfl) (fun w1 hw1 hd1 => ?_) (fun _ hr_ => ?_); rotate_right 2; (go_simp; first | done | rfl))
        | (apply LexR_bs (t := 76) (e := 80) (z := .agg #[.int .u32 0]) (ho := rfl) (by rfl) (by rfl) Tryz.underlying76 (by kernel_rfl) (by decide) (by decide) (fun _ => ?_) (fun _ => ?_) (fun _ => ?_) (fun _ hr_ => ?_); rotate_right 4; (go_simp; rfl); (exact ⟨rfl, rfl, rfl⟩); (simp only [List.map_cons, List.map_nil, List.flatMap_cons, List.flatMap_nil, Value.cells, List.cons_append, List.nil_append, List.append_nil]; rfl)))
      apply LexR_end
      refine hK _ _ ?_
      clear hK K_
      repeat clear hr_
      clear hb_ R_ hops_ ops_
      intro w1 hw1 hf1
      apply tailR (fun _ => ?_) (fun _ => ?_) ?_
      rotate_right 2
      · simp only [putAll, Act.put, List.setIfInBounds_toArray, List.set_cons_succ, List.set_cons_zero]; first | done | rfl
      · simp only [List.drop_succ_cons, List.drop_zero]; first | done | rfl
      simp [allFacts, contOf, Exp.putAt, Exp.fact, Exp.fresh, Exp.blk] at hf1
      obtain ⟨k11, l11⟩ := hf1
      replace k4 := grow_blk hw1 k4
      replace k6 := grow_blk hw1 k6
      replace k7 := grow_blk hw1 k7
      replace k8 := grow_blk hw1 k8
      replace k9 := grow_blk hw1 k9
      obtain ⟨g11, e_⟩ := name_blk k11
      subst e_
      replace S : St J F0 w (min n (b * 64)) w1 [g11, g9, g8, g7, w.heap.size + 1, w.heap.size] := S.take fj [g11] (by simp; omega) hw1
      have m11 : g9 < g11 := by omega
      clear hw1 l11 q9
      have S0 : St J F0 w (min n (b * 64 + 4 * 0)) w1 [g11, g9, g8, g7, w.heap.size + 1, w.heap.size] := S
      have k40 := k4
      have k60 := k6
      have k70 := k7
      have k80 := k8
      have k90 := k9
      have k110 : w1.heap[g11]? = some (.cells (cw (padTo 16 (blockw n len bs b 0))) 140 (0, 0)) := by rw [show blockw n len bs b 0 = [] from rfl, padTo_nil]; exact k11
      clear S k4 k6 k7 k8 k9 k11
      go_wp2_with fail
      go_loopw [30] (fun i wr => ∃ k : Nat, k ≤ 16 ∧ i = .int .i64 (k : Int) ∧ St J F0 w (min n (b * 64 + 4 * k)) wr [g11, g9, g8, g7, w.heap.size + 1, w.heap.size] ∧ wr.heap[w.heap.size]? = some (.cells #[.int .u32 (iw len)] 80 (0, 0)) ∧ wr.heap[w.heap.size + 1]? = some (.cells (Array.replicate 8 (.int .u32 0)) 81 (0, 0)) ∧ wr.heap[g7]? = some (.cells (cw (hashAt n len bs b).1) 81 (0, 0)) ∧ wr.heap[g8]? = some (.cells (cw (hashAt n len bs b).2) 81 (0, 0)) ∧ wr.heap[g9]? = some (.cells #[.int .u32 (iw (shrI (len + kw 8) 6))] 80 (0, 0)) ∧ wr.heap[g11]? = some (.cells (cw (padTo 16 (blockw n len bs b k))) 140 (0, 0))) (fun i _ => 16 - (intOf i).toNat)
      case atStart => exact ⟨0, by omega, rfl, S0, k40, k60, k70, k80, k90, k110⟩
      case round =>
        clear S0 k40 k60 k70 k80 k90 k110
        obtain ⟨k, hk, rfl, S, k4, k6, k7, k8, k9, k11⟩ := hrel
        have pk : (0 : Int) ≤ (k : Int) := by omega
        have bk : (k : Int) ≤ 16 := by omega
        by_cases hlk : k < 16
        · have q11 := blk_lt k11
          have hlk' : (k : Int) < 16 := by omega
          go_upto_region 10 with (fail)
          refine wp_region_R 1 [] (by kernel_rfl) (by kernel_rfl) (by kernel_rfl) (by kernel_rfl) ?_
          intro K_ ops_ hops_ hK
          replace hops_ := Lib.hid hops_
          apply Exists.intro
          intro R_ hb_
          simp only [↓baseR, ↓nthR_succ, ↓nthR_zero] at hb_
          simp only [List.take_succ_cons, List.take_zero, List.drop_succ_cons, List.drop_zero]
          repeat (first
            
            
            
            | (apply LexR_det (by rfl) (by rfl) (by rfl) (fun w1 hw1 hd1 => ?_) (fun _ hr_ => ?_); rotate_right 2; (go_simp; first | done | rfl ))
            | (apply LexR_box (by rfl) (by rfl) (by rfl) (fun w1 hw1 hd1 => ?_) (fun _ hr_ => ?_); rotate_right 2; (go_simp; first | done | rfl))
            | (apply LexR_bs (t := 76) (e := 80) (z := .agg #[.int .u32 0]) (ho := rfl) (by rfl) (by rfl) Tryz.underlying76 (by kernel_rfl) (by decide) (by decide) (fun _ => ?_) (fun _ => ?_) (fun _ => ?_) (fun _ hr_ => ?_); rotate_right 4; (go_simp; rfl); (exact ⟨rfl, rfl, rfl⟩); (simp only [List.map_cons, List.map_nil, List.flatMap_cons, List.flatMap_nil, Value.cells, List.cons_append, List.nil_append, List.append_nil]; rfl)))
          apply LexR_end
          refine hK _ _ ?_
          clear hK K_
          repeat clear hr_
          clear hb_ R_ hops_ ops_
          intro w1 hw1 hf1
          apply tailR (fun _ => ?_) (fun _ => ?_) ?_
          rotate_right 2
          · simp only [putAll, Act.put, List.setIfInBounds_toArray, List.set_cons_succ, List.set_cons_zero]; first | done | rfl
          · simp only [List.drop_succ_cons, List.drop_zero]; first | done | rfl
          simp [allFacts, contOf, Exp.putAt, Exp.fact, Exp.fresh, Exp.blk] at hf1
          obtain ⟨k13, l13⟩ := hf1
          replace k4 := grow_blk hw1 k4
          replace k6 := grow_blk hw1 k6
          replace k7 := grow_blk hw1 k7
          replace k8 := grow_blk hw1 k8
          replace k9 := grow_blk hw1 k9
          replace k11 := grow_blk hw1 k11
          obtain ⟨g13, e_⟩ := name_blk k13
          subst e_
          replace S : St J F0 w (min n (b * 64 + 4 * k)) w1 [g13, g11, g9, g8, g7, w.heap.size + 1, w.heap.size] := S.take fj [g13] (by simp; omega) hw1
          have m13 : g11 < g13 := by omega
          clear hw1 l13 q11
          have S0 : St J F0 w (min n (b * 64 + 4 * k + 0)) w1 [g13, g11, g9, g8, g7, w.heap.size + 1, w.heap.size] := S
          have k40 := k4
          have k60 := k6
          have k70 := k7
          have k80 := k8
          have k90 := k9
          have k110 := k11
          have k130 : w1.heap[g13]? = some (.cells (cw (padTo 4 (fourw n len bs b k 0))) 142 (0, 0)) := by rw [show fourw n len bs b k 0 = [] from rfl, padTo_nil]; exact k13
          clear S k4 k6 k7 k8 k9 k11 k13
          go_wp2_with fail
          go_loopw [33] (fun i wr => ∃ j : Nat, j ≤ 4 ∧ i = .int .i64 (j : Int) ∧ St J F0 w (min n (b * 64 + 4 * k + j)) wr [g13, g11, g9, g8, g7, w.heap.size + 1, w.heap.size] ∧ wr.heap[w.heap.size]? = some (.cells #[.int .u32 (iw len)] 80 (0, 0)) ∧ wr.heap[w.heap.size + 1]? = some (.cells (Array.replicate 8 (.int .u32 0)) 81 (0, 0)) ∧ wr.heap[g7]? = some (.cells (cw (hashAt n len bs b).1) 81 (0, 0)) ∧ wr.heap[g8]? = some (.cells (cw (hashAt n len bs b).2) 81 (0, 0)) ∧ wr.heap[g9]? = some (.cells #[.int .u32 (iw (shrI (len + kw 8) 6))] 80 (0, 0)) ∧ wr.heap[g11]? = some (.cells (cw (padTo 16 (blockw n len bs b k))) 140 (0, 0)) ∧ wr.heap[g13]? = some (.cells (cw (padTo 4 (fourw n len bs b k j))) 142 (0, 0))) (fun i _ => 4 - (intOf i).toNat)
          case atStart => exact ⟨0, by omega, rfl, S0, k40, k60, k70, k80, k90, k110, k130⟩
          case round =>
            clear S0 k40 k60 k70 k80 k90 k110 k130
            obtain ⟨j, hj, rfl, S, k4, k6, k7, k8, k9, k11, k13⟩ := hrel
            have pj : (0 : Int) ≤ (j : Int) := by omega
            have bj : (j : Int) ≤ 4 := by omega
            by_cases hlj : j < 4
            · have q13 := blk_lt k13
              have hlj' : (j : Int) < 4 := by omega
              obtain ⟨i, hi⟩ : ∃ i, i = b * 64 + 4 * k + j := ⟨_, rfl⟩
              have e1 : (b : Int) * 64 + 4 * (k : Int) + (j : Int) = (i : Int) := by omega
              have pi : (0 : Int) ≤ (i : Int) := by omega
              have bi : (i : Int) ≤ 1000192 := by omega
              replace hi := Lib.hid hi
              go_upto_region 15 with (fail)
              refine wp_region_R 3 [] (by kernel_rfl) (by kernel_rfl) (by kernel_rfl) (by kernel_rfl) ?_
              intro K_ ops_ hops_ hK
              replace hops_ := Lib.hid hops_
              apply Exists.intro
              intro R_ hb_
              simp only [↓baseR, ↓nthR_succ, ↓nthR_zero] at hb_
              simp only [List.take_succ_cons, List.take_zero, List.drop_succ_cons, List.drop_zero]
              repeat (first
                
                | (apply LexR_put (j := 1) (ho := rfl); (go_simp; rfl); (go_simp; rfl); rfl; rfl; (focus (first | decide | (simp; done))); rfl; rfl; kernel_rfl; kernel_rfl; (first | exact cw_one _ | simp [Value.oneCell']); (first | (rw [cw_size, L64.out]; rfl) | (rw [cw_size, L8.out]; rfl) | (rw [cw_size]; rfl) | rfl); intro _)
                | (apply LexR_callF (f := 68) (by rfl) (by rfl) (by rfl) Tryz.func68 (by kernel_rfl) (by kernel_rfl) (fun _ => ?_) (fun w1 hw1 hd1 => ?_) (fun _ hr_ => ?_); rotate_right 3; (go_simp; first | done | rfl); exact (Of_c _ (kw 0) rfl w1))
                | (apply LexR_det (by rfl) (by rfl) (by rfl) (fun w1 hw1 hd1 => ?_) (fun _ hr_ => ?_); rotate_right 2; (go_simp; first | done | rfl ))
                | (apply LexR_box (by rfl) (by rfl) (by rfl) (fun w1 hw1 hd1 => ?_) (fun _ hr_ => ?_); rotate_right 2; (go_simp; first | done | rfl))
                | (apply LexR_bs (t := 76) (e := 80) (z := .agg #[.int .u32 0]) (ho := rfl) (by rfl) (by rfl) Tryz.underlying76 (by kernel_rfl) (by decide) (by decide) (fun _ => ?_) (fun _ => ?_) (fun _ => ?_) (fun _ hr_ => ?_); rotate_right 4; (go_simp; rfl); (exact ⟨rfl, rfl, rfl⟩); (simp only [List.map_cons, List.map_nil, List.flatMap_cons, List.flatMap_nil, Value.cells, List.cons_append, List.nil_append, List.append_nil]; rfl)))
              apply LexR_end
              refine hK _ _ ?_
              clear hK K_
              repeat clear hr_
              clear hb_ R_ hops_ ops_
              intro w1 hw1 hf1
              apply tailR (fun _ => ?_) (fun _ => ?_) ?_
              rotate_right 2
              · simp only [putAll, Act.put, List.setIfInBounds_toArray, List.set_cons_succ, List.set_cons_zero]; first | done | rfl
              · simp only [List.drop_succ_cons, List.drop_zero]; first | done | rfl
              simp [allFacts, contOf, Exp.putAt, Exp.fact, Exp.fresh, Exp.blk] at hf1
              obtain ⟨k16, l16⟩ := hf1
              replace k4 := grow_blk hw1 k4
              replace k6 := grow_blk hw1 k6
              replace k7 := grow_blk hw1 k7
              replace k8 := grow_blk hw1 k8
              replace k9 := grow_blk hw1 k9
              replace k11 := grow_blk hw1 k11
              replace k13 := grow_blk hw1 k13
              obtain ⟨g16, e_⟩ := name_blk k16
              subst e_
              replace S : St J F0 w (min n (b * 64 + 4 * k + j)) w1 [g16, g13, g11, g9, g8, g7, w.heap.size + 1, w.heap.size] := S.take fj [g16] (by simp; omega) hw1
              have m16 : g13 < g16 := by omega
              have q16 := blk_lt k16
              clear hw1 l16 q13
              by_cases hin : i < n
              · have hin' : (i : Int) < (n : Int) := by omega
                obtain ⟨F, hJF, hR⟩ := S.read (by intro x hx; simp at hx; omega)
                rw [show min n (b * 64 + 4 * k + j) = i by rw [← hi.out]; omega] at hJF hR
                go_upto_region 17 with (fail)
                go_wp2_with fail
                rw [run_callFunc hf hn hb, Oper.upon_enter]
                refine (hat i w1 F hin hJF).mono ?_
                rintro e w5 ⟨rfl, hr⟩
                obtain ⟨S5, hown⟩ := hR w5 hr
                clear S hR hJF hr
                have S := S5
                clear S5
                replace k4 := (hown (w.heap.size) (by simp)).trans k4
                replace k6 := (hown (w.heap.size + 1) (by simp)).trans k6
                replace k7 := (hown (g7) (by simp)).trans k7
                replace k8 := (hown (g8) (by simp)).trans k8
                replace k9 := (hown (g9) (by simp)).trans k9
                replace k11 := (hown (g11) (by simp)).trans k11
                replace k13 := (hown (g13) (by simp)).trans k13
                replace k16 := (hown (g16) (by simp)).trans k16
                clear hown q16
                go_upto_region 18 with (first | (go_at_call 68; refine (Of_c _ (kw 255) rfl _).mono ?_; rintro e w6 ⟨rfl, hw6⟩) | (go_at_call 66; refine (And_c _ _ _).mono ?_; rintro e w7 ⟨rfl, hw7⟩; (have hw1 := bl_call hw7 hw6; clear hw6 hw7; replace k4 := grow_blk hw1 k4; replace k6 := grow_blk hw1 k6; replace k7 := grow_blk hw1 k7; replace k8 := grow_blk hw1 k8; replace k9 := grow_blk hw1 k9; replace k11 := grow_blk hw1 k11; replace k13 := grow_blk hw1 k13; replace k16 := grow_blk hw1 k16; replace S := S.grow fj hw1; clear hw1; have c16 := blk_cell k16 0; have f16 := blk_frozen k16 0)))
                refine gen_world fun W2 hW => ?_
                replace k4 := far_eq hW k4 (by simp; omega)
                replace k6 := far_eq hW k6 (by simp; omega)
                replace k7 := far_eq hW k7 (by simp; omega)
                replace k8 := far_eq hW k8 (by simp; omega)
                replace k9 := far_eq hW k9 (by simp; omega)
                replace k11 := far_eq hW k11 (by simp; omega)
                replace k13 := far_eq hW k13 (by simp; omega)
                replace S : St J F0 w (min n (i + 1)) W2 [g16, g13, g11, g9, g8, g7, w.heap.size + 1, w.heap.size] := by subst hW; rw [show min n (i + 1) = i + 1 by omega]; exact S.set fj _ _ (by simp) (by simp; omega)
                replace k16 : W2.heap[g16]? = some (.cells #[.int .u32 (iw (bytew n bs i))] 80 (0, 0)) := by subst hW; rw [show bytew n bs i = bs i &&& kw 255 by simp [bytew, hin]]; exact blk_set k16 0 _
                clear hW c16 f16
                refine wp_region_R 6 [4, 13, 14, 15, 16] (by kernel_rfl) (by kernel_rfl) (by kernel_rfl) (by kernel_rfl) ?_
                intro K_ ops_ hops_ hK
                replace hops_ := Lib.hid hops_
                apply Exists.intro
                intro R_ hb_
                simp only [↓baseR, ↓nthR_succ, ↓nthR_zero] at hb_
                simp only [List.take_succ_cons, List.take_zero, List.drop_succ_cons, List.drop_zero]
                repeat (first
                  
                  
                  | (apply LexR_callF (f := 102) (by rfl) (by rfl) (by rfl) Tryz.func102 (by kernel_rfl) (by kernel_rfl) (fun _ => ?_) (fun w1 hw1 hd1 => ?_) (fun _ hr_ => ?_); rotate_right 3; (go_simp; first | done | rfl); exact (padded_c _ i _ (by omega) w1))
                  | (apply LexR_det (by rfl) (by rfl) (by rfl) (fun w1 hw1 hd1 => ?_) (fun _ hr_ => ?_); rotate_right 2; (go_simp; first | done | rfl | (rw [blk_cell (grow_blk hw1 k16)]; focus ((try simp); first | done | rfl)) | (rw [blk_cell (grow_blk hw1 k4)]; focus ((try simp); first | done | rfl))))
                  | (apply LexR_box (by rfl) (by rfl) (by rfl) (fun w1 hw1 hd1 => ?_) (fun _ hr_ => ?_); rotate_right 2; (go_simp; first | done | rfl))
                  | (apply LexR_bs (t := 76) (e := 80) (z := .agg #[.int .u32 0]) (ho := rfl) (by rfl) (by rfl) Tryz.underlying76 (by kernel_rfl) (by decide) (by decide) (fun _ => ?_) (fun _ => ?_) (fun _ => ?_) (fun _ hr_ => ?_); rotate_right 4; (go_simp; rfl); (exact ⟨rfl, rfl, rfl⟩); (simp only [List.map_cons, List.map_nil, List.flatMap_cons, List.flatMap_nil, Value.cells, List.cons_append, List.nil_append, List.append_nil]; rfl)))
                apply LexR_end
                refine hK _ _ ?_
                clear hK K_
                repeat clear hr_
                clear hb_ R_ hops_ ops_
                intro w1 hw1 hf1
                apply tailR (fun _ => ?_) (fun _ => ?_) ?_
                rotate_right 2
                · simp only [putAll, Act.put, List.setIfInBounds_toArray, List.set_cons_succ, List.set_cons_zero]; first | done | rfl
                · simp only [List.drop_succ_cons, List.drop_zero]; first | done | rfl
                simp [allFacts, contOf, Exp.putAt, Exp.fact, Exp.fresh, Exp.blk] at hf1
                clear hf1
                replace k4 := grow_blk hw1 k4
                replace k6 := grow_blk hw1 k6
                replace k7 := grow_blk hw1 k7
                replace k8 := grow_blk hw1 k8
                replace k9 := grow_blk hw1 k9
                replace k11 := grow_blk hw1 k11
                replace k13 := grow_blk hw1 k13
                replace S := (S.grow fj hw1).less (own' := [g13, g11, g9, g8, g7, w.heap.size + 1, w.heap.size]) (by simp)
                clear hw1 k16
                have c13 := blk_cell k13 j
                rw [cw_at _ _ (by rw [padTo_length _ _ (by rw [fourw_length]; exact hj)]; exact hlj)] at c13
                have f13 := blk_frozen k13 j
                go_wp2_with fail
                go_roundw
                case measure => simp [intOf]; omega
                refine ⟨j + 1, by omega, congrArg (Value.int .i64) (by omega), ?_, blk_far k4 (by simp; omega) _, blk_far k6 (by simp; omega) _, blk_far k7 (by simp; omega) _, blk_far k8 (by simp; omega) _, blk_far k9 (by simp; omega) _, blk_far k11 (by simp; omega) _, ?_⟩
                · rw [show min n (b * 64 + 4 * k + (j + 1)) = min n (i + 1) by rw [hi.out]; rfl]
                  exact S.set fj _ _ (by simp) (by simp; omega)
                · rw [← four_set n len bs b k j hlj, ← cw_set, ← hi.out]
                  exact blk_set k13 j _
              · have hin' : ¬ (i : Int) < (n : Int) := by omega
                replace S : St J F0 w (min n (i + 1)) w1 [g16, g13, g11, g9, g8, g7, w.heap.size + 1, w.heap.size] := by rw [show min n (i + 1) = min n (b * 64 + 4 * k + j) by rw [← hi.out]; omega]; exact S
                replace k16 : w1.heap[g16]? = some (.cells #[.int .u32 (iw (bytew n bs i))] 80 (0, 0)) := by rw [show bytew n bs i = kw 0 by simp [bytew, hin]; rfl]; exact k16
                clear q16
                go_upto_region 18 with (fail)
                refine wp_region_R 6 [4, 13, 14, 15, 16] (by kernel_rfl) (by kernel_rfl) (by kernel_rfl) (by kernel_rfl) ?_
                intro K_ ops_ hops_ hK
                replace hops_ := Lib.hid hops_
                apply Exists.intro
                intro R_ hb_
                simp only [↓baseR, ↓nthR_succ, ↓nthR_zero] at hb_
                simp only [List.take_succ_cons, List.take_zero, List.drop_succ_cons, List.drop_zero]
                repeat (first
                  
                  
                  | (apply LexR_callF (f := 102) (by rfl) (by rfl) (by rfl) Tryz.func102 (by kernel_rfl) (by kernel_rfl) (fun _ => ?_) (fun w1 hw1 hd1 => ?_) (fun _ hr_ => ?_); rotate_right 3; (go_simp; first | done | rfl); exact (padded_c _ i _ (by omega) w1))
                  | (apply LexR_det (by rfl) (by rfl) (by rfl) (fun w1 hw1 hd1 => ?_) (fun _ hr_ => ?_); rotate_right 2; (go_simp; first | done | rfl | (rw [blk_cell (grow_blk hw1 k16)]; focus ((try simp); first | done | rfl)) | (rw [blk_cell (grow_blk hw1 k4)]; focus ((try simp); first | done | rfl))))
                  | (apply LexR_box (by rfl) (by rfl) (by rfl) (fun w1 hw1 hd1 => ?_) (fun _ hr_ => ?_); rotate_right 2; (go_simp; first | done | rfl))
                  | (apply LexR_bs (t := 76) (e := 80) (z := .agg #[.int .u32 0]) (ho := rfl) (by rfl) (by rfl) Tryz.underlying76 (by kernel_rfl) (by decide) (by decide) (fun _ => ?_) (fun _ => ?_) (fun _ => ?_) (fun _ hr_ => ?_); rotate_right 4; (go_simp; rfl); (exact ⟨rfl, rfl, rfl⟩); (simp only [List.map_cons, List.map_nil, List.flatMap_cons, List.flatMap_nil, Value.cells, List.cons_append, List.nil_append, List.append_nil]; rfl)))
                apply LexR_end
                refine hK _ _ ?_
                clear hK K_
                repeat clear hr_
                clear hb_ R_ hops_ ops_
                intro w1 hw1 hf1
                apply tailR (fun _ => ?_) (fun _ => ?_) ?_
                rotate_right 2
                · simp only [putAll, Act.put, List.setIfInBounds_toArray, List.set_cons_succ, List.set_cons_zero]; first | done | rfl
                · simp only [List.drop_succ_cons, List.drop_zero]; first | done | rfl
                simp [allFacts, contOf, Exp.putAt, Exp.fact, Exp.fresh, Exp.blk] at hf1
                clear hf1
                replace k4 := grow_blk hw1 k4
                replace k6 := grow_blk hw1 k6
                replace k7 := grow_blk hw1 k7
                replace k8 := grow_blk hw1 k8
                replace k9 := grow_blk hw1 k9
                replace k11 := grow_blk hw1 k11
                replace k13 := grow_blk hw1 k13
                replace S := (S.grow fj hw1).less (own' := [g13, g11, g9, g8, g7, w.heap.size + 1, w.heap.size]) (by simp)
                clear hw1 k16
                have c13 := blk_cell k13 j
                rw [cw_at _ _ (by rw [padTo_length _ _ (by rw [fourw_length]; exact hj)]; exact hlj)] at c13
                have f13 := blk_frozen k13 j
                go_wp2_with fail
                go_roundw
                case measure => simp [intOf]; omega
                refine ⟨j + 1, by omega, congrArg (Value.int .i64) (by omega), ?_, blk_far k4 (by simp; omega) _, blk_far k6 (by simp; omega) _, blk_far k7 (by simp; omega) _, blk_far k8 (by simp; omega) _, blk_far k9 (by simp; omega) _, blk_far k11 (by simp; omega) _, ?_⟩
                · rw [show min n (b * 64 + 4 * k + (j + 1)) = min n (i + 1) by rw [hi.out]; rfl]
                  exact S.set fj _ _ (by simp) (by simp; omega)
                · rw [← four_set n len bs b k j hlj, ← cw_set, ← hi.out]
                  exact blk_set k13 j _
            · have hlj' : ¬ (j : Int) < 4 := by omega
              obtain rfl : j = 4 := by omega
              rw [padTo_full _ 4 (fourw_length _ _ _ _ _ _)] at k13
              have LF := Lib.hid (fourw_length n len bs b k 4)
              obtain ⟨fs, hfs⟩ : ∃ fs, fs = fourw n len bs b k 4 := ⟨_, rfl⟩
              rw [← hfs] at k13 LF
              replace hfs := Lib.hid hfs
              go_upto_region 20 with (fail)
              refine wp_region_R 4 [11, 12, 13] (by kernel_rfl) (by kernel_rfl) (by kernel_rfl) (by kernel_rfl) ?_
              intro K_ ops_ hops_ hK
              replace hops_ := Lib.hid hops_
              apply Exists.intro
              intro R_ hb_
              simp only [↓baseR, ↓nthR_succ, ↓nthR_zero] at hb_
              simp only [List.take_succ_cons, List.take_zero, List.drop_succ_cons, List.drop_zero]
              repeat (first
                | (apply LexR_det (by rfl) (by rfl) (by rfl) (fun w1 hw1 hd1 => ?_) (fun _ hr_ => ?_); rotate_right 2; (refine run_load_rowR (ty := 142) rfl ?_ (grow_blk hw1 k13) Tryz.underlying142 rfl ?_; (focus (go_simp; done)); (rw [cw_size, LF.out]; kernel_rfl)))
                
                | (apply LexR_callF (f := 103) (by rfl) (by rfl) (by rfl) Tryz.func103 (by kernel_rfl) (by kernel_rfl) (fun _ => ?_) (fun w1 hw1 hd1 => ?_) (fun _ hr_ => ?_); rotate_right 3; (go_simp; first | done | rfl); exact (word_c _ LF.out w1))
                | (apply LexR_det (by rfl) (by rfl) (by rfl) (fun w1 hw1 hd1 => ?_) (fun _ hr_ => ?_); rotate_right 2; (go_simp; first | done | rfl ))
                | (apply LexR_box (by rfl) (by rfl) (by rfl) (fun w1 hw1 hd1 => ?_) (fun _ hr_ => ?_); rotate_right 2; (go_simp; first | done | rfl))
                | (apply LexR_bs (t := 76) (e := 80) (z := .agg #[.int .u32 0]) (ho := rfl) (by rfl) (by rfl) Tryz.underlying76 (by kernel_rfl) (by decide) (by decide) (fun _ => ?_) (fun _ => ?_) (fun _ => ?_) (fun _ hr_ => ?_); rotate_right 4; (go_simp; rfl); (exact ⟨rfl, rfl, rfl⟩); (simp only [List.map_cons, List.map_nil, List.flatMap_cons, List.flatMap_nil, Value.cells, List.cons_append, List.nil_append, List.append_nil]; rfl)))
              apply LexR_end
              refine hK _ _ ?_
              clear hK K_
              repeat clear hr_
              clear hb_ R_ hops_ ops_
              intro w1 hw1 hf1
              apply tailR (fun _ => ?_) (fun _ => ?_) ?_
              rotate_right 2
              · simp only [putAll, Act.put, List.setIfInBounds_toArray, List.set_cons_succ, List.set_cons_zero]; first | done | rfl
              · simp only [List.drop_succ_cons, List.drop_zero]; first | done | rfl
              simp [allFacts, contOf, Exp.putAt, Exp.fact, Exp.fresh, Exp.blk] at hf1
              clear hf1
              replace k4 := grow_blk hw1 k4
              replace k6 := grow_blk hw1 k6
              replace k7 := grow_blk hw1 k7
              replace k8 := grow_blk hw1 k8
              replace k9 := grow_blk hw1 k9
              replace k11 := grow_blk hw1 k11
              replace S := (S.grow fj hw1).less (own' := [g11, g9, g8, g7, w.heap.size + 1, w.heap.size]) (by simp)
              clear hw1 k13
              have c11 := blk_cell k11 k
              rw [cw_at _ _ (by rw [padTo_length _ _ (by rw [blockw_length]; exact hk)]; exact hlk)] at c11
              have f11 := blk_frozen k11 k
              go_wp2_with fail
              refine ⟨⟨k + 1, by omega, congrArg (Value.int .i64) (by omega), ?_, blk_far k4 (by simp; omega) _, blk_far k6 (by simp; omega) _, blk_far k7 (by simp; omega) _, blk_far k8 (by simp; omega) _, blk_far k9 (by simp; omega) _, ?_⟩, by simp [intOf]; omega⟩
              · exact S.set fj _ _ (by simp) (by simp; omega)
              · rw [← block_set n len bs b k hlk, ← cw_set, ← hfs.out]
                exact blk_set k11 k _
        · obtain rfl : k = 16 := by omega
          rw [padTo_full _ 16 (blockw_length _ _ _ _ _)] at k11
          have LB := Lib.hid (blockw_length n len bs b 16)
          obtain ⟨ws, hws⟩ : ∃ ws, ws = blockw n len bs b 16 := ⟨_, rfl⟩
          rw [← hws] at k11 LB
          replace hws := Lib.hid hws
          go_upto_region 22 with (fail)
          have bB : (b : Int) < 4294967296 := by omega
          have q11 := blk_lt k11
          refine wp_region_R 7 [9, 10] (by kernel_rfl) (by kernel_rfl) (by kernel_rfl) (by kernel_rfl) ?_
          intro K_ ops_ hops_ hK
          replace hops_ := Lib.hid hops_
          apply Exists.intro
          intro R_ hb_
          simp only [↓baseR, ↓nthR_succ, ↓nthR_zero] at hb_
          simp only [List.take_succ_cons, List.take_zero, List.drop_succ_cons, List.drop_zero]
          repeat (first
            
            | (apply LexR_put (j := 5) (ho := rfl); (go_simp; rfl); (go_simp; rfl); rfl; rfl; (focus (first | decide | (simp; done))); rfl; rfl; kernel_rfl; kernel_rfl; (first | exact cw_one _ | simp [Value.oneCell']); (first | (rw [cw_size, L64.out]; rfl) | (rw [cw_size, L8.out]; rfl) | (rw [cw_size]; rfl) | rfl); intro _)
            | (apply LexR_callF (f := 68) (by rfl) (by rfl) (by rfl) Tryz.func68 (by kernel_rfl) (by kernel_rfl) (fun _ => ?_) (fun w1 hw1 hd1 => ?_) (fun _ hr_ => ?_); rotate_right 3; (go_simp; first | done | rfl); exact (Of_c _ (kw b) (conv_kw b (by omega)) w1)) | (apply LexR_callF (f := 104) (by rfl) (by rfl) (by rfl) Tryz.func104 (by kernel_rfl) (by kernel_rfl) (fun _ => ?_) (fun w1 hw1 hd1 => ?_) (fun _ hr_ => ?_); rotate_right 3; (go_simp; first | done | rfl); exact (Eq_c _ _ w1))
            | (apply LexR_det (by rfl) (by rfl) (by rfl) (fun w1 hw1 hd1 => ?_) (fun _ hr_ => ?_); rotate_right 2; (go_simp; first | done | rfl | (rw [blk_cell (grow_blk hw1 k9)]; focus ((try simp); first | done | rfl))))
            | (apply LexR_box (by rfl) (by rfl) (by rfl) (fun w1 hw1 hd1 => ?_) (fun _ hr_ => ?_); rotate_right 2; (go_simp; first | done | rfl))
            | (apply LexR_bs (t := 76) (e := 80) (z := .agg #[.int .u32 0]) (ho := rfl) (by rfl) (by rfl) Tryz.underlying76 (by kernel_rfl) (by decide) (by decide) (fun _ => ?_) (fun _ => ?_) (fun _ => ?_) (fun _ hr_ => ?_); rotate_right 4; (go_simp; rfl); (exact ⟨rfl, rfl, rfl⟩); (simp only [List.map_cons, List.map_nil, List.flatMap_cons, List.flatMap_nil, Value.cells, List.cons_append, List.nil_append, List.append_nil]; rfl)))
          apply LexR_end
          refine hK _ _ ?_
          clear hK K_
          repeat clear hr_
          clear hb_ R_ hops_ ops_
          intro w1 hw1 hf1
          apply tailR (fun _ => ?_) (fun _ => ?_) ?_
          rotate_right 2
          · simp only [putAll, Act.put, List.setIfInBounds_toArray, List.set_cons_succ, List.set_cons_zero]; first | done | rfl
          · simp only [List.drop_succ_cons, List.drop_zero]; first | done | rfl
          simp [allFacts, contOf, Exp.putAt, Exp.fact, Exp.fresh, Exp.blk] at hf1
          obtain ⟨k17, l17⟩ := hf1
          replace k4 := grow_blk hw1 k4
          replace k6 := grow_blk hw1 k6
          replace k7 := grow_blk hw1 k7
          replace k8 := grow_blk hw1 k8
          replace k9 := grow_blk hw1 k9
          replace k11 := grow_blk hw1 k11
          obtain ⟨g17, e_⟩ := name_blk k17
          subst e_
          replace S : St J F0 w (min n (b * 64 + 4 * 16)) w1 [g17, g11, g9, g8, g7, w.heap.size + 1, w.heap.size] := S.take fj [g17] (by simp; omega) hw1
          have m17 : g11 < g17 := by omega
          replace k17 : w1.heap[g17]? = some (.cells #[.int .u32 (iw (lastw b len))] 80 (0, 0)) := k17
          clear hw1 l17 q11
          go_upto_region 23 with (fail)
          have c15 := blk_cell k11 15
          rw [cw_at _ _ (by rw [LB.out]; omega)] at c15
          refine wp_region_R 8 [4, 11, 17] (by kernel_rfl) (by kernel_rfl) (by kernel_rfl) (by kernel_rfl) ?_
          intro K_ ops_ hops_ hK
          replace hops_ := Lib.hid hops_
          apply Exists.intro
          intro R_ hb_
          simp only [↓baseR, ↓nthR_succ, ↓nthR_zero] at hb_
          simp only [List.take_succ_cons, List.take_zero, List.drop_succ_cons, List.drop_zero]
          repeat (first
            
            
            | (apply LexR_callF (f := 106) (by rfl) (by rfl) (by rfl) Tryz.func106 (by kernel_rfl) (by kernel_rfl) (fun _ => ?_) (fun w1 hw1 hd1 => ?_) (fun _ hr_ => ?_); rotate_right 3; (go_simp; first | done | rfl); exact (Shl_c _ _ (by omega) (by omega) w1)) | (apply LexR_callF (f := 66) (by rfl) (by rfl) (by rfl) Tryz.func66 (by kernel_rfl) (by kernel_rfl) (fun _ => ?_) (fun w1 hw1 hd1 => ?_) (fun _ hr_ => ?_); rotate_right 3; (go_simp; first | done | rfl); exact (And_c _ _ w1)) | (apply LexR_callF (f := 105) (by rfl) (by rfl) (by rfl) Tryz.func105 (by kernel_rfl) (by kernel_rfl) (fun _ => ?_) (fun w1 hw1 hd1 => ?_) (fun _ hr_ => ?_); rotate_right 3; (go_simp; first | done | rfl); exact (Or_c _ _ w1))
            | (apply LexR_det (by rfl) (by rfl) (by rfl) (fun w1 hw1 hd1 => ?_) (fun _ hr_ => ?_); rotate_right 2; (go_simp; first | done | rfl | (rw [grow_cell hw1 c15]; focus ((try simp); first | done | rfl)) | (rw [blk_cell (grow_blk hw1 k17)]; focus ((try simp); first | done | rfl)) | (rw [blk_cell (grow_blk hw1 k4)]; focus ((try simp); first | done | rfl))))
            | (apply LexR_box (by rfl) (by rfl) (by rfl) (fun w1 hw1 hd1 => ?_) (fun _ hr_ => ?_); rotate_right 2; (go_simp; first | done | rfl))
            | (apply LexR_bs (t := 76) (e := 80) (z := .agg #[.int .u32 0]) (ho := rfl) (by rfl) (by rfl) Tryz.underlying76 (by kernel_rfl) (by decide) (by decide) (fun _ => ?_) (fun _ => ?_) (fun _ => ?_) (fun _ hr_ => ?_); rotate_right 4; (go_simp; rfl); (exact ⟨rfl, rfl, rfl⟩); (simp only [List.map_cons, List.map_nil, List.flatMap_cons, List.flatMap_nil, Value.cells, List.cons_append, List.nil_append, List.append_nil]; rfl)))
          apply LexR_end
          refine hK _ _ ?_
          clear hK K_
          repeat clear hr_
          clear hb_ R_ hops_ ops_
          intro w1 hw1 hf1
          apply tailR (fun _ => ?_) (fun _ => ?_) ?_
          rotate_right 2
          · simp only [putAll, Act.put, List.setIfInBounds_toArray, List.set_cons_succ, List.set_cons_zero]; first | done | rfl
          · simp only [List.drop_succ_cons, List.drop_zero]; first | done | rfl
          simp [allFacts, contOf, Exp.putAt, Exp.fact, Exp.fresh, Exp.blk] at hf1
          clear hf1 c15
          replace k4 := grow_blk hw1 k4
          replace k6 := grow_blk hw1 k6
          replace k7 := grow_blk hw1 k7
          replace k8 := grow_blk hw1 k8
          replace k9 := grow_blk hw1 k9
          replace k11 := grow_blk hw1 k11
          replace k17 := grow_blk hw1 k17
          replace S := S.grow fj hw1
          clear hw1
          have c15 := blk_cell k11 15
          rw [cw_at _ _ (by rw [LB.out]; omega)] at c15
          have f15 := blk_frozen k11 15
          go_upto_region 24 with (fail)
          refine gen_world fun W2 hW => ?_
          replace S : St J F0 w (min n (b * 64 + 4 * 16)) W2 [g17, g11, g9, g8, g7, w.heap.size + 1, w.heap.size] := by subst hW; exact S.set fj _ _ (by simp) (by simp; omega)
          replace k4 := far_eq hW k4 (by simp; omega)
          replace k6 := far_eq hW k6 (by simp; omega)
          replace k7 := far_eq hW k7 (by simp; omega)
          replace k8 := far_eq hW k8 (by simp; omega)
          replace k9 := far_eq hW k9 (by simp; omega)
          replace k17 := far_eq hW k17 (by simp; omega)
          replace k11 : W2.heap[g11]? = some (.cells (cw (lastBlock ws b len)) 140 (0, 0)) := by subst hW; unfold lastBlock; rw [← cw_set]; exact blk_set k11 15 _
          clear hW c15 f15
          have LH := Lib.hid (hashAt_length n len bs b).1
          have LO := Lib.hid (hashAt_length n len bs b).2
          have LK := Lib.hid (lastBlock_length ws b len LB.out)
          obtain ⟨hs, hhs⟩ : ∃ hs, hs = (hashAt n len bs b).1 := ⟨_, rfl⟩
          obtain ⟨os, hos⟩ : ∃ os, os = (hashAt n len bs b).2 := ⟨_, rfl⟩
          obtain ⟨lb, hlb⟩ : ∃ lb, lb = lastBlock ws b len := ⟨_, rfl⟩
          rw [← hhs] at k7 LH
          rw [← hos] at k8 LO
          rw [← hlb] at k11 LK
          replace hhs := Lib.hid hhs
          replace hos := Lib.hid hos
          replace hlb := Lib.hid hlb
          refine wp_region_R 3 [7, 11] (by kernel_rfl) (by kernel_rfl) (by kernel_rfl) (by kernel_rfl) ?_
          intro K_ ops_ hops_ hK
          replace hops_ := Lib.hid hops_
          apply Exists.intro
          intro R_ hb_
          simp only [↓baseR, ↓nthR_succ, ↓nthR_zero] at hb_
          simp only [List.take_succ_cons, List.take_zero, List.drop_succ_cons, List.drop_zero]
          repeat (first
            | (apply LexR_det (by rfl) (by rfl) (by rfl) (fun w1 hw1 hd1 => ?_) (fun _ hr_ => ?_); rotate_right 2; (refine run_load_rowR (ty := 81) rfl ?_ (grow_blk hw1 k7) Tryz.underlying81 rfl ?_; (focus (go_simp; done)); (rw [cw_size, LH.out]; kernel_rfl))) | (apply LexR_det (by rfl) (by rfl) (by rfl) (fun w1 hw1 hd1 => ?_) (fun _ hr_ => ?_); rotate_right 2; (refine run_load_rowR (ty := 140) rfl ?_ (grow_blk hw1 k11) Tryz.underlying140 rfl ?_; (focus (go_simp; done)); (rw [cw_size, LK.out]; kernel_rfl)))
            
            | (apply LexR_callF (f := 97) (by rfl) (by rfl) (by rfl) Tryz.func97 (by kernel_rfl) (by kernel_rfl) (fun _ => ?_) (fun w1 hw1 hd1 => ?_) (fun _ hr_ => ?_); rotate_right 3; (go_simp; first | done | rfl); exact (Step_c _ _ LH.out LK.out w1))
            | (apply LexR_det (by rfl) (by rfl) (by rfl) (fun w1 hw1 hd1 => ?_) (fun _ hr_ => ?_); rotate_right 2; (go_simp; first | done | rfl ))
            | (apply LexR_box (by rfl) (by rfl) (by rfl) (fun w1 hw1 hd1 => ?_) (fun _ hr_ => ?_); rotate_right 2; (go_simp; first | done | rfl))
            | (apply LexR_bs (t := 76) (e := 80) (z := .agg #[.int .u32 0]) (ho := rfl) (by rfl) (by rfl) Tryz.underlying76 (by kernel_rfl) (by decide) (by decide) (fun _ => ?_) (fun _ => ?_) (fun _ => ?_) (fun _ hr_ => ?_); rotate_right 4; (go_simp; rfl); (exact ⟨rfl, rfl, rfl⟩); (simp only [List.map_cons, List.map_nil, List.flatMap_cons, List.flatMap_nil, Value.cells, List.cons_append, List.nil_append, List.append_nil]; rfl)))
          apply LexR_end
          refine hK _ _ ?_
          clear hK K_
          repeat clear hr_
          clear hb_ R_ hops_ ops_
          intro w1 hw1 hf1
          apply tailR (fun _ => ?_) (fun _ => ?_) ?_
          rotate_right 2
          · simp only [putAll, Act.put, List.setIfInBounds_toArray, List.set_cons_succ, List.set_cons_zero]; first | done | rfl
          · simp only [List.drop_succ_cons, List.drop_zero]; first | done | rfl
          simp [allFacts, contOf, Exp.putAt, Exp.fact, Exp.fresh, Exp.blk] at hf1
          clear hf1
          replace k4 := grow_blk hw1 k4
          replace k6 := grow_blk hw1 k6
          replace k7 := grow_blk hw1 k7
          replace k8 := grow_blk hw1 k8
          replace k9 := grow_blk hw1 k9
          replace k17 := grow_blk hw1 k17
          replace S : St J F0 w (min n (b * 64 + 4 * 16)) w1 [g17, g9, g8, g7, w.heap.size + 1, w.heap.size] := (S.grow fj hw1).less (by simp)
          clear hw1 k11
          have LN := Lib.hid (stepw_length hs lb LH.out)
          obtain ⟨hn2, hhn2⟩ : ∃ hn2, hn2 = stepw hs lb := ⟨_, rfl⟩
          rw [← hhn2] at LN ⊢
          replace hhn2 := Lib.hid hhn2
          refine wpList_store_row rfl _ _ _ rfl g7 (cw hn2) rfl rfl 81 _ k7 (by rw [cw_size, LN.out]; kernel_rfl) (by rw [cw_size, cw_size, LN.out, LH.out]) (cw_one _) ?_
          refine gen_list fun W2 hW => ?_
          replace S : St J F0 w (min n (b * 64 + 4 * 16)) W2 [g17, g9, g8, g7, w.heap.size + 1, w.heap.size] := by subst hW; exact S.row fj _ _ (by simp) (by omega)
          replace k4 := far_row hW k4 (by omega)
          replace k6 := far_row hW k6 (by omega)
          replace k8 := far_row hW k8 (by omega)
          replace k9 := far_row hW k9 (by omega)
          replace k17 := far_row hW k17 (by omega)
          replace k7 : W2.heap[g7]? = some (.cells (cw hn2) 81 (0, 0)) := by subst hW; exact setRow_blk k7 _
          clear hW
          go_wp2_with fail
          have S0 := S
          have k40 := k4
          have k60 := k6
          have k70 := k7
          have k80 : W2.heap[g8]? = some (.cells (cw (selTo (lastw b len) hn2 os 0)) 81 (0, 0)) := by rw [selTo_zero]; exact k8
          have k90 := k9
          have k170 := k17
          clear S k4 k6 k7 k8 k9 k17
          go_loopw [80] (fun i wr => ∃ j : Nat, j ≤ 8 ∧ i = .int .i64 (j : Int) ∧ St J F0 w (min n (b * 64 + 4 * 16)) wr [g17, g9, g8, g7, w.heap.size + 1, w.heap.size] ∧ wr.heap[w.heap.size]? = some (.cells #[.int .u32 (iw len)] 80 (0, 0)) ∧ wr.heap[w.heap.size + 1]? = some (.cells (Array.replicate 8 (.int .u32 0)) 81 (0, 0)) ∧ wr.heap[g7]? = some (.cells (cw hn2) 81 (0, 0)) ∧ wr.heap[g8]? = some (.cells (cw (selTo (lastw b len) hn2 os j)) 81 (0, 0)) ∧ wr.heap[g9]? = some (.cells #[.int .u32 (iw (shrI (len + kw 8) 6))] 80 (0, 0)) ∧ wr.heap[g17]? = some (.cells #[.int .u32 (iw (lastw b len))] 80 (0, 0))) (fun i _ => 8 - (intOf i).toNat)
          case atStart => exact ⟨0, by omega, rfl, S0, k40, k60, k70, k80, k90, k170⟩
          case round =>
            clear S0 k40 k60 k70 k80 k90 k170
            obtain ⟨j, hj, rfl, S, k4, k6, k7, k8, k9, k17⟩ := hrel
            have pj : (0 : Int) ≤ (j : Int) := by omega
            have bj : (j : Int) ≤ 8 := by omega
            by_cases hlj : j < 8
            · have hlj' : (j : Int) < 8 := by omega
              have c7 := blk_cell k7 j
              rw [cw_at _ _ (by rw [LN.out]; exact hlj)] at c7
              have c8 := blk_cell k8 j
              rw [cw_at _ _ (by rw [selTo_len _ _ _ LN.out LO.out j hj]; exact hlj), selTo_at _ _ _ LN.out LO.out j hlj] at c8
              go_upto_region 28 with (fail)
              refine wp_region_R 10 [7, 8, 17, 18] (by kernel_rfl) (by kernel_rfl) (by kernel_rfl) (by kernel_rfl) ?_
              intro K_ ops_ hops_ hK
              replace hops_ := Lib.hid hops_
              apply Exists.intro
              intro R_ hb_
              simp only [↓baseR, ↓nthR_succ, ↓nthR_zero] at hb_
              simp only [List.take_succ_cons, List.take_zero, List.drop_succ_cons, List.drop_zero]
              repeat (first
                
                
                | (apply LexR_callF (f := 88) (by rfl) (by rfl) (by rfl) Tryz.func88 (by kernel_rfl) (by kernel_rfl) (fun _ => ?_) (fun w1 hw1 hd1 => ?_) (fun _ hr_ => ?_); rotate_right 3; (go_simp; first | done | rfl); exact (Sel_c _ _ _ w1))
                | (apply LexR_det (by rfl) (by rfl) (by rfl) (fun w1 hw1 hd1 => ?_) (fun _ hr_ => ?_); rotate_right 2; (go_simp; first | done | rfl | (rw [blk_cell (grow_blk hw1 k17)]; focus ((try simp); first | done | rfl)) | (rw [grow_cell hw1 c7]; focus ((try simp); first | done | rfl)) | (rw [grow_cell hw1 c8]; focus ((try simp); first | done | rfl))))
                | (apply LexR_box (by rfl) (by rfl) (by rfl) (fun w1 hw1 hd1 => ?_) (fun _ hr_ => ?_); rotate_right 2; (go_simp; first | done | rfl))
                | (apply LexR_bs (t := 76) (e := 80) (z := .agg #[.int .u32 0]) (ho := rfl) (by rfl) (by rfl) Tryz.underlying76 (by kernel_rfl) (by decide) (by decide) (fun _ => ?_) (fun _ => ?_) (fun _ => ?_) (fun _ hr_ => ?_); rotate_right 4; (go_simp; rfl); (exact ⟨rfl, rfl, rfl⟩); (simp only [List.map_cons, List.map_nil, List.flatMap_cons, List.flatMap_nil, Value.cells, List.cons_append, List.nil_append, List.append_nil]; rfl)))
              apply LexR_end
              refine hK _ _ ?_
              clear hK K_
              repeat clear hr_
              clear hb_ R_ hops_ ops_
              intro w1 hw1 hf1
              apply tailR (fun _ => ?_) (fun _ => ?_) ?_
              rotate_right 2
              · simp only [putAll, Act.put, List.setIfInBounds_toArray, List.set_cons_succ, List.set_cons_zero]; first | done | rfl
              · simp only [List.drop_succ_cons, List.drop_zero]; first | done | rfl
              simp [allFacts, contOf, Exp.putAt, Exp.fact, Exp.fresh, Exp.blk] at hf1
              clear hf1 c7 c8
              replace k4 := grow_blk hw1 k4
              replace k6 := grow_blk hw1 k6
              replace k7 := grow_blk hw1 k7
              replace k8 := grow_blk hw1 k8
              replace k9 := grow_blk hw1 k9
              replace k17 := grow_blk hw1 k17
              replace S := S.grow fj hw1
              clear hw1
              have c8 := blk_cell k8 j
              rw [cw_at _ _ (by rw [selTo_len _ _ _ LN.out LO.out j hj]; exact hlj)] at c8
              have f8 := blk_frozen k8 j
              go_wp2_with fail
              refine ⟨⟨j + 1, by omega, congrArg (Value.int .i64) (by omega), S.set fj _ _ (by simp) (by simp; omega), blk_far k4 (by simp; omega) _, blk_far k6 (by simp; omega) _, blk_far k7 (by simp; omega) _, ?_, blk_far k9 (by simp; omega) _, blk_far k17 (by simp; omega) _⟩, by simp [intOf]; omega⟩
              rw [← selTo_set _ _ _ LN.out LO.out j hlj, ← cw_set]
              exact blk_set k8 j _
            · have hlj' : ¬ (j : Int) < 8 := by omega
              obtain rfl : j = 8 := by omega
              rw [selTo_end _ _ _ LN.out LO.out] at k8
              go_wp2_with fail
              refine ⟨⟨b + 1, by omega, congrArg (Value.int .i64) (by omega), ?_, k4, k6, ?_, ?_, k9⟩, by simp [intOf]; omega⟩
              · rw [show (b + 1) * 64 = b * 64 + 4 * 16 by omega]
                exact S.less (by simp)
              · rw [show (hashAt n len bs (b + 1)).1 = hn2 by rw [hhn2.out, hhs.out, hlb.out, hws.out]; rfl]
                exact k7
              · rw [show (hashAt n len bs (b + 1)).2 = selAt (lastw b len) hn2 os by rw [hhn2.out, hhs.out, hos.out, hlb.out, hws.out]; rfl]
                exact k8
    · have hlt' : ¬ (b : Int) < (N : Int) := by omega
      obtain rfl : b = N := by omega
      have LO := Lib.hid (hashAt_length n len bs b).2
      rw [show min n (b * 64) = n by omega] at S
      obtain ⟨os, hos⟩ : ∃ os, os = (hashAt n len bs b).2 := ⟨_, rfl⟩
      rw [← hos] at k8 LO
      have hres : os = hashw n len bs := by rw [hos, hashw, ← hN.out]
      go_upto_region 31 with (fail)
      refine wp_region_lit ?_
      refine wpList_load_row rfl _ _ rfl g8 rfl 81 (cw os) (0, 0) _ k8 Tryz.underlying81 rfl (by rw [cw_size, LO.out]; kernel_rfl) ?_
      refine wpList_store_row rfl _ _ _ rfl (w.heap.size + 1) (cw os) rfl rfl 81 _ k6 (by rw [cw_size, LO.out]; kernel_rfl) (by rw [cw_size, LO.out]; rfl) (cw_one _) ?_
      refine gen_list fun W2 hW => ?_
      replace k6 : W2.heap[w.heap.size + 1]? = some (.cells (cw os) 81 (0, 0)) := by subst hW; exact setRow_blk k6 _
      replace S : St J F0 w n W2 [] := by subst hW; exact (S.row fj _ _ (by simp) (by omega)).less (by simp)
      clear hW
      go_wp2
      exact bodyPost_ret (v := .agg (cw os)) (results_cell_row Tryz.results90 _ _ (w.heap.size + 1) 81 (cw os) (0, 0) _ rfl k6 Tryz.underlying81 rfl (by rw [cw_size, LO.out]; kernel_rfl)) rfl ⟨by rw [hres], S⟩
end Go.Proofs.YthnackakgglhbaaGreat

/- Contract of hmac.either: over any reader that is called for the bytes 0, 1, .., n - 1 in this order. -/
import Derived.Test.YthnackakgglhbaaGreatHb
namespace Go.Proofs.YthnackakgglhbaaGreat
open Go.RowKit
set_option maxRecDepth 100000
set_option linter.unusedSimpArgs false
set_option linter.unusedVariables false
attribute [local go_sem] evR_tmp evR_const evR_global evR_func
/-- The words of a key, cut at its length; the first k of them. -/
def firstL (len : W32) (bs : Nat → W32) (k : Nat) : List W32 := (List.range 64).map fun i => if i < k then mk (ltw (kw i) len) &&& bs i else 0#32
def digAt (D : List W32) (i : Nat) : W32 := if i < 32 then at32 D i else 0#32
/-- Behind k of the second loop's rounds. -/
def secondL (long : W32) (D l : List W32) (k : Nat) : List W32 := (List.range 64).map fun i => if i < k then selw long (digAt D i) (at32 l i) else at32 l i
def longW (len : W32) : W32 := mk (ltw (kw 64) len)
def eitherL (n : Nat) (len : W32) (bs : Nat → W32) (D : List W32) : List W32 := secondL (longW len) D (firstL len bs n) 64
theorem firstL_length (len : W32) (bs : Nat → W32) (k : Nat) : (firstL len bs k).length = 64 := by simp [firstL]
theorem secondL_length (long : W32) (D l : List W32) (k : Nat) : (secondL long D l k).length = 64 := by simp [secondL]
theorem firstL_set (len : W32) (bs : Nat → W32) (k : Nat) (hk : k < 64) : (firstL len bs k).set k (mk (ltw (kw k) len) &&& bs k) = firstL len bs (k + 1) := by
  apply List.ext_getElem?
  intro i
  by_cases q : i = k
  · subst q
    rw [List.getElem?_set_self (by rw [firstL_length]; exact hk)]
    simp [firstL, hk]
  · rw [List.getElem?_set_ne (Ne.symm q)]
    unfold firstL
    rw [List.getElem?_map, List.getElem?_map]
    by_cases h : i < 64
    · rw [List.getElem?_range h]
      simp only [Option.map_some]
      congr 1
      by_cases z : i < k
      · rw [if_pos z, if_pos (by omega)]
      · rw [if_neg z, if_neg (by omega)]
    · rw [List.getElem?_eq_none (by simp; omega)]
      rfl
theorem firstL_more (len : W32) (bs : Nat → W32) (k : Nat) (hk : 64 ≤ k) : firstL len bs (k + 1) = firstL len bs k := by
  unfold firstL
  apply List.map_congr_left
  intro i hi
  have := List.mem_range.1 hi
  rw [if_pos (by omega), if_pos (by omega)]
theorem firstL_zero (len : W32) (bs : Nat → W32) : cw (firstL len bs 0) = Array.replicate 64 (.int .u32 0) := by
  have e : firstL len bs 0 = List.replicate 64 0#32 := by
    unfold firstL
    simp only [Nat.not_lt_zero, if_false]
    rfl
  rw [e]; rfl
theorem secondL_zero (long : W32) (D l : List W32) (h : l.length = 64) : secondL long D l 0 = l := by
  unfold secondL
  simp only [Nat.not_lt_zero, if_false]
  apply List.ext_getElem?
  intro i
  rw [List.getElem?_map]
  by_cases hi : i < 64
  · rw [List.getElem?_range hi]
    simp [at32, h, hi]
  · rw [List.getElem?_eq_none (by simp; omega), List.getElem?_eq_none (by omega)]
    rfl
theorem secondL_set (long : W32) (D l : List W32) (k : Nat) (hk : k < 64) : (secondL long D l k).set k (selw long (digAt D k) (at32 l k)) = secondL long D l (k + 1) := by
  apply List.ext_getElem?
  intro i
  by_cases q : i = k
  · subst q
    rw [List.getElem?_set_self (by rw [secondL_length]; exact hk)]
    simp [secondL, hk]
  · rw [List.getElem?_set_ne (Ne.symm q)]
    unfold secondL
    rw [List.getElem?_map, List.getElem?_map]
    by_cases h : i < 64
    · rw [List.getElem?_range h]
      simp only [Option.map_some]
      congr 1
      by_cases z : i < k
      · rw [if_pos z, if_pos (by omega)]
      · rw [if_neg z, if_neg (by omega)]
    · rw [List.getElem?_eq_none (by simp; omega)]
      rfl
theorem secondL_at (long : W32) (D l : List W32) (k : Nat) (hk : k < 64) : at32 (secondL long D l k) k = at32 l k := by
  simp [at32, secondL, hk]
set_option maxHeartbeats 8000000 in
theorem either_c {J : Nat → World → (Nat → Prop) → Prop} (fj : Foot J) {F0 : Nat → Prop} {fc : FuncId} {fn : Func} {cap : Array Value} (hf : Tryz.prog.funcs[fc]? = some fn) (hn : (fn.name == "runtime.NumGoroutine") = false) (hb : fn.body.isNone = false)
    (n : Nat) (hn1 : n ≤ 1000000) (len : W32) (bs : Nat → W32) (sm : List W32) (hsm : sm.length = 8)
    (hat : ∀ k W F, k < n → J k W F → Calls Tryz.prog fc (#[.int .i64 (k : Int)] ++ cap) W fun e W' => e = .returned (.agg #[.int .u32 (iw (bs k))]) ∧ Read J k F W W')
    (w : World) (hJ : J 0 w F0) :
    Calls Tryz.prog 69 #[.int .i64 (n : Int), .agg #[.int .u32 (iw len)], .func (.func fc) #[] cap, .agg (cw sm)] w fun e w' => e = .returned (.agg (cw (stateW (lowB (eitherL n len bs (bytesw sm)))))) ∧ St J F0 w n w' [] := by
  have L8 := Lib.hid hsm
  have LD := Lib.hid (bytesw_length sm hsm)
  have hBy := fun w => Bytes_own sm hsm w
  clear hsm
  generalize bytesw sm = D at LD hBy ⊢
  have HS := fun w => state_c (eitherL n len bs D) (secondL_length _ _ _ _) w
  have LS := Lib.hid (stateW_length (lowB (eitherL n len bs D)))
  generalize hst : stateW (lowB (eitherL n len bs D)) = st at HS LS ⊢
  replace hst := Lib.hid hst
  go_enter Tryz.func69, Tryz.ntmps69
  go_upto_region 1 with (fail)
  refine gen_world fun W hW => ?_
  have k5 : W.heap[w.heap.size]? = some (.cells #[.int .u32 (iw len)] 80 (0, 0)) := by subst hW; (repeat (first | (with_reducible assumption) | ((with_reducible refine blk_new' ?_ _); (simp; done)) | ((with_reducible refine blk_alloc ?_ _)) | ((with_reducible refine blk_far ?_ ?_ _); (simp <;> omega))))
  have k7 : W.heap[w.heap.size + 1]? = some (.cells (cw sm) 81 (0, 0)) := by subst hW; (repeat (first | (with_reducible assumption) | ((with_reducible refine blk_new' ?_ _); (simp; done)) | ((with_reducible refine blk_alloc ?_ _)) | ((with_reducible refine blk_far ?_ ?_ _); (simp <;> omega))))
  have k8 : W.heap[w.heap.size + 1 + 1]? = some (.cells (Array.replicate 16 (.int .u32 0)) 83 (0, 0)) := by subst hW; exact blk_new' (by simp) _
  have HB : Below w.heap.size w W := by subst hW; (repeat (first | exact Below.refl _ _ | (refine bl_alloc ?_ _) | (refine bl_drewN ?_ _) | (refine bl_drew ?_) | (refine bl_call (by assumption) ?_) | (refine bl_set _ _ (by simp <;> omega) ?_) | assumption))
  clear hW
  have q8 := blk_lt k8
  have S : St J F0 w 0 W [w.heap.size + 1 + 1, w.heap.size + 1, w.heap.size] := (St.start (w := w) (F0 := F0) hJ).take fj [w.heap.size + 1 + 1, w.heap.size + 1, w.heap.size] (by simp <;> omega) HB
  clear HB
  refine wp_region_R 5 [5] (by kernel_rfl) (by kernel_rfl) (by kernel_rfl) (by kernel_rfl) ?_
  intro K_ ops_ hops_ hK
  replace hops_ := Lib.hid hops_
  apply Exists.intro
  intro R_ hb_
  simp only [↓baseR, ↓nthR_succ, ↓nthR_zero] at hb_
  simp only [List.take_succ_cons, List.take_zero, List.drop_succ_cons, List.drop_zero]
  repeat (first
    
    | (apply LexR_put (j := 3) (ho := rfl); (go_simp; rfl); (go_simp; rfl); rfl; rfl; (focus (first | decide | (simp; done))); rfl; rfl; kernel_rfl; kernel_rfl; (first | exact cw_one _ | simp [Value.oneCell']); (first | (rw [cw_size, L64.out]; rfl) | (rw [cw_size, L8.out]; rfl) | (rw [cw_size]; rfl) | rfl); intro _)
    | (apply LexR_callF (f := 68) (by rfl) (by rfl) (by rfl) Tryz.func68 (by kernel_rfl) (by kernel_rfl) (fun _ => ?_) (fun w1 hw1 hd1 => ?_) (fun _ hr_ => ?_); rotate_right 3; (go_simp; first | done | rfl); exact (Of_c _ (kw 64) rfl w1)) | (apply LexR_callF (f := 87) (by rfl) (by rfl) (by rfl) Tryz.func87 (by kernel_rfl) (by kernel_rfl) (fun _ => ?_) (fun w1 hw1 hd1 => ?_) (fun _ hr_ => ?_); rotate_right 3; (go_simp; first | done | rfl); exact (Lt_c _ _ w1))
    | (apply LexR_det (by rfl) (by rfl) (by rfl) (fun w1 hw1 hd1 => ?_) (fun _ hr_ => ?_); rotate_right 2; (go_simp; first | done | rfl | (rw [blk_cell (grow_blk hw1 k5)]; focus ((try simp); first | done | rfl))))
    | (apply LexR_box (by rfl) (by rfl) (by rfl) (fun w1 hw1 hd1 => ?_) (fun _ hr_ => ?_); rotate_right 2; (go_simp; first | done | rfl))
    | (apply LexR_bs (t := 76) (e := 80) (z := .agg #[.int .u32 0]) (ho := rfl) (by rfl) (by rfl) Tryz.underlying76 (by kernel_rfl) (by decide) (by decide) (fun _ => ?_) (fun _ => ?_) (fun _ => ?_) (fun _ hr_ => ?_); rotate_right 4; (go_simp; rfl); (exact ⟨rfl, rfl, rfl⟩); (simp only [List.map_cons, List.map_nil, List.flatMap_cons, List.flatMap_nil, Value.cells, List.cons_append, List.nil_append, List.append_nil]; rfl)))
  apply LexR_end
  refine hK _ _ ?_
  clear hK K_
  repeat clear hr_
  clear hb_ R_ hops_ ops_
  intro w1 hw1 hf1
  apply tailR (fun _ => ?_) (fun _ => ?_) ?_
  rotate_right 2
  · simp only [putAll, Act.put, List.setIfInBounds_toArray, List.set_cons_succ, List.set_cons_zero]; first | done | rfl
  · simp only [List.drop_succ_cons, List.drop_zero]; first | done | rfl
  simp [allFacts, contOf, Exp.putAt, Exp.fact, Exp.fresh, Exp.blk] at hf1
  obtain ⟨k9, l9⟩ := hf1
  replace k5 := grow_blk hw1 k5
  replace k7 := grow_blk hw1 k7
  replace k8 := grow_blk hw1 k8
  obtain ⟨g9, e_⟩ := name_blk k9
  subst e_
  replace S : St J F0 w 0 w1 [g9, w.heap.size + 1 + 1, w.heap.size + 1, w.heap.size] := S.take fj [g9] (by simp; omega) hw1
  have m9 : w.heap.size + 1 + 1 < g9 := by omega
  have q9 := blk_lt k9
  clear hw1 l9 q8
  replace k9 : w1.heap[g9]? = some (.cells #[.int .u32 (iw (longW len))] 80 (0, 0)) := k9
  generalize hlw : longW len = lw at k9
  go_upto_region 2 with (fail)
  refine wp_region_R 2 [7] (by kernel_rfl) (by kernel_rfl) (by kernel_rfl) (by kernel_rfl) ?_
  intro K_ ops_ hops_ hK
  replace hops_ := Lib.hid hops_
  apply Exists.intro
  intro R_ hb_
  simp only [↓baseR, ↓nthR_succ, ↓nthR_zero] at hb_
  simp only [List.take_succ_cons, List.take_zero, List.drop_succ_cons, List.drop_zero]
  repeat (first
    | (apply LexR_det (by rfl) (by rfl) (by rfl) (fun w1 hw1 hd1 => ?_) (fun _ hr_ => ?_); rotate_right 2; (refine run_load_rowR (ty := 81) rfl ?_ (grow_blk hw1 k7) Tryz.underlying81 rfl ?_; (focus (go_simp; done)); (rw [cw_size, L8.out]; kernel_rfl)))
    
    | (apply LexR_own (f := 45) (by rfl) (by rfl) (by rfl) Tryz.func45 (by kernel_rfl) (by kernel_rfl) (fun _ => ?_) (fun w1 hw1 hd1 => ?_) (fun _ hr_ => ?_); rotate_right 3; (go_simp; first | done | rfl); exact (hBy w1))
    | (apply LexR_det (by rfl) (by rfl) (by rfl) (fun w1 hw1 hd1 => ?_) (fun _ hr_ => ?_); rotate_right 2; (go_simp; first | done | rfl ))
    | (apply LexR_box (by rfl) (by rfl) (by rfl) (fun w1 hw1 hd1 => ?_) (fun _ hr_ => ?_); rotate_right 2; (go_simp; first | done | rfl))
    | (apply LexR_bs (t := 76) (e := 80) (z := .agg #[.int .u32 0]) (ho := rfl) (by rfl) (by rfl) Tryz.underlying76 (by kernel_rfl) (by decide) (by decide) (fun _ => ?_) (fun _ => ?_) (fun _ => ?_) (fun _ hr_ => ?_); rotate_right 4; (go_simp; rfl); (exact ⟨rfl, rfl, rfl⟩); (simp only [List.map_cons, List.map_nil, List.flatMap_cons, List.flatMap_nil, Value.cells, List.cons_append, List.nil_append, List.append_nil]; rfl)))
  apply LexR_end
  refine hK _ _ ?_
  clear hK K_
  repeat clear hr_
  clear hb_ R_ hops_ ops_
  intro w1 hw1 hf1
  apply tailR (fun _ => ?_) (fun _ => ?_) ?_
  rotate_right 2
  · simp only [putAll, Act.put, List.setIfInBounds_toArray, List.set_cons_succ, List.set_cons_zero]; first | done | rfl
  · simp only [List.drop_succ_cons, List.drop_zero]; first | done | rfl
  simp [allFacts, contOf, Exp.putAt, Exp.fact, Exp.fresh, Exp.blk] at hf1
  rename_i p20
  obtain ⟨⟨cur, k10, t10⟩, l10⟩ := hf1
  replace k5 := grow_blk hw1 k5
  replace k8 := grow_blk hw1 k8
  replace k9 := grow_blk hw1 k9
  replace S := (S.take fj [ownBlk p20] (by simp; omega) hw1).less (own' := [ownBlk p20, g9, w.heap.size + 1 + 1, w.heap.size]) (by simp)
  have m10 : g9 < ownBlk p20 := by omega
  clear hw1 l10 q9 k7 hBy
  generalize ownBlk p20 = g10 at k10 S m10 ⊢
  have q10 := blk_lt k10
  go_upto_region 4 with (fail)
  refine gen_world fun W hW => ?_
  have k11 : W.heap[w1.heap.size]? = some (.cells (Array.replicate 64 (.int .u32 0)) 123 (0, 0)) := by subst hW; exact blk_new' (by simp) _
  have HB : Below w1.heap.size w1 W := by subst hW; (repeat (first | exact Below.refl _ _ | (refine bl_alloc ?_ _) | (refine bl_drewN ?_ _) | (refine bl_drew ?_) | (refine bl_call (by assumption) ?_) | (refine bl_set _ _ (by simp <;> omega) ?_) | assumption))
  clear hW
  replace S := S.take fj [w1.heap.size] (by simp) HB
  replace k5 := grow_blk HB k5
  replace k8 := grow_blk HB k8
  replace k9 := grow_blk HB k9
  replace k10 := grow_blk HB k10
  obtain ⟨g11, hg11⟩ : ∃ g, g = w1.heap.size := ⟨_, rfl⟩
  rw [← hg11] at k11 S ⊢
  have m11 : g10 < g11 := by omega
  clear HB hg11 q10
  go_wp2_with fail
  have S0 : St J F0 w 0 W [g11, g10, g9, w.heap.size + 1 + 1, w.heap.size] := S
  have k50 := k5
  have k80 := k8
  have k90 := k9
  have k100 := k10
  have k110 : W.heap[g11]? = some (.cells (cw (firstL len bs 0)) 123 (0, 0)) := by rw [firstL_zero]; exact k11
  clear S k5 k8 k9 k10 k11
  go_loopw [22] (fun i wr => ∃ k : Nat, k ≤ n ∧ i = .int .i64 (k : Int) ∧ St J F0 w k wr [g11, g10, g9, w.heap.size + 1 + 1, w.heap.size] ∧ wr.heap[w.heap.size]? = some (.cells #[.int .u32 (iw len)] 80 (0, 0)) ∧ wr.heap[w.heap.size + 1 + 1]? = some (.cells (Array.replicate 16 (.int .u32 0)) 83 (0, 0)) ∧ wr.heap[g9]? = some (.cells #[.int .u32 (iw lw)] 80 (0, 0)) ∧ wr.heap[g10]? = some (.cells cur 80 (0, 0)) ∧ wr.heap[g11]? = some (.cells (cw (firstL len bs k)) 123 (0, 0))) (fun i _ => n - (intOf i).toNat)
  case atStart => exact ⟨0, by omega, rfl, S0, k50, k80, k90, k100, k110⟩
  case round =>
    clear S0 k50 k80 k90 k100 k110
    obtain ⟨k, hk, rfl, S, k5, k8, k9, k10, k11⟩ := hrel
    have pk : (0 : Int) ≤ (k : Int) := by omega
    by_cases hlt : k < n
    · have hlt' : (k : Int) < (n : Int) := by omega
      have q11 := blk_lt k11
      obtain ⟨F, hJF, hR⟩ := S.read (by
        have q5 := blk_lt k5
        have q8 := blk_lt k8
        have q9 := blk_lt k9
        have q10 := blk_lt k10
        intro x hx
        simp at hx
        omega)
      go_upto_region 7 with (fail)
      go_wp2_with fail
      rw [run_callFunc hf hn hb, Oper.upon_enter]
      refine (hat k wr F hlt hJF).mono ?_
      rintro e w5 ⟨rfl, hr⟩
      have hsz : wr.heap.size ≤ w5.heap.size := hr.apart.size
      obtain ⟨S5, hown⟩ := hR w5 hr
      clear S hR hJF hr
      replace k5 := (hown (w.heap.size) (by simp)).trans k5
      replace k8 := (hown (w.heap.size + 1 + 1) (by simp)).trans k8
      replace k9 := (hown g9 (by simp)).trans k9
      replace k10 := (hown g10 (by simp)).trans k10
      replace k11 := (hown g11 (by simp)).trans k11
      clear hown
      go_upto_region 8 with (fail)
      refine gen_world fun W5 hW => ?_
      have k13 : W5.heap[w5.heap.size]? = some (.cells #[.int .u32 (iw (bs k))] 80 (0, 0)) := by subst hW; (repeat (first | (with_reducible assumption) | ((with_reducible refine blk_new' ?_ _); (simp; done)) | ((with_reducible refine blk_alloc ?_ _)) | ((with_reducible refine blk_far ?_ ?_ _); (simp <;> omega))))
      have HB : Below w5.heap.size w5 W5 := by subst hW; (repeat (first | exact Below.refl _ _ | (refine bl_alloc ?_ _) | (refine bl_drewN ?_ _) | (refine bl_drew ?_) | (refine bl_call (by assumption) ?_) | (refine bl_set _ _ (by simp <;> omega) ?_) | assumption))
      clear hW
      have S := S5.take fj [w5.heap.size] (by simp) HB
      replace k5 := grow_blk HB k5
      replace k8 := grow_blk HB k8
      replace k9 := grow_blk HB k9
      replace k10 := grow_blk HB k10
      replace k11 := grow_blk HB k11
      obtain ⟨g13, hg13⟩ : ∃ g, g = w5.heap.size := ⟨_, rfl⟩
      rw [← hg13] at k13 S ⊢
      have m13 : g11 < g13 := by omega
      clear HB hg13 S5 hsz q11
      by_cases h64 : k < 64
      · have h64' : (k : Int) < 64 := by omega
        go_upto_region 9 with (fail)
        refine wp_region_R 9 [5, 11, 12, 13] (by kernel_rfl) (by kernel_rfl) (by kernel_rfl) (by kernel_rfl) ?_
        intro K_ ops_ hops_ hK
        replace hops_ := Lib.hid hops_
        apply Exists.intro
        intro R_ hb_
        simp only [↓baseR, ↓nthR_succ, ↓nthR_zero] at hb_
        simp only [List.take_succ_cons, List.take_zero, List.drop_succ_cons, List.drop_zero]
        repeat (first
          
          
          | (apply LexR_callF (f := 68) (by rfl) (by rfl) (by rfl) Tryz.func68 (by kernel_rfl) (by kernel_rfl) (fun _ => ?_) (fun w1 hw1 hd1 => ?_) (fun _ hr_ => ?_); rotate_right 3; (go_simp; first | done | rfl); exact (Of_c _ (kw k) (conv_kw k (by omega)) w1)) | (apply LexR_callF (f := 87) (by rfl) (by rfl) (by rfl) Tryz.func87 (by kernel_rfl) (by kernel_rfl) (fun _ => ?_) (fun w1 hw1 hd1 => ?_) (fun _ hr_ => ?_); rotate_right 3; (go_simp; first | done | rfl); exact (Lt_c _ _ w1)) | (apply LexR_callF (f := 66) (by rfl) (by rfl) (by rfl) Tryz.func66 (by kernel_rfl) (by kernel_rfl) (fun _ => ?_) (fun w1 hw1 hd1 => ?_) (fun _ hr_ => ?_); rotate_right 3; (go_simp; first | done | rfl); exact (And_c _ _ w1))
          | (apply LexR_det (by rfl) (by rfl) (by rfl) (fun w1 hw1 hd1 => ?_) (fun _ hr_ => ?_); rotate_right 2; (go_simp; first | done | rfl | (rw [blk_cell (grow_blk hw1 k5)]; focus ((try simp); first | done | rfl)) | (rw [blk_cell (grow_blk hw1 k13)]; focus ((try simp); first | done | rfl))))
          | (apply LexR_box (by rfl) (by rfl) (by rfl) (fun w1 hw1 hd1 => ?_) (fun _ hr_ => ?_); rotate_right 2; (go_simp; first | done | rfl))
          | (apply LexR_bs (t := 76) (e := 80) (z := .agg #[.int .u32 0]) (ho := rfl) (by rfl) (by rfl) Tryz.underlying76 (by kernel_rfl) (by decide) (by decide) (fun _ => ?_) (fun _ => ?_) (fun _ => ?_) (fun _ hr_ => ?_); rotate_right 4; (go_simp; rfl); (exact ⟨rfl, rfl, rfl⟩); (simp only [List.map_cons, List.map_nil, List.flatMap_cons, List.flatMap_nil, Value.cells, List.cons_append, List.nil_append, List.append_nil]; rfl)))
        apply LexR_end
        refine hK _ _ ?_
        clear hK K_
        repeat clear hr_
        clear hb_ R_ hops_ ops_
        intro w1 hw1 hf1
        apply tailR (fun _ => ?_) (fun _ => ?_) ?_
        rotate_right 2
        · simp only [putAll, Act.put, List.setIfInBounds_toArray, List.set_cons_succ, List.set_cons_zero]; first | done | rfl
        · simp only [List.drop_succ_cons, List.drop_zero]; first | done | rfl
        simp [allFacts, contOf, Exp.putAt, Exp.fact, Exp.fresh, Exp.blk] at hf1
        clear hf1
        replace k5 := grow_blk hw1 k5
        replace k8 := grow_blk hw1 k8
        replace k9 := grow_blk hw1 k9
        replace k10 := grow_blk hw1 k10
        replace k11 := grow_blk hw1 k11
        replace S := (S.grow fj hw1).less (own' := [g11, g10, g9, w.heap.size + 1 + 1, w.heap.size]) (by simp)
        clear hw1 k13
        have c11 := blk_cell k11 k
        rw [cw_at _ _ (by rw [firstL_length]; exact h64)] at c11
        have f11 := blk_frozen k11 k
        go_wp2_with fail
        go_roundw
        case measure => simp [intOf] <;> omega
        refine ⟨k + 1, by omega, congrArg (Value.int .i64) (by omega), S.set fj _ _ (by simp) (by simp <;> omega), blk_far k5 (by simp <;> omega) _, blk_far k8 (by simp <;> omega) _, blk_far k9 (by simp <;> omega) _, blk_far k10 (by simp <;> omega) _, ?_⟩
        rw [← firstL_set len bs k h64, ← cw_set]
        exact blk_set k11 k _
      · have h64' : ¬ (k : Int) < 64 := by omega
        replace S := S.less (own' := [g11, g10, g9, w.heap.size + 1 + 1, w.heap.size]) (by simp)
        go_wp2_with fail
        go_roundw
        case measure => simp [intOf] <;> omega
        exact ⟨k + 1, by omega, congrArg (Value.int .i64) (by omega), S, k5, k8, k9, k10, by rw [firstL_more len bs k (by omega)]; exact k11⟩
    · obtain rfl : k = n := by omega
      have hlt' : ¬ (k : Int) < (k : Int) := by omega
      clear hat
      replace hst : Hid (stateW (lowB (secondL lw D (firstL len bs k) 64)) = st) := by rw [← hlw]; exact hst
      replace HS : ∀ w, Calls Tryz.prog 89 #[.agg (cw (secondL lw D (firstL len bs k) 64))] w fun e w' => e = .returned (.agg (cw st)) ∧ Below w.heap.size w w' := by rw [← hlw]; exact HS
      clear hlw
      have LF := Lib.hid (firstL_length len bs k)
      generalize firstL len bs k = fl at k11 HS hst LF
      go_upto_region 11 with (fail)
      go_wp2_with fail
      have S0 := S
      have k80 := k8
      have k90 := k9
      have k100 := k10
      have k110 : wr.heap[g11]? = some (.cells (cw (secondL lw D fl 0)) 123 (0, 0)) := by rw [secondL_zero _ _ _ LF.out]; exact k11
      clear S k5 k8 k9 k10 k11
      go_loopw [40] (fun i wr => ∃ j : Nat, j ≤ 64 ∧ i = .int .i64 (j : Int) ∧ St J F0 w k wr [g11, g10, g9, w.heap.size + 1 + 1, w.heap.size] ∧ wr.heap[w.heap.size + 1 + 1]? = some (.cells (Array.replicate 16 (.int .u32 0)) 83 (0, 0)) ∧ wr.heap[g9]? = some (.cells #[.int .u32 (iw lw)] 80 (0, 0)) ∧ wr.heap[g10]? = some (.cells cur 80 (0, 0)) ∧ wr.heap[g11]? = some (.cells (cw (secondL lw D fl j)) 123 (0, 0))) (fun i _ => 64 - (intOf i).toNat)
      case atStart => exact ⟨0, by omega, rfl, S0, k80, k90, k100, k110⟩
      case round =>
        clear S0 k80 k90 k100 k110
        obtain ⟨j, hj, rfl, S, k8, k9, k10, k11⟩ := hrel
        have pj : (0 : Int) ≤ (j : Int) := by omega
        by_cases hlj : j < 64
        · have hlj' : (j : Int) < 64 := by omega
          have q11 := blk_lt k11
          go_upto_region 14 with (fail)
          refine wp_region_R 3 [] (by kernel_rfl) (by kernel_rfl) (by kernel_rfl) (by kernel_rfl) ?_
          intro K_ ops_ hops_ hK
          replace hops_ := Lib.hid hops_
          apply Exists.intro
          intro R_ hb_
          simp only [↓baseR, ↓nthR_succ, ↓nthR_zero] at hb_
          simp only [List.take_succ_cons, List.take_zero, List.drop_succ_cons, List.drop_zero]
          repeat (first
            
            | (apply LexR_put (j := 1) (ho := rfl); (go_simp; rfl); (go_simp; rfl); rfl; rfl; (focus (first | decide | (simp; done))); rfl; rfl; kernel_rfl; kernel_rfl; (first | exact cw_one _ | simp [Value.oneCell']); (first | (rw [cw_size, L64.out]; rfl) | (rw [cw_size, L8.out]; rfl) | (rw [cw_size]; rfl) | rfl); intro _)
            | (apply LexR_callF (f := 68) (by rfl) (by rfl) (by rfl) Tryz.func68 (by kernel_rfl) (by kernel_rfl) (fun _ => ?_) (fun w1 hw1 hd1 => ?_) (fun _ hr_ => ?_); rotate_right 3; (go_simp; first | done | rfl); exact (Of_c _ (kw 0) rfl w1))
            | (apply LexR_det (by rfl) (by rfl) (by rfl) (fun w1 hw1 hd1 => ?_) (fun _ hr_ => ?_); rotate_right 2; (go_simp; first | done | rfl ))
            | (apply LexR_box (by rfl) (by rfl) (by rfl) (fun w1 hw1 hd1 => ?_) (fun _ hr_ => ?_); rotate_right 2; (go_simp; first | done | rfl))
            | (apply LexR_bs (t := 76) (e := 80) (z := .agg #[.int .u32 0]) (ho := rfl) (by rfl) (by rfl) Tryz.underlying76 (by kernel_rfl) (by decide) (by decide) (fun _ => ?_) (fun _ => ?_) (fun _ => ?_) (fun _ hr_ => ?_); rotate_right 4; (go_simp; rfl); (exact ⟨rfl, rfl, rfl⟩); (simp only [List.map_cons, List.map_nil, List.flatMap_cons, List.flatMap_nil, Value.cells, List.cons_append, List.nil_append, List.append_nil]; rfl)))
          apply LexR_end
          refine hK _ _ ?_
          clear hK K_
          repeat clear hr_
          clear hb_ R_ hops_ ops_
          intro w1 hw1 hf1
          apply tailR (fun _ => ?_) (fun _ => ?_) ?_
          rotate_right 2
          · simp only [putAll, Act.put, List.setIfInBounds_toArray, List.set_cons_succ, List.set_cons_zero]; first | done | rfl
          · simp only [List.drop_succ_cons, List.drop_zero]; first | done | rfl
          simp [allFacts, contOf, Exp.putAt, Exp.fact, Exp.fresh, Exp.blk] at hf1
          obtain ⟨k15, l15⟩ := hf1
          obtain ⟨g15, e_⟩ := name_blk k15
          subst e_
          replace k8 := grow_blk hw1 k8
          replace k9 := grow_blk hw1 k9
          replace k10 := grow_blk hw1 k10
          replace k11 := grow_blk hw1 k11
          replace S := S.take fj [g15] (by simp; omega) hw1
          have m15 : g11 < g15 := by omega
          clear hw1 l15 q11
          have HX : ∃ W2, True := ⟨w1, trivial⟩
          by_cases h32 : j < 32
          · have h32' : (j : Int) < 32 := by omega
            have c10 : w1.cell? ⟨g10, j, none⟩ = some (.int .u32 (iw (at32 D j))) := by
              rw [own_cell k10 t10 h32]
              simp [LD.out, h32, sec, at32]
            have c15 := blk_cell k15 0
            have f15 := blk_frozen k15 0
            go_upto_region 17 with (fail)
            refine gen_world fun W2 hW => ?_
            replace k8 := far_eq hW k8 (by simp; omega)
            replace k9 := far_eq hW k9 (by simp; omega)
            replace k10 := far_eq hW k10 (by simp; omega)
            replace k11 := far_eq hW k11 (by simp; omega)
            replace S : St J F0 w k W2 [g15, g11, g10, g9, w.heap.size + 1 + 1, w.heap.size] := by subst hW; exact S.set fj _ _ (by simp) (by simp; omega)
            replace k15 : W2.heap[g15]? = some (.cells #[.int .u32 (iw (digAt D j))] 80 (0, 0)) := by subst hW; rw [show digAt D j = at32 D j by simp [digAt, h32]]; exact blk_set k15 0 _
            clear hW c10 c15 f15
            have c11 := blk_cell k11 j
            rw [cw_at _ _ (by rw [secondL_length]; exact hlj), secondL_at _ _ _ _ hlj] at c11
            refine wp_region_R 8 [9, 11, 14, 15] (by kernel_rfl) (by kernel_rfl) (by kernel_rfl) (by kernel_rfl) ?_
            intro K_ ops_ hops_ hK
            replace hops_ := Lib.hid hops_
            apply Exists.intro
            intro R_ hb_
            simp only [↓baseR, ↓nthR_succ, ↓nthR_zero] at hb_
            simp only [List.take_succ_cons, List.take_zero, List.drop_succ_cons, List.drop_zero]
            repeat (first
              
              
              | (apply LexR_callF (f := 88) (by rfl) (by rfl) (by rfl) Tryz.func88 (by kernel_rfl) (by kernel_rfl) (fun _ => ?_) (fun w1 hw1 hd1 => ?_) (fun _ hr_ => ?_); rotate_right 3; (go_simp; first | done | rfl); exact (Sel_c _ _ _ w1))
              | (apply LexR_det (by rfl) (by rfl) (by rfl) (fun w1 hw1 hd1 => ?_) (fun _ hr_ => ?_); rotate_right 2; (go_simp; first | done | rfl | (rw [blk_cell (grow_blk hw1 k9)]; focus ((try simp); first | done | rfl)) | (rw [blk_cell (grow_blk hw1 k15)]; focus ((try simp); first | done | rfl)) | (rw [grow_cell hw1 c11]; focus ((try simp); first | done | rfl))))
              | (apply LexR_box (by rfl) (by rfl) (by rfl) (fun w1 hw1 hd1 => ?_) (fun _ hr_ => ?_); rotate_right 2; (go_simp; first | done | rfl))
              | (apply LexR_bs (t := 76) (e := 80) (z := .agg #[.int .u32 0]) (ho := rfl) (by rfl) (by rfl) Tryz.underlying76 (by kernel_rfl) (by decide) (by decide) (fun _ => ?_) (fun _ => ?_) (fun _ => ?_) (fun _ hr_ => ?_); rotate_right 4; (go_simp; rfl); (exact ⟨rfl, rfl, rfl⟩); (simp only [List.map_cons, List.map_nil, List.flatMap_cons, List.flatMap_nil, Value.cells, List.cons_append, List.nil_append, List.append_nil]; rfl)))
            apply LexR_end
            refine hK _ _ ?_
            clear hK K_
            repeat clear hr_
            clear hb_ R_ hops_ ops_
            intro w1 hw1 hf1
            apply tailR (fun _ => ?_) (fun _ => ?_) ?_
            rotate_right 2
            · simp only [putAll, Act.put, List.setIfInBounds_toArray, List.set_cons_succ, List.set_cons_zero]; first | done | rfl
            · simp only [List.drop_succ_cons, List.drop_zero]; first | done | rfl
            simp [allFacts, contOf, Exp.putAt, Exp.fact, Exp.fresh, Exp.blk] at hf1
            clear hf1 c11
            replace k8 := grow_blk hw1 k8
            replace k9 := grow_blk hw1 k9
            replace k10 := grow_blk hw1 k10
            replace k11 := grow_blk hw1 k11
            replace S := (S.grow fj hw1).less (own' := [g11, g10, g9, w.heap.size + 1 + 1, w.heap.size]) (by simp)
            clear hw1 k15
            have cs := blk_cell k11 j
            rw [cw_at _ _ (by rw [secondL_length]; exact hlj)] at cs
            have fs := blk_frozen k11 j
            go_wp2_with fail
            go_roundw
            case measure => simp [intOf] <;> omega
            refine ⟨j + 1, by omega, congrArg (Value.int .i64) (by omega), S.set fj _ _ (by simp) (by simp <;> omega), blk_far k8 (by simp <;> omega) _, blk_far k9 (by simp <;> omega) _, blk_far k10 (by simp <;> omega) _, ?_⟩
            rw [← secondL_set lw D fl j hlj, ← cw_set]
            exact blk_set k11 j _
          · have h32' : ¬ (j : Int) < 32 := by omega
            replace k15 : w1.heap[g15]? = some (.cells #[.int .u32 (iw (digAt D j))] 80 (0, 0)) := by rw [show digAt D j = kw 0 by simp [digAt, h32]; rfl]; exact k15
            go_upto_region 17 with (fail)
            have c11 := blk_cell k11 j
            rw [cw_at _ _ (by rw [secondL_length]; exact hlj), secondL_at _ _ _ _ hlj] at c11
            refine wp_region_R 8 [9, 11, 14, 15] (by kernel_rfl) (by kernel_rfl) (by kernel_rfl) (by kernel_rfl) ?_
            intro K_ ops_ hops_ hK
            replace hops_ := Lib.hid hops_
            apply Exists.intro
            intro R_ hb_
            simp only [↓baseR, ↓nthR_succ, ↓nthR_zero] at hb_
            simp only [List.take_succ_cons, List.take_zero, List.drop_succ_cons, List.drop_zero]
            repeat (first
              
              
              | (apply LexR_callF (f := 88) (by rfl) (by rfl) (by rfl) Tryz.func88 (by kernel_rfl) (by kernel_rfl) (fun _ => ?_) (fun w1 hw1 hd1 => ?_) (fun _ hr_ => ?_); rotate_right 3; (go_simp; first | done | rfl); exact (Sel_c _ _ _ w1))
              | (apply LexR_det (by rfl) (by rfl) (by rfl) (fun w1 hw1 hd1 => ?_) (fun _ hr_ => ?_); rotate_right 2; (go_simp; first | done | rfl | (rw [blk_cell (grow_blk hw1 k9)]; focus ((try simp); first | done | rfl)) | (rw [blk_cell (grow_blk hw1 k15)]; focus ((try simp); first | done | rfl)) | (rw [grow_cell hw1 c11]; focus ((try simp); first | done | rfl))))
              | (apply LexR_box (by rfl) (by rfl) (by rfl) (fun w1 hw1 hd1 => ?_) (fun _ hr_ => ?_); rotate_right 2; (go_simp; first | done | rfl))
              | (apply LexR_bs (t := 76) (e := 80) (z := .agg #[.int .u32 0]) (ho := rfl) (by rfl) (by rfl) Tryz.underlying76 (by kernel_rfl) (by decide) (by decide) (fun _ => ?_) (fun _ => ?_) (fun _ => ?_) (fun _ hr_ => ?_); rotate_right 4; (go_simp; rfl); (exact ⟨rfl, rfl, rfl⟩); (simp only [List.map_cons, List.map_nil, List.flatMap_cons, List.flatMap_nil, Value.cells, List.cons_append, List.nil_append, List.append_nil]; rfl)))
            apply LexR_end
            refine hK _ _ ?_
            clear hK K_
            repeat clear hr_
            clear hb_ R_ hops_ ops_
            intro w1 hw1 hf1
            apply tailR (fun _ => ?_) (fun _ => ?_) ?_
            rotate_right 2
            · simp only [putAll, Act.put, List.setIfInBounds_toArray, List.set_cons_succ, List.set_cons_zero]; first | done | rfl
            · simp only [List.drop_succ_cons, List.drop_zero]; first | done | rfl
            simp [allFacts, contOf, Exp.putAt, Exp.fact, Exp.fresh, Exp.blk] at hf1
            clear hf1 c11
            replace k8 := grow_blk hw1 k8
            replace k9 := grow_blk hw1 k9
            replace k10 := grow_blk hw1 k10
            replace k11 := grow_blk hw1 k11
            replace S := (S.grow fj hw1).less (own' := [g11, g10, g9, w.heap.size + 1 + 1, w.heap.size]) (by simp)
            clear hw1 k15
            have cs := blk_cell k11 j
            rw [cw_at _ _ (by rw [secondL_length]; exact hlj)] at cs
            have fs := blk_frozen k11 j
            go_wp2_with fail
            go_roundw
            case measure => simp [intOf] <;> omega
            refine ⟨j + 1, by omega, congrArg (Value.int .i64) (by omega), S.set fj _ _ (by simp) (by simp <;> omega), blk_far k8 (by simp <;> omega) _, blk_far k9 (by simp <;> omega) _, blk_far k10 (by simp <;> omega) _, ?_⟩
            rw [← secondL_set lw D fl j hlj, ← cw_set]
            exact blk_set k11 j _
        · obtain rfl : j = 64 := by omega
          have hlj' : ¬ ((64 : Nat) : Int) < 64 := by omega
          have L64 := Lib.hid (secondL_length lw D fl 64)
          generalize secondL lw D fl 64 = fin at k11 HS hst L64
          go_upto_region 19 with (fail)
          refine wp_region_R 2 [11] (by kernel_rfl) (by kernel_rfl) (by kernel_rfl) (by kernel_rfl) ?_
          intro K_ ops_ hops_ hK
          replace hops_ := Lib.hid hops_
          apply Exists.intro
          intro R_ hb_
          simp only [↓baseR, ↓nthR_succ, ↓nthR_zero] at hb_
          simp only [List.take_succ_cons, List.take_zero, List.drop_succ_cons, List.drop_zero]
          repeat (first
            | (apply LexR_det (by rfl) (by rfl) (by rfl) (fun w1 hw1 hd1 => ?_) (fun _ hr_ => ?_); rotate_right 2; (refine run_load_rowR (ty := 123) rfl ?_ (grow_blk hw1 k11) Tryz.underlying123 rfl ?_; (focus (go_simp; done)); (rw [cw_size, L64.out]; kernel_rfl)))
            
            | (apply LexR_callF (f := 89) (by rfl) (by rfl) (by rfl) Tryz.func89 (by kernel_rfl) (by kernel_rfl) (fun _ => ?_) (fun w1 hw1 hd1 => ?_) (fun _ hr_ => ?_); rotate_right 3; (go_simp; first | done | rfl); (with_reducible exact (HS w1)))
            | (apply LexR_det (by rfl) (by rfl) (by rfl) (fun w1 hw1 hd1 => ?_) (fun _ hr_ => ?_); rotate_right 2; (go_simp; first | done | rfl ))
            | (apply LexR_box (by rfl) (by rfl) (by rfl) (fun w1 hw1 hd1 => ?_) (fun _ hr_ => ?_); rotate_right 2; (go_simp; first | done | rfl))
            | (apply LexR_bs (t := 76) (e := 80) (z := .agg #[.int .u32 0]) (ho := rfl) (by rfl) (by rfl) Tryz.underlying76 (by kernel_rfl) (by decide) (by decide) (fun _ => ?_) (fun _ => ?_) (fun _ => ?_) (fun _ hr_ => ?_); rotate_right 4; (go_simp; rfl); (exact ⟨rfl, rfl, rfl⟩); (simp only [List.map_cons, List.map_nil, List.flatMap_cons, List.flatMap_nil, Value.cells, List.cons_append, List.nil_append, List.append_nil]; rfl)))
          apply LexR_end
          refine hK _ _ ?_
          clear hK K_
          repeat clear hr_
          clear hb_ R_ hops_ ops_
          intro w1 hw1 hf1
          apply tailR (fun _ => ?_) (fun _ => ?_) ?_
          rotate_right 2
          · simp only [putAll, Act.put, List.setIfInBounds_toArray, List.set_cons_succ, List.set_cons_zero]; first | done | rfl
          · simp only [List.drop_succ_cons, List.drop_zero]; first | done | rfl
          simp [allFacts, contOf, Exp.putAt, Exp.fact, Exp.fresh, Exp.blk] at hf1
          clear hf1
          replace k8 := grow_blk hw1 k8
          replace S := (S.grow fj hw1).less (own' := [w.heap.size + 1 + 1]) (by simp)
          clear hw1 k9 k10 k11
          refine wpList_store_row rfl _ _ _ rfl (w.heap.size + 1 + 1) (cw st) rfl rfl 83 _ k8 (by rw [cw_size, LS.out]; kernel_rfl) (by rw [cw_size, LS.out]; rfl) (cw_one _) ?_
          refine gen_list fun W2 hW => ?_
          replace k8 : W2.heap[w.heap.size + 1 + 1]? = some (.cells (cw st) 83 (0, 0)) := by subst hW; exact setRow_blk k8 _
          replace S : St J F0 w k W2 [] := by subst hW; exact (S.row fj _ _ (by simp) (by omega)).less (by simp)
          clear hW
          go_wp2
          exact bodyPost_ret (v := .agg (cw st)) (results_cell_row Tryz.results69 _ _ (w.heap.size + 1 + 1) 83 (cw st) (0, 0) _ rfl k8 Tryz.underlying83 rfl (by rw [cw_size, LS.out]; kernel_rfl)) rfl ⟨rfl, S⟩
end Go.Proofs.YthnackakgglhbaaGreat

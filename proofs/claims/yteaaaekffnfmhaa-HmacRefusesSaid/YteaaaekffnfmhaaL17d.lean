/- The law HmacRefuses. -/
import Derived.Test.YteaaaekffnfmhaaHk
import Derived.Test.YteaaaekffnfmhaaL17a
namespace Go.Proofs.Yteaaaekffnfmhaa
open Go.RowKit Go.Lib
set_option maxRecDepth 100000
set_option linter.unusedSimpArgs false
set_option linter.unusedVariables false
attribute [local go_sem] evR_tmp evR_const evR_global evR_func
theorem Len_c (gl : Nat) (sv : Value) (n : Nat) (cs : List Value) (w : World) (hk : w.heap[gl]? = some (.cells #[sv] 74 (0, 0))) (hO : w.ownsRow 0 58 3 sv n cs) : Calls Try.prog 18 #[.pointer (some ⟨gl, 0, none⟩)] w fun e w' => e = .returned (.int .i64 (n : Int)) ∧ Below w.heap.size w w' := by
  have c0 : w.cell? ⟨gl, 0, none⟩ = some sv := blk_cell hk 0
  obtain ⟨ad, cap, rfl⟩ : ∃ ad cap, sv = .slice ad n cap := by
    rcases hO.2 with ⟨rfl, rfl⟩ | ⟨g, cap, _, rfl, _⟩
    · exact ⟨none, 0, rfl⟩
    · exact ⟨_, cap, rfl⟩
  go_enter Try.func18, Try.ntmps18
  go_wp2
  exact bodyPost_ret (v := .int .i64 (n : Int)) (by simp [results, Try.results18, go_sem]) rfl ⟨rfl, Below.refl _ _⟩
def no8 : List W32 := List.replicate 8 0#32
theorem Hash_no_c (ga top : Nat) (v0 v2 : Value) (a n : Int) (len : W32) (w : World) (hk : w.heap[ga]? = some (.cells #[v0, .int .i64 (top : Int), v2] 71 (0, 0))) (ht : top ≤ 1000000) (hno : n < 0 ∨ 49152 < n ∨ fits top a n = false) :
    Calls Try.prog 35 #[.pointer (some ⟨ga, 0, none⟩), .int .i64 a, .int .i64 n, .agg #[.int .u32 (iw len)]] w fun e w' => e = .returned (.tuple #[.agg (cw no8), .bool false]) ∧ Below w.heap.size w w' := by
  by_cases h1 : n < 0
  focus
    have h1' : decide (n < 0) = true := by simp [h1]
    go_enter Try.func35, Try.ntmps35
    go_upto_region 2 with (fail)
    refine gen_world fun W hW => ?_
    have k8 : W.heap[w.heap.size + 1 + 1 + 1]? = some (.cells (Array.replicate 8 (.int .u32 0)) 30 (0, 0)) := by subst hW; exact blk_new' (by simp) _
    have HB : Below w.heap.size w W := by subst hW; (repeat (first | exact Below.refl _ _ | (refine bl_alloc ?_ _) | (refine bl_drewN ?_ _) | (refine bl_drew ?_) | (refine bl_call (by assumption) ?_) | (refine bl_set _ _ (by simp <;> omega) ?_) | assumption))
    clear hW hno h1'
  rotate_left
  by_cases h2 : 49152 < n
  focus
    have h1' : decide (n < 0) = false := by simp [h1]
    go_enter Try.func35, Try.ntmps35
    go_upto_region 2 with (fail)
    refine gen_world fun W hW => ?_
    have k8 : W.heap[w.heap.size + 1 + 1 + 1]? = some (.cells (Array.replicate 8 (.int .u32 0)) 30 (0, 0)) := by subst hW; exact blk_new' (by simp) _
    have HB : Below w.heap.size w W := by subst hW; (repeat (first | exact Below.refl _ _ | (refine bl_alloc ?_ _) | (refine bl_drewN ?_ _) | (refine bl_drew ?_) | (refine bl_call (by assumption) ?_) | (refine bl_set _ _ (by simp <;> omega) ?_) | assumption))
    clear hW hno h1'
  rotate_left
  focus
    have h1' : decide (n < 0) = false := by simp [h1]
    have h2' : decide (49152 < n) = false := by simp [h2]
    have hf : fits top a n = false := by rcases hno with q | q | q <;> first | exact q | exact absurd q (by assumption)
    go_enter Try.func35, Try.ntmps35
    go_upto_region 1 with (fail)
    refine gen_world fun W hW => ?_
    have k4 : W.heap[w.heap.size]? = some (.cells #[.pointer (some ⟨ga, 0, none⟩)] 42 (0, 0)) := by subst hW; (repeat (first | (with_reducible assumption) | ((with_reducible refine blk_new' ?_ _); (simp; done)) | ((with_reducible refine blk_alloc ?_ _)) | ((with_reducible refine blk_far ?_ ?_ _); (simp <;> omega))))
    have k5 : W.heap[w.heap.size + 1]? = some (.cells #[.int .i64 a] 3 (0, 0)) := by subst hW; (repeat (first | (with_reducible assumption) | ((with_reducible refine blk_new' ?_ _); (simp; done)) | ((with_reducible refine blk_alloc ?_ _)) | ((with_reducible refine blk_far ?_ ?_ _); (simp <;> omega))))
    have k8 : W.heap[w.heap.size + 1 + 1 + 1]? = some (.cells (Array.replicate 8 (.int .u32 0)) 30 (0, 0)) := by subst hW; exact blk_new' (by simp) _
    have HB : Below w.heap.size w W := by subst hW; (repeat (first | exact Below.refl _ _ | (refine bl_alloc ?_ _) | (refine bl_drewN ?_ _) | (refine bl_drew ?_) | (refine bl_call (by assumption) ?_) | (refine bl_set _ _ (by simp <;> omega) ?_) | assumption))
    clear hW hno
    have ka := grow_blk HB hk
    have c4 := blk_cell k4 0
    have c5 := blk_cell k5 0
    go_upto_region 2 with (go_at_call 40; refine (Fits_c ga top a n _ _ _ ka ht).mono ?_; rintro e w1 ⟨rfl, hw1⟩; rw [hf])
    replace k8 := grow_blk hw1 k8
    replace HB := bl_call hw1 HB
    clear hw1 ka c4 c5 k4 k5 h1' h2' hf
  rotate_left
  all_goals
    refine wp_region_R 1 [] (by kernel_rfl) (by kernel_rfl) (by kernel_rfl) (by kernel_rfl) ?_
    intro K_ ops_ hops_ hK
    replace hops_ := Lib.hid hops_
    apply Exists.intro
    intro R_ hb_
    simp only [↓baseR, ↓nthR_succ, ↓nthR_zero] at hb_
    simp only [List.take_succ_cons, List.take_zero, List.drop_succ_cons, List.drop_zero]
    repeat (first
      
      
      
      | (apply LexR_det (by rfl) (by rfl) (by rfl) (fun w1 hw1 hd1 => ?_) (fun _ hr_ => ?_); rotate_right 2; (go_simp; first | done | rfl ))
      | (apply LexR_box (by rfl) (by rfl) (by rfl) (fun w1 hw1 hd1 => ?_) (fun _ hr_ => ?_); rotate_right 2; (go_simp; first | done | rfl))
      | (apply LexR_bs (t := 34) (e := 29) (z := .agg #[.int .u32 0]) (ho := rfl) (by rfl) (by rfl) Try.underlying34 (by kernel_rfl) (by decide) (by decide) (fun _ => ?_) (fun _ => ?_) (fun _ => ?_) (fun _ hr_ => ?_); rotate_right 4; (go_simp; rfl); (exact ⟨rfl, rfl, rfl⟩); (simp only [List.map_cons, List.map_nil, List.flatMap_cons, List.flatMap_nil, Value.cells, List.cons_append, List.nil_append, List.append_nil]; rfl)))
    apply LexR_end
    refine hK _ _ ?_
    clear hK K_
    repeat clear hr_
    clear hb_ R_ hops_ ops_
    intro w1 hw1 hf1
    apply tailR (fun _ => ?_) (fun _ => ?_) ?_
    rotate_right 2
    · simp only [putAll, Act.put, List.setIfInBounds_toArray, List.set_cons_succ, List.set_cons_zero]; first | done | rfl
    · simp only [List.drop_succ_cons, List.drop_zero]; first | done | rfl
    simp [allFacts, contOf, Exp.putAt, Exp.fact, Exp.fresh, Exp.blk] at hf1
    clear hf1
    replace k8 := grow_blk hw1 k8
    replace HB := bl_call hw1 HB
    clear hw1
    refine wpList_store_row rfl _ _ _ rfl (w.heap.size + 1 + 1 + 1) (cw no8) rfl rfl 30 _ k8 (by kernel_rfl) (by rfl) (cw_one _) ?_
    refine gen_list fun W2 hW => ?_
    replace k8 : W2.heap[w.heap.size + 1 + 1 + 1]? = some (.cells (cw no8) 30 (0, 0)) := by subst hW; exact setRow_blk k8 _
    replace HB : Below w.heap.size w W2 := by subst hW; exact bl_row _ _ (by omega) HB
    clear hW
    go_wp2
    exact bodyPost_ret (v := .tuple #[.agg (cw no8), .bool false]) (results_cell_row_tmp Try.results35 _ _ (w.heap.size + 1 + 1 + 1) 30 (cw no8) (0, 0) _ _ rfl rfl k8 Try.underlying30 rfl (by kernel_rfl)) rfl ⟨rfl, HB⟩
def no16 : List W32 := List.replicate 16 0#32
theorem hKey_no_c (ga top : Nat) (v0 v2 : Value) (a n : Int) (len : W32) (w : World) (hk : w.heap[ga]? = some (.cells #[v0, .int .i64 (top : Int), v2] 71 (0, 0))) (ht : top ≤ 1000000) (hno : n < 0 ∨ 49152 < n ∨ fits top a n = false) :
    Calls Try.prog 19 #[.pointer (some ⟨ga, 0, none⟩), .int .i64 a, .int .i64 n, .agg #[.int .u32 (iw len)]] w fun e w' => e = .returned (.tuple #[.agg (cw no16), .bool false]) ∧ Below w.heap.size w w' := by
  have hH := fun w hk => Hash_no_c ga top v0 v2 a n len w hk ht hno
  have L8 : no8.length = 8 := rfl
  replace L8 := Lib.hid L8
  generalize no8 = z8 at hH L8
  clear hno
  go_enter Try.func19, Try.ntmps19
  go_upto_region 1 with (fail)
  refine gen_world fun W hW => ?_
  have k4 : W.heap[w.heap.size]? = some (.cells #[.pointer (some ⟨ga, 0, none⟩)] 42 (0, 0)) := by subst hW; (repeat (first | (with_reducible assumption) | ((with_reducible refine blk_new' ?_ _); (simp; done)) | ((with_reducible refine blk_alloc ?_ _)) | ((with_reducible refine blk_far ?_ ?_ _); (simp <;> omega))))
  have k5 : W.heap[w.heap.size + 1]? = some (.cells #[.int .i64 a] 3 (0, 0)) := by subst hW; (repeat (first | (with_reducible assumption) | ((with_reducible refine blk_new' ?_ _); (simp; done)) | ((with_reducible refine blk_alloc ?_ _)) | ((with_reducible refine blk_far ?_ ?_ _); (simp <;> omega))))
  have k7 : W.heap[w.heap.size + 1 + 1]? = some (.cells #[.int .u32 (iw len)] 29 (0, 0)) := by subst hW; (repeat (first | (with_reducible assumption) | ((with_reducible refine blk_new' ?_ _); (simp; done)) | ((with_reducible refine blk_alloc ?_ _)) | ((with_reducible refine blk_far ?_ ?_ _); (simp <;> omega))))
  have k8 : W.heap[w.heap.size + 1 + 1 + 1]? = some (.cells (Array.replicate 16 (.int .u32 0)) 32 (0, 0)) := by subst hW; exact blk_new' (by simp) _
  have HB : Below w.heap.size w W := by subst hW; (repeat (first | exact Below.refl _ _ | (refine bl_alloc ?_ _) | (refine bl_drewN ?_ _) | (refine bl_drew ?_) | (refine bl_call (by assumption) ?_) | (refine bl_set _ _ (by simp <;> omega) ?_) | assumption))
  clear hW
  have ka := grow_blk HB hk
  have c4 := blk_cell k4 0
  have c5 := blk_cell k5 0
  have c7 := blk_cell k7 0
  go_upto_region 3 with (first | (go_at_call 35; refine (hH _ ka).mono ?_; rintro e w1 ⟨rfl, hw1⟩) | (refine wpList_store_row rfl _ _ _ rfl w1.heap.size (cw z8) rfl rfl 30 _ (blk_new w1 _) (by rw [cw_size, L8.out]; kernel_rfl) (by rw [cw_size, L8.out]; rfl) (cw_one _) ?_))
  refine gen_world fun W2 hW => ?_
  have hb2 : Below w1.heap.size w1 W2 := by subst hW; exact bl_row _ _ (Nat.le_refl _) (bl_alloc (Below.refl _ _) _)
  have hb3 := bl_call hb2 hw1
  replace k8 := grow_blk hb3 k8
  replace HB := bl_call hb3 HB
  clear hW hb2 hb3 hw1 ka c4 c5 c7 k4 k5 k7
  refine wp_region_R 1 [] (by kernel_rfl) (by kernel_rfl) (by kernel_rfl) (by kernel_rfl) ?_
  intro K_ ops_ hops_ hK
  replace hops_ := Lib.hid hops_
  apply Exists.intro
  intro R_ hb_
  simp only [↓baseR, ↓nthR_succ, ↓nthR_zero] at hb_
  simp only [List.take_succ_cons, List.take_zero, List.drop_succ_cons, List.drop_zero]
  repeat (first
    
    
    
    | (apply LexR_det (by rfl) (by rfl) (by rfl) (fun w1 hw1 hd1 => ?_) (fun _ hr_ => ?_); rotate_right 2; (go_simp; first | done | rfl ))
    | (apply LexR_box (by rfl) (by rfl) (by rfl) (fun w1 hw1 hd1 => ?_) (fun _ hr_ => ?_); rotate_right 2; (go_simp; first | done | rfl))
    | (apply LexR_bs (t := 34) (e := 29) (z := .agg #[.int .u32 0]) (ho := rfl) (by rfl) (by rfl) Try.underlying34 (by kernel_rfl) (by decide) (by decide) (fun _ => ?_) (fun _ => ?_) (fun _ => ?_) (fun _ hr_ => ?_); rotate_right 4; (go_simp; rfl); (exact ⟨rfl, rfl, rfl⟩); (simp only [List.map_cons, List.map_nil, List.flatMap_cons, List.flatMap_nil, Value.cells, List.cons_append, List.nil_append, List.append_nil]; rfl)))
  apply LexR_end
  refine hK _ _ ?_
  clear hK K_
  repeat clear hr_
  clear hb_ R_ hops_ ops_
  intro w1 hw1 hf1
  apply tailR (fun _ => ?_) (fun _ => ?_) ?_
  rotate_right 2
  · simp only [putAll, Act.put, List.setIfInBounds_toArray, List.set_cons_succ, List.set_cons_zero]; first | done | rfl
  · simp only [List.drop_succ_cons, List.drop_zero]; first | done | rfl
  simp [allFacts, contOf, Exp.putAt, Exp.fact, Exp.fresh, Exp.blk] at hf1
  clear hf1
  replace k8 := grow_blk hw1 k8
  replace HB := bl_call hw1 HB
  clear hw1
  refine wpList_store_row rfl _ _ _ rfl (w.heap.size + 1 + 1 + 1) (cw no16) rfl rfl 32 _ k8 (by kernel_rfl) (by rfl) (cw_one _) ?_
  refine gen_list fun W3 hW => ?_
  replace k8 : W3.heap[w.heap.size + 1 + 1 + 1]? = some (.cells (cw no16) 32 (0, 0)) := by subst hW; exact setRow_blk k8 _
  replace HB : Below w.heap.size w W3 := by subst hW; exact bl_row _ _ (by omega) HB
  clear hW
  go_wp2
  exact bodyPost_ret (v := .tuple #[.agg (cw no16), .bool false]) (results_cell_row_tmp Try.results19 _ _ (w.heap.size + 1 + 1 + 1) 32 (cw no16) (0, 0) _ _ rfl rfl k8 Try.underlying32 rfl (by kernel_rfl)) rfl ⟨rfl, HB⟩
/-- A thing that owns memory made since w0. -/
structure One (J : World → (Nat → Prop) → Prop) (w0 W : World) : Prop where
  ex : ∃ F, J W F ∧ ∀ b, F b → w0.heap.size ≤ b
  bel : Below w0.heap.size w0 W
theorem One.upd {J : World → (Nat → Prop) → Prop} {w0 W : World} (s : One J w0 W) : ∃ F, J W F ∧ ∀ J2 W1, Upd J2 F W W1 → One J2 w0 W1 := by
  obtain ⟨F, h1, h2⟩ := s.ex
  refine ⟨F, h1, fun J2 W1 u => ⟨?_, u.apart.os.trans s.bel.os, u.apart.tape.trans s.bel.tape, u.apart.output.trans s.bel.output, Nat.le_trans s.bel.size u.apart.size, fun b hb => ?_⟩⟩
  · obtain ⟨F', j, hs⟩ := u.ex
    refine ⟨F', j, fun b hb => ?_⟩
    rcases hs b hb with q | q
    · exact h2 b q
    · exact Nat.le_trans s.bel.size q
  · rw [u.apart.block b (Nat.lt_of_lt_of_le hb s.bel.size) fun z => by have := h2 b z; omega]
    exact s.bel.block b hb
theorem One.grow {J : World → (Nat → Prop) → Prop} (kk : Keep J) {w0 W W1 : World} (s : One J w0 W) (g : Below W.heap.size W W1) : One J w0 W1 := by
  obtain ⟨F, h1, h2⟩ := s.ex
  exact ⟨⟨F, kk.keep h1 g.size fun b hb => g.block b (kk.lt h1 b hb), h2⟩, bl_call g s.bel⟩
theorem fits_no (at_ n : Int) (h : ¬ (0 ≤ n ∧ n ≤ 20 ∧ 0 ≤ at_ ∧ at_ ≤ 20 - n)) : fits 20 at_ n = false := by
  unfold fits
  simp only [decide_eq_false_iff_not]
  omega
set_option maxHeartbeats 4000000 in
theorem HmacRefuses_c (at_ n : Int) (w : World) (ha : -9223372036854775808 ≤ at_ ∧ at_ ≤ 9223372036854775807) (hn : -9223372036854775808 ≤ n ∧ n ≤ 9223372036854775807) : Calls Try.prog 4 #[.int .i64 at_, .int .i64 n] w fun e w' => e = .returned (.bool true) ∧ Below w.heap.size w w' := by
  by_cases hok : 0 ≤ n ∧ n ≤ 20 ∧ 0 ≤ at_ ∧ at_ ≤ 20 - n
  focus
    obtain ⟨n, rfl⟩ : ∃ k : Nat, n = (k : Int) := ⟨n.toNat, by omega⟩
    obtain ⟨at_, rfl⟩ : ∃ k : Nat, at_ = (k : Int) := ⟨at_.toNat, by omega⟩
    have hf1 : (n : Int) ≤ 20 := by omega
    have hf2 : (at_ : Int) ≤ 20 - (n : Int) := by omega
    have hn2 : n ≤ 20 := by omega
    have ha2 : at_ + n ≤ 20 := by omega
    clear hok ha hn
    go_enter Try.func4, Try.ntmps4
    go_upto_region 3 with (go_at_call 6; refine (awake17_c _).mono ?_; rintro e w1 ⟨rfl, HB0⟩)
    go_upto_region 4 with (go_at_call 15; refine (New_c 20 (by omega) _).mono ?_; rintro e w2 ⟨ga, rfl, F, hJ, hF, hw2⟩)
    have O : One (ArJ ga (List.replicate 20 0#32) 0 []) w w2 := ⟨⟨F, hJ, fun b hb => Nat.le_trans HB0.size (hF b hb)⟩, bl_call hw2 HB0⟩
    clear hJ hF hw2 HB0
    obtain ⟨F, hJ, hup⟩ := O.upd
    go_upto_region 5 with (go_at_call 16; refine (Take_c ga _ 0 [] 20 _ F hJ (by simp) (by simp)).mono ?_; rintro e w3 ⟨rfl, hU⟩)
    replace O := hup _ _ hU
    clear hup hU hJ
    obtain ⟨F, ⟨gw, gl, sv, _, A⟩, _⟩ := O.upd
    go_upto_region 6 with (first | (go_at_call 17; refine (Log_c ga _ _ _ _ A.ka).mono ?_; rintro e w4 ⟨rfl, hw4⟩; replace A := A.grow hw4; replace O := O.grow (ArJ.keeps ga _ _ _) hw4) | (go_at_call 18; refine (Len_c gl sv _ _ _ A.kl A.own).mono ?_; rintro e w5 ⟨rfl, hw5⟩; replace O := O.grow (ArJ.keeps ga _ _ _) hw5))
    clear A hw4 hw5
    obtain ⟨F, hJ, hup⟩ := O.upd
    have LK := Lib.hid (show (keyState n 5#32 fun i => at32 (List.replicate 20 0#32) (at_ + i)).length = 16 from stateW_length _)
    have hK := fun w hb => hKey_c ga (List.replicate 20 0#32) 20 [(4, 0, 20)] at_ n 5#32 w F (hJ.grow hb) (by omega) (by omega) (by simp; omega)
    generalize (keyState n 5#32 fun i => at32 (List.replicate 20 0#32) (at_ + i)) = ks at LK hK
    have hes : (([(4, 0, 20)] : List Ev) ++ loads at_ n ++ loads at_ n).length = 1 + n + n := by simp [loads_length]; omega
    generalize ([(4, 0, 20)] : List Ev) ++ loads at_ n ++ loads at_ n = es2 at hK hes
    go_upto_region 8 with (first | (go_at_call 20; refine (Of_c _ 5#32 rfl _).mono ?_; rintro e w6 ⟨rfl, hw6⟩) | (go_at_call 19; refine (hK _ hw6).mono ?_; rintro e w7 ⟨rfl, hU⟩) | (refine wpList_store_row rfl _ _ _ rfl w7.heap.size (cw ks) rfl rfl 32 _ (blk_new w7 _) (by rw [cw_size, LK.out]; kernel_rfl) (by rw [cw_size, LK.out]; rfl) (cw_one _) ?_))
    replace O := hup _ _ (hU.pre hw6)
    clear hup hU hJ hw6 hK
    refine gen_world fun W8 hW => ?_
    have hB8 : Below w7.heap.size w7 W8 := by
      subst hW
      exact bl_row _ _ (Nat.le_refl _) (bl_alloc (Below.refl _ _) _)
    replace O := O.grow (ArJ.keeps ga _ _ _) hB8
    clear hW hB8
    obtain ⟨F, ⟨gw, gl, sv, _, A⟩, _⟩ := O.upd
    have hq : (es2.length : Int) = 1 + 2 * (n : Int) := by omega
    clear hes
    go_wp2_with (first | (go_at_call 17; refine (Log_c ga _ _ _ _ A.ka).mono ?_; rintro e w9 ⟨rfl, hw4⟩; replace A := A.grow hw4; replace O := O.grow (ArJ.keeps ga _ _ _) hw4) | (go_at_call 18; refine (Len_c gl sv _ _ _ A.kl A.own).mono ?_; rintro e w10 ⟨rfl, hw5⟩; replace O := O.grow (ArJ.keeps ga _ _ _) hw5))
    exact bodyPost_ret (v := .bool true) (by simp [results, Try.results4, go_sem] <;> omega) rfl ⟨rfl, O.bel⟩
  have hfit := fits_no at_ n hok
  have hcase : ¬ (0 ≤ n) ∨ (0 ≤ n ∧ ¬ n ≤ 20) ∨ (0 ≤ n ∧ n ≤ 20 ∧ ¬ 0 ≤ at_) ∨ (0 ≤ n ∧ n ≤ 20 ∧ 0 ≤ at_ ∧ decide (at_ ≤ 20 - n) = false) := by simp only [decide_eq_false_iff_not]; omega
  have L16 : no16.length = 16 := rfl
  replace L16 := Lib.hid L16
  have hK := fun (w : World) ga v0 v2 hk => hKey_no_c ga 20 v0 v2 at_ n 5#32 w hk (by omega) (.inr (.inr hfit))
  generalize no16 = z16 at hK L16
  clear hok hfit
  rcases hcase with h1 | ⟨h1, h2⟩ | ⟨h1, h2, h3⟩ | ⟨h1, h2, h3, h4⟩
  all_goals
    go_enter Try.func4, Try.ntmps4
    go_upto_region 3 with (go_at_call 6; refine (awake17_c _).mono ?_; rintro e w1 ⟨rfl, HB0⟩)
    go_upto_region 4 with (go_at_call 15; refine (New_c 20 (by omega) _).mono ?_; rintro e w2 ⟨ga, rfl, F, hJ, hF, hw2⟩)
    have O : One (ArJ ga (List.replicate 20 0#32) 0 []) w w2 := ⟨⟨F, hJ, fun b hb => Nat.le_trans HB0.size (hF b hb)⟩, bl_call hw2 HB0⟩
    clear hJ hF hw2 HB0
    obtain ⟨F, hJ, hup⟩ := O.upd
    go_upto_region 5 with (go_at_call 16; refine (Take_c ga _ 0 [] 20 _ F hJ (by simp) (by simp)).mono ?_; rintro e w3 ⟨rfl, hU⟩)
    replace O := hup _ _ hU
    clear hup hU hJ
    obtain ⟨F, ⟨gw, gl, sv, _, A⟩, _⟩ := O.upd
    go_upto_region 6 with (first | (go_at_call 17; refine (Log_c ga _ _ _ _ A.ka).mono ?_; rintro e w4 ⟨rfl, hw4⟩; replace A := A.grow hw4; replace O := O.grow (ArJ.keeps ga _ _ _) hw4) | (go_at_call 18; refine (Len_c gl sv _ _ _ A.kl A.own).mono ?_; rintro e w5 ⟨rfl, hw5⟩; replace A := A.grow hw5; replace O := O.grow (ArJ.keeps ga _ _ _) hw5))
    clear hw4 hw5
    go_upto_region 8 with (first | (go_at_call 20; refine (Of_c _ 5#32 rfl _).mono ?_; rintro e w6 ⟨rfl, hw6⟩; replace A := A.grow hw6; replace O := O.grow (ArJ.keeps ga _ _ _) hw6) | (go_at_call 19; refine (hK _ ga _ _ A.ka).mono ?_; rintro e w7 ⟨rfl, hw7⟩; replace A := A.grow hw7; replace O := O.grow (ArJ.keeps ga _ _ _) hw7) | (refine wpList_store_row rfl _ _ _ rfl w7.heap.size (cw z16) rfl rfl 32 _ (blk_new w7 _) (by rw [cw_size, L16.out]; kernel_rfl) (by rw [cw_size, L16.out]; rfl) (cw_one _) ?_))
    refine gen_world fun W8 hW => ?_
    have hB8 : Below w7.heap.size w7 W8 := by
      subst hW
      exact bl_row _ _ (Nat.le_refl _) (bl_alloc (Below.refl _ _) _)
    replace A := A.grow hB8
    replace O := O.grow (ArJ.keeps ga _ _ _) hB8
    clear hW hB8 hw6 hw7
    go_wp2_with (first | (go_at_call 17; refine (Log_c ga _ _ _ _ A.ka).mono ?_; rintro e w9 ⟨rfl, hw4⟩; replace A := A.grow hw4; replace O := O.grow (ArJ.keeps ga _ _ _) hw4) | (go_at_call 18; refine (Len_c gl sv _ _ _ A.kl A.own).mono ?_; rintro e w10 ⟨rfl, hw5⟩; replace O := O.grow (ArJ.keeps ga _ _ _) hw5))
    exact bodyPost_ret (v := .bool true) (by simp [results, Try.results4, go_sem]) rfl ⟨rfl, O.bel⟩
theorem HmacRefuses_all (at_ n : Int) (w : World) (ha : (Lit.int .i64 at_).wf = true) (hn : (Lit.int .i64 n).wf = true) : Calls Try.prog 4 #[.int .i64 at_, .int .i64 n] w fun e w' => e = .returned (.bool true) ∧ Below w.heap.size w w' := by
  simp [Lit.wf, IntKind.min, IntKind.max, IntKind.signed, IntKind.bits] at ha hn
  exact HmacRefuses_c at_ n w ha hn
end Go.Proofs.Yteaaaekffnfmhaa

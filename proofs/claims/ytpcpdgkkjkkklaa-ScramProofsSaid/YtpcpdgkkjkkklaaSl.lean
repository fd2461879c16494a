/- Contracts of scram's keys and Keys; of the reference's mac, sum. -/
import Derived.Test.YtpcpdgkkjkkklaaSk
namespace Go.Proofs.Ytpcpdgkkjkkklaa
open Go.RowKit Go.Lib
set_option maxRecDepth 100000
set_option linter.unusedSimpArgs false
set_option linter.unusedVariables false
attribute [local go_sem] evR_tmp evR_const evR_global evR_func
theorem low_bytesw (h : List W32) : lowB (bytesw h) = refBytes h := bytes_eq h
/-- "Client Key", "Server Key". -/
def ckS : ByteArray := ⟨#[67, 108, 105, 101, 110, 116, 32, 75, 101, 121]⟩
def skS : ByteArray := ⟨#[83, 101, 114, 118, 101, 114, 32, 75, 101, 121]⟩
def cliW (ks : List UInt8) : List W32 := macw ks ckS.data.toList
def serW (ks : List UInt8) : List W32 := macw ks skS.data.toList
theorem cliW_length (ks : List UInt8) : (cliW ks).length = 8 := macK_length _ _
theorem serW_length (ks : List UInt8) : (serW ks).length = 8 := macK_length _ _
theorem results_two_rows {P : Program} {fn : Func} {p q : Tmp} {ty : TypeId} (h : fn.results = #[.cell p ty, .cell q ty]) (tmps : Array Value) (w : World) (g g' : Nat) (t : TypeId) (cs cs' : Array Value) (fr fr' : Nat × Nat) (d : TypeDesc)
    (hp : tmps.getD p undef = .pointer (some ⟨g, 0, none⟩)) (hb : tmps.getD q undef = .pointer (some ⟨g', 0, none⟩)) (hg : w.heap[g]? = some (.cells cs t fr)) (hg' : w.heap[g']? = some (.cells cs' t fr'))
    (hu : P.underlying ty = some d) (hd : (match d with | .struct _ | .array _ _ => true | _ => false) = true) (hi : (P.info? ty).map (·.size) = some cs.size) (hi' : (P.info? ty).map (·.size) = some cs'.size) :
    (results fn tmps).run P w = .ok (.tuple #[.agg cs, .agg cs']) w := by
  have hp' : tmps[p]?.getD undef = .pointer (some ⟨g, 0, none⟩) := by simpa using hp
  have hb' : tmps[q]?.getD undef = .pointer (some ⟨g', 0, none⟩) := by simpa using hb
  simp [results, h, hp', hb', asAddr, run_loadVar_row w g t ty cs fr d hg hu hd hi, run_loadVar_row w g' t ty cs' fr' d hg' hu hd hi']
set_option maxHeartbeats 4000000 in
theorem skeys_c (sw : List W32) (hs : sw.length = 8) (w : World) : Calls Try.prog 31 #[.agg (cw sw)] w fun e w' => e = .returned (.tuple #[.agg (cw (cliW (refBytes sw))), .agg (cw (serW (refBytes sw)))]) ∧ Below w.heap.size w w' := by
  have hBy := fun w => Bytes2_c sw hs w
  have LB := Lib.hid (bytesw_length _ hs)
  have hO : ∀ (sv : Value) (w1 : World), SliceOf w1 sv (bytesw sw) → Calls Try.prog 37 #[sv] w1 fun e w' => e = .returned (.agg (cw (stateW (keyB (refBytes sw))))) ∧ Below w1.heap.size w1 w' := fun sv w1 h => by
    have := hOf_c (bytesw sw) sv w1 (by rw [LB.out]; omega) h
    rw [low_bytesw] at this
    exact this
  have hT1 : ∀ w, Calls Try.prog 42 #[.agg (cw (stateW (keyB (refBytes sw)))), .string ⟨#[67, 108, 105, 101, 110, 116, 32, 75, 101, 121]⟩] w fun e w' => e = .returned (.agg (cw (cliW (refBytes sw)))) ∧ Below w.heap.size w w' := fun w => hText_c (keyB (refBytes sw)) (keyB_length _) ⟨#[67, 108, 105, 101, 110, 116, 32, 75, 101, 121]⟩ (by decide) w
  have hT2 : ∀ w, Calls Try.prog 42 #[.agg (cw (stateW (keyB (refBytes sw)))), .string ⟨#[83, 101, 114, 118, 101, 114, 32, 75, 101, 121]⟩] w fun e w' => e = .returned (.agg (cw (serW (refBytes sw)))) ∧ Below w.heap.size w w' := fun w => hText_c (keyB (refBytes sw)) (keyB_length _) ⟨#[83, 101, 114, 118, 101, 114, 32, 75, 101, 121]⟩ (by decide) w
  have LC := Lib.hid (cliW_length (refBytes sw))
  have LS := Lib.hid (serW_length (refBytes sw))
  have LX := Lib.hid (show (stateW (keyB (refBytes sw))).length = 16 from stateW_length _)
  generalize cliW (refBytes sw) = c1 at hT1 LC ⊢
  generalize serW (refBytes sw) = s1 at hT2 LS ⊢
  generalize stateW (keyB (refBytes sw)) = st at hO hT1 hT2 LX
  generalize bytesw sw = bw at hBy LB hO
  have L8 := Lib.hid hs
  clear hs
  go_enter Try.func31, Try.ntmps31
  go_upto_region 1 with (fail)
  refine gen_world fun W hW => ?_
  have k0 : W.heap[w.heap.size]? = some (.cells (cw sw) 37 (0, 0)) := by subst hW; (repeat (first | (with_reducible assumption) | ((with_reducible refine blk_new' ?_ _); (simp; done)) | ((with_reducible refine blk_alloc ?_ _)) | ((with_reducible refine blk_far ?_ ?_ _); (simp <;> omega))))
  have k1 : W.heap[w.heap.size + 1]? = some (.cells (Array.replicate 8 (.int .u32 0)) 37 (0, 0)) := by subst hW; exact blk_alloc (blk_new' (by simp) _) _
  have k2 : W.heap[w.heap.size + 2]? = some (.cells (Array.replicate 8 (.int .u32 0)) 37 (0, 0)) := by subst hW; exact blk_new' (by simp) _
  have HB : Below w.heap.size w W := by subst hW; (repeat (first | exact Below.refl _ _ | (refine bl_alloc ?_ _) | (refine bl_drewN ?_ _) | (refine bl_drew ?_) | (refine bl_call (by assumption) ?_) | (refine bl_set _ _ (by simp <;> omega) ?_) | assumption))
  clear hW
  go_upto_region 2 with (first | (refine wpList_load_row rfl _ _ rfl w.heap.size rfl 37 (cw sw) (0, 0) _ k0 Try.underlying37 rfl (by rw [cw_size, L8.out]; kernel_rfl) ?_) | (go_at_call 33; refine (hBy _).mono ?_; rintro e w2 ⟨g, cap, rfl, hg, HR, hw2⟩) | (go_at_call 37; refine (hO _ _ (.inr ⟨g, 0, cap, by rw [LB.out], by omega, HR⟩)).mono ?_; rintro e w3 ⟨rfl, hw3⟩) | (refine wpList_store_row rfl _ _ _ rfl w3.heap.size (cw st) rfl rfl 68 _ (blk_new w3 _) (by rw [cw_size, LX.out]; kernel_rfl) (by rw [cw_size, LX.out]; rfl) (cw_one _) ?_))
  refine gen_world fun W4 hW => ?_
  have k4 : W4.heap[w3.heap.size]? = some (.cells (cw st) 68 (0, 0)) := by subst hW; exact setRow_blk (blk_new w3 _) _
  have hb2 : Below w3.heap.size w3 W4 := by subst hW; exact bl_row _ _ (Nat.le_refl _) (bl_alloc (Below.refl _ _) _)
  have hb3 : Below W.heap.size W W4 := bl_call hb2 (bl_call hw3 hw2)
  replace k1 := grow_blk hb3 k1
  replace k2 := grow_blk hb3 k2
  replace HB := bl_call hb3 HB
  obtain ⟨g4, hg4⟩ : ∃ g, g = w3.heap.size := ⟨_, rfl⟩
  rw [← hg4] at k4 ⊢
  clear hW hb2 hb3 hw2 hw3 k0 HR hg hO hBy
  refine wp_region_R 4 [4] (by kernel_rfl) (by kernel_rfl) (by kernel_rfl) (by kernel_rfl) ?_
  intro K_ ops_ hops_ hK
  replace hops_ := Lib.hid hops_
  apply Exists.intro
  intro R_ hb_
  simp only [↓baseR, ↓nthR_succ, ↓nthR_zero] at hb_
  simp only [List.take_succ_cons, List.take_zero, List.drop_succ_cons, List.drop_zero]
  repeat (first
    | (apply LexR_det (by rfl) (by rfl) (by rfl) (fun w1 hw1 hd1 => ?_) (fun _ hr_ => ?_); rotate_right 2; (refine run_load_rowR (ty := 68) rfl ?_ (grow_blk hw1 k4) Try.underlying68 rfl ?_; (focus (go_simp; done)); (rw [cw_size, LX.out]; kernel_rfl)))
    
    | (apply LexR_callF (f := 42) (by rfl) (by rfl) (by rfl) Try.func42 (by kernel_rfl) (by kernel_rfl) (fun _ => ?_) (fun w1 hw1 hd1 => ?_) (fun _ hr_ => ?_); rotate_right 3; (go_simp; first | done | rfl); (with_reducible exact (hT1 w1))) | (apply LexR_callF (f := 42) (by rfl) (by rfl) (by rfl) Try.func42 (by kernel_rfl) (by kernel_rfl) (fun _ => ?_) (fun w1 hw1 hd1 => ?_) (fun _ hr_ => ?_); rotate_right 3; (go_simp; first | done | rfl); (with_reducible exact (hT2 w1)))
    | (apply LexR_det (by rfl) (by rfl) (by rfl) (fun w1 hw1 hd1 => ?_) (fun _ hr_ => ?_); rotate_right 2; (go_simp; first | done | rfl ))
    | (apply LexR_box (by rfl) (by rfl) (by rfl) (fun w1 hw1 hd1 => ?_) (fun _ hr_ => ?_); rotate_right 2; (go_simp; first | done | rfl))
    | (apply LexR_bs (t := 60) (e := 36) (z := .agg #[.int .u32 0]) (ho := rfl) (by rfl) (by rfl) Try.underlying60 (by kernel_rfl) (by decide) (by decide) (fun _ => ?_) (fun _ => ?_) (fun _ => ?_) (fun _ hr_ => ?_); rotate_right 4; (go_simp; rfl); (exact ⟨rfl, rfl, rfl⟩); (simp only [List.map_cons, List.map_nil, List.flatMap_cons, List.flatMap_nil, Value.cells, List.cons_append, List.nil_append, List.append_nil]; rfl)))
  apply LexR_end
  refine hK _ _ ?_
  clear hK K_
  repeat clear hr_
  clear hb_ R_ hops_ ops_
  intro w1 hw1 hf1
  apply tailR (fun _ => ?_) (fun _ => ?_) ?_
  rotate_right 2
  · simp only [putAll, Act.put, List.setIfInBounds_toArray, List.set_cons_succ, List.set_cons_zero]; first | done | rfl
  · simp only [List.drop_succ_cons, List.drop_zero]; first | done | rfl
  simp [allFacts, contOf, Exp.putAt, Exp.fact, Exp.fresh, Exp.blk] at hf1
  clear hf1
  replace k1 := grow_blk hw1 k1
  replace k2 := grow_blk hw1 k2
  replace HB := bl_call hw1 HB
  clear hw1 k4
  refine wpList_store_row rfl _ _ _ rfl (w.heap.size + 1) (cw c1) rfl rfl 37 _ k1 (by rw [cw_size, LC.out]; kernel_rfl) (by rw [cw_size, LC.out]; rfl) (cw_one _) ?_
  refine gen_list fun W2 hW => ?_
  replace k1 : W2.heap[w.heap.size + 1]? = some (.cells (cw c1) 37 (0, 0)) := by subst hW; exact setRow_blk k1 _
  replace k2 : W2.heap[w.heap.size + 2]? = some (.cells (Array.replicate 8 (.int .u32 0)) 37 (0, 0)) := by subst hW; exact setRow_far k2 (by omega) _
  replace HB : Below w.heap.size w W2 := by subst hW; exact bl_row _ _ (by omega) HB
  clear hW
  refine wpList_store_row rfl _ _ _ rfl (w.heap.size + 2) (cw s1) rfl rfl 37 _ k2 (by rw [cw_size, LS.out]; kernel_rfl) (by rw [cw_size, LS.out]; rfl) (cw_one _) ?_
  refine gen_list fun W3 hW => ?_
  replace k1 : W3.heap[w.heap.size + 1]? = some (.cells (cw c1) 37 (0, 0)) := by subst hW; exact setRow_far k1 (by omega) _
  replace k2 : W3.heap[w.heap.size + 2]? = some (.cells (cw s1) 37 (0, 0)) := by subst hW; exact setRow_blk k2 _
  replace HB : Below w.heap.size w W3 := by subst hW; exact bl_row _ _ (by omega) HB
  clear hW
  go_wp2
  exact bodyPost_ret (v := .tuple #[.agg (cw c1), .agg (cw s1)]) (results_two_rows Try.results31 _ _ (w.heap.size + 1) (w.heap.size + 2) 37 (cw c1) (cw s1) (0, 0) (0, 0) _ rfl rfl k1 k2 Try.underlying37 rfl (by rw [cw_size, LC.out]; kernel_rfl) (by rw [cw_size, LS.out]; kernel_rfl)) rfl ⟨rfl, HB⟩
theorem Bytes3_c (hs : List W32) (hh : hs.length = 8) (w : World) : Calls Try.prog 33 #[.agg (cw hs)] w (OwnRet 36 32 ((bytesw hs).map sec) w) := by
  refine (Bytes_c hs hh w).mono ?_
  rintro e w' ⟨sv, rfl, hO, hb⟩
  have hl := bytesw_length _ hh
  rcases hO.2 with ⟨_, q⟩ | ⟨g3, cap3, cur3, rfl, hg4, hk4, _, hm4, _, ht4⟩
  · omega
  rw [Nat.mul_one, hl] at ht4
  rw [hl]
  exact ⟨g3, cap3, cur3, rfl, by simp only [maxLen] at hm4; omega, hg4, hk4, ht4, hb⟩
theorem drewN_blk {w : World} {n g : Nat} {o : Option Obj} (h : w.heap[g]? = o) : (w.drewN n).heap[g]? = o := h
theorem drew_blk {w : World} {g : Nat} {o : Option Obj} (h : w.heap[g]? = o) : w.drew.heap[g]? = o := h
theorem gen_any {P : Program} {md : _} {ops : Array Oper} {Q : Exit → Act → World → Prop} {fuel : Nat} {listed : Array Bool} {a : Act} {w : World} (h : ∀ W, W = w → wpAny P md ops Q fuel listed a W) : wpAny P md ops Q fuel listed a w := h _ rfl
theorem step_go {P : Program} {ops : Array Oper} {o : Oper} {a : Act} {w : World} {K : Act → World → Prop} {Q : Exit → Act → World → Prop} {E : Prop} (hg : o.guard = none) (h : Oper.wp P o a w K Q) : if Region.wanted o (yielded ops a.tmps) = true then Oper.wp P o a w K Q else E := by
  rw [if_pos (by simp [Region.wanted, hg])]; exact h
/-- The stored key's words. -/
def stoW (ks : List UInt8) : List W32 := refSum (refBytes (cliW ks))
theorem stoW_length (ks : List UInt8) : (stoW ks).length = 8 := refSum_length _
set_option maxHeartbeats 4000000 in
theorem sKeys_c (sw : List W32) (hs : sw.length = 8) (w : World) : Calls Try.prog 16 #[.agg (cw sw)] w fun e w' => e = .returned (.tuple #[.agg (cw (stoW (refBytes sw))), .agg (cw (serW (refBytes sw)))]) ∧ Below w.heap.size w w' := by
  have hK := fun w => skeys_c sw hs w
  have LC := Lib.hid (cliW_length (refBytes sw))
  have LS := Lib.hid (serW_length (refBytes sw))
  have LT := Lib.hid (stoW_length (refBytes sw))
  have hBy := fun w => Bytes3_c _ LC.out w
  have hJ : ∀ (g cap : Nat) (cur : Array Value) (w1 : World), w1.heap[g]? = some (.cells cur 36 (0, 0)) → cur.toList.take 32 = (bytesw (cliW (refBytes sw))).map sec → Calls Try.prog 32 #[.slice (some ⟨g, 0, none⟩) 32 cap] w1 fun e w' => e = .returned (.agg (cw (stoW (refBytes sw)))) ∧ Below w1.heap.size w1 w' := fun g cap cur w1 hk ht => by
    have hl := bytesw_length _ LC.out
    have := JoinS_c (bytesw (cliW (refBytes sw))) (.slice (some ⟨g, 0, none⟩) 32 cap) w1 (by omega) (list_slice hk ht hl.symm)
    rw [joinw_low _ (by omega), low_bytesw] at this
    exact this
  generalize stoW (refBytes sw) = t1 at hJ LT ⊢
  generalize bytesw (cliW (refBytes sw)) = bw at hBy hJ
  generalize cliW (refBytes sw) = c1 at hK LC hBy
  generalize serW (refBytes sw) = s1 at hK LS ⊢
  have L8 := Lib.hid hs
  clear hs
  go_enter Try.func16, Try.ntmps16
  go_upto_region 1 with (fail)
  refine gen_world fun W hW => ?_
  have k0 : W.heap[w.heap.size]? = some (.cells (cw sw) 37 (0, 0)) := by subst hW; (repeat (first | (with_reducible assumption) | ((with_reducible refine blk_new' ?_ _); (simp; done)) | ((with_reducible refine blk_alloc ?_ _)) | ((with_reducible refine blk_far ?_ ?_ _); (simp <;> omega))))
  have k1 : W.heap[w.heap.size + 1]? = some (.cells (Array.replicate 8 (.int .u32 0)) 37 (0, 0)) := by subst hW; exact blk_alloc (blk_new' (by simp) _) _
  have k2 : W.heap[w.heap.size + 2]? = some (.cells (Array.replicate 8 (.int .u32 0)) 37 (0, 0)) := by subst hW; exact blk_new' (by simp) _
  have HB : Below w.heap.size w W := by subst hW; (repeat (first | exact Below.refl _ _ | (refine bl_alloc ?_ _) | (refine bl_drewN ?_ _) | (refine bl_drew ?_) | (refine bl_call (by assumption) ?_) | (refine bl_set _ _ (by simp <;> omega) ?_) | assumption))
  clear hW
  go_upto_region 2 with (first | (refine wpList_load_row rfl _ _ rfl w.heap.size rfl 37 (cw sw) (0, 0) _ k0 Try.underlying37 rfl (by rw [cw_size, L8.out]; kernel_rfl) ?_) | (go_at_call 31; refine (hK _).mono ?_; rintro e w3 ⟨rfl, hw3⟩) | (refine wpList_store_row rfl _ _ _ rfl w3.heap.size (cw c1) rfl rfl 37 _ (blk_alloc (blk_new w3 _) _) (by rw [cw_size, LC.out]; kernel_rfl) (by rw [cw_size, LC.out]; rfl) (cw_one _) ?_) | (refine wpList_store_row rfl _ _ _ rfl (w3.heap.size + 1) (cw s1) rfl rfl 37 _ (setRow_far (blk_new' (by simp) _) (by omega) _) (by rw [cw_size, LS.out]; kernel_rfl) (by rw [cw_size, LS.out]; rfl) (cw_one _) ?_))
  refine gen_world fun W4 hW => ?_
  have k4 : W4.heap[w3.heap.size]? = some (.cells (cw c1) 37 (0, 0)) := by subst hW; exact setRow_far (setRow_blk (blk_alloc (blk_new w3 _) _) _) (by omega) _
  have k5 : W4.heap[w3.heap.size + 1]? = some (.cells (cw s1) 37 (0, 0)) := by subst hW; exact setRow_blk (setRow_far (blk_new' (by simp) _) (by omega) _) _
  have hb2 : Below w3.heap.size w3 W4 := by subst hW; exact bl_row _ _ (by omega) (bl_row _ _ (Nat.le_refl _) (bl_alloc (bl_alloc (Below.refl _ _) _) _))
  have hb3 : Below W.heap.size W W4 := bl_call hb2 hw3
  have q2 := blk_lt k2
  have q3 := hw3.size
  replace k1 := grow_blk hb3 k1
  replace k2 := grow_blk hb3 k2
  replace HB := bl_call hb3 HB
  have hq : w.heap.size + 2 < w3.heap.size := by omega
  clear hW hb2 hb3 hw3 k0 q2 q3
  refine wp_region_any (by kernel_rfl) ?_
  refine gen_any fun W5 hW => ?_
  replace k1 : W5.heap[w.heap.size + 1]? = some (.cells (Array.replicate 8 (.int .u32 0)) 37 (0, 0)) := by subst hW; exact k1
  replace k2 : W5.heap[w.heap.size + 2]? = some (.cells (Array.replicate 8 (.int .u32 0)) 37 (0, 0)) := by subst hW; exact k2
  replace k4 : W5.heap[w3.heap.size]? = some (.cells (cw c1) 37 (0, 0)) := by subst hW; exact k4
  replace k5 : W5.heap[w3.heap.size + 1]? = some (.cells (cw s1) 37 (0, 0)) := by subst hW; exact k5
  replace HB : Below w.heap.size w W5 := by subst hW; exact bl_drew HB
  clear hW
  repeat' (first
    | (with_reducible exact AllReady.nil)
    | (refine AllReady.cons rfl (fun K hK => ?_) ?_)
    | (refine wpAny_ready (rs := [0, 3]) (by decide +kernel) (by simp) ?_) | (refine wpAny_ready (rs := [1, 3]) (by decide +kernel) (by simp) ?_) | (refine wpAny_ready (rs := [2, 3]) (by decide +kernel) (by simp) ?_) | (refine wpAny_ready (rs := [3, 4]) (by decide +kernel) (by simp) ?_) | (refine wpAny_ready (rs := [3]) (by decide +kernel) (by simp) ?_) | (refine wpAny_ready (rs := [0]) (by decide +kernel) (by simp) ?_) | (refine wpAny_ready (rs := [1]) (by decide +kernel) (by simp) ?_) | (refine wpAny_ready (rs := [2]) (by decide +kernel) (by simp) ?_) | (refine wpAny_ready (rs := [4]) (by decide +kernel) (by simp) ?_) | (refine wpAny_ready (rs := [5]) (by decide +kernel) (by simp) ?_) | (refine wpAny_ready (rs := [3, 5]) (by decide +kernel) (by simp) ?_)
    | (refine wpAny_done (by decide +kernel) ?_ _)
    | (refine step_go rfl ?_; refine wp_load_row _ _ rfl w3.heap.size rfl 37 (cw c1) (0, 0) _ k4 Try.underlying37 rfl (by rw [cw_size, LC.out]; kernel_rfl) (hK _ _ ?_); clear hK K)
    | (refine step_go rfl ?_; refine wp_load_row _ _ rfl (w3.heap.size + 1) rfl 37 (cw s1) (0, 0) _ k5 Try.underlying37 rfl (by rw [cw_size, LS.out]; kernel_rfl) (hK _ _ ?_); clear hK K)
    | (refine step_go rfl ?_; refine wp_store_row _ _ _ rfl (w.heap.size + 1) (cw t1) rfl rfl 37 _ k1 (by rw [cw_size, LT.out]; kernel_rfl) (by rw [cw_size, LT.out]; rfl) (cw_one _) (hK _ _ ?_); clear hK K; refine gen_any fun W2 hW => ?_; replace k1 : W2.heap[w.heap.size + 1]? = some (.cells (cw t1) 37 (0, 0)) := (by subst hW; exact setRow_blk k1 _); replace k2 := (by have := setRow_far k2 (show _ ≠ w.heap.size + 1 by omega) (cw t1); rw [← hW] at this; exact this); replace k4 : W2.heap[w3.heap.size]? = some (.cells (cw c1) 37 (0, 0)) := (by subst hW; exact setRow_far k4 (by omega) _); replace k5 : W2.heap[w3.heap.size + 1]? = some (.cells (cw s1) 37 (0, 0)) := (by subst hW; exact setRow_far k5 (by omega) _); replace HB : Below w.heap.size w W2 := (by subst hW; exact bl_row _ _ (by omega) HB); clear hW)
    | (refine step_go rfl ?_; refine wp_store_row _ _ _ rfl (w.heap.size + 2) (cw s1) rfl rfl 37 _ k2 (by rw [cw_size, LS.out]; kernel_rfl) (by rw [cw_size, LS.out]; rfl) (cw_one _) (hK _ _ ?_); clear hK K; refine gen_any fun W2 hW => ?_; replace k2 : W2.heap[w.heap.size + 2]? = some (.cells (cw s1) 37 (0, 0)) := (by subst hW; exact setRow_blk k2 _); replace k1 := (by have := setRow_far k1 (show _ ≠ w.heap.size + 2 by omega) (cw s1); rw [← hW] at this; exact this); replace k4 : W2.heap[w3.heap.size]? = some (.cells (cw c1) 37 (0, 0)) := (by subst hW; exact setRow_far k4 (by omega) _); replace k5 : W2.heap[w3.heap.size + 1]? = some (.cells (cw s1) 37 (0, 0)) := (by subst hW; exact setRow_far k5 (by omega) _); replace HB : Below w.heap.size w W2 := (by subst hW; exact bl_row _ _ (by omega) HB); clear hW)
    | (refine step_go rfl ?_; go_simp; go_at_call 33; refine (hBy _).mono ?_; rintro e w6 ⟨g, cap, cur, rfl, _, _, k8, t8, hw6⟩; refine hK _ _ ?_; clear hK K; replace k1 := grow_blk hw6 k1; replace k2 := grow_blk hw6 k2; replace k4 := grow_blk hw6 k4; replace k5 := grow_blk hw6 k5; replace HB := bl_call hw6 HB; clear hw6)
    | (refine step_go rfl ?_; go_simp; go_at_call 32; refine (hJ _ _ _ _ k8 t8).mono ?_; rintro e w7 ⟨rfl, hw7⟩; refine hK _ _ ?_; clear hK K; replace k1 := grow_blk hw7 k1; replace k2 := grow_blk hw7 k2; replace k4 := grow_blk hw7 k4; replace k5 := grow_blk hw7 k5; replace HB := bl_call hw7 HB; clear hw7))
  all_goals
    go_wp2
    exact bodyPost_ret (v := .tuple #[.agg (cw t1), .agg (cw s1)]) (results_two_rows Try.results16 _ _ (w.heap.size + 1) (w.heap.size + 2) 37 (cw t1) (cw s1) (0, 0) (0, 0) _ rfl rfl k1 k2 Try.underlying37 rfl (by rw [cw_size, LT.out]; kernel_rfl) (by rw [cw_size, LS.out]; kernel_rfl)) rfl ⟨rfl, HB⟩
end Go.Proofs.Ytpcpdgkkjkkklaa

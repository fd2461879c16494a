/- Contracts of scram's Plain, Proof, Check. -/
import Derived.Test.YtpcpdgkkjkkklaaSp
namespace Go.Proofs.Ytpcpdgkkjkkklaa
open Go.RowKit Go.Lib
set_option maxRecDepth 100000
set_option linter.unusedSimpArgs false
set_option linter.unusedVariables false
attribute [local go_sem] evR_tmp evR_const evR_global evR_func
/-- The client key, the stored key, the server key, as texts. -/
def cliB (ks : List UInt8) : ByteArray := ⟨(refBytes (cliW ks)).toArray⟩
def stoB (ks : List UInt8) : ByteArray := ⟨(refBytes (stoW ks)).toArray⟩
def serB (ks : List UInt8) : ByteArray := ⟨(refBytes (serW ks)).toArray⟩
theorem cliB_size (ks : List UInt8) : (cliB ks).size = 32 := by simp [cliB, ByteArray.size, refBytes_length _ (cliW_length ks)]
theorem stoB_size (ks : List UInt8) : (stoB ks).size = 32 := by simp [stoB, ByteArray.size, refBytes_length _ (stoW_length ks)]
theorem serB_size (ks : List UInt8) : (serB ks).size = 32 := by simp [serB, ByteArray.size, refBytes_length _ (serW_length ks)]
/-- The bytes of a salted password. -/
def saltB (p s : ByteArray) (m : Nat) : List UInt8 := refBytes (saltW p s m)
set_option maxHeartbeats 4000000 in
theorem sPlain_c (p s : ByteArray) (hp : p.size ≤ 100000) (hs : s.size ≤ 100000) (m : Nat) (hm : m + 1 ≤ 16777216) (w : World) : Calls Try.prog 9 #[.string p, .string s, .int .i64 ((m : Int) + 1)] w fun e w' => e = .returned (.tuple #[.string (stoB (saltB p s m)), .string (serB (saltB p s m)), .int .i64 0]) ∧ Below w.heap.size w w' := by
  have hS := fun w => salted_c p s hp hs m hm w
  have hK := fun w => sKeys_c (saltW p s m) (saltW_length p s m) w
  rw [show refBytes (saltW p s m) = saltB p s m from rfl] at hK
  have L8 := Lib.hid (saltW_length p s m)
  have LC := Lib.hid (stoW_length (saltB p s m))
  have LS := Lib.hid (serW_length (saltB p s m))
  have hT1 := fun w => told_c _ LC.out w
  have hT2 := fun w => told_c _ LS.out w
  rw [show (⟨(refBytes (stoW (saltB p s m))).toArray⟩ : ByteArray) = stoB (saltB p s m) from rfl] at hT1
  rw [show (⟨(refBytes (serW (saltB p s m))).toArray⟩ : ByteArray) = serB (saltB p s m) from rfl] at hT2
  generalize stoB (saltB p s m) = x1 at hT1 ⊢
  generalize serB (saltB p s m) = x2 at hT2 ⊢
  generalize stoW (saltB p s m) = c1 at hK LC hT1
  generalize serW (saltB p s m) = s1 at hK LS hT2
  generalize saltW p s m = mid at hS hK L8
  obtain ⟨n, hn⟩ : ∃ n, n = (m : Int) + 1 := ⟨_, rfl⟩
  rw [← hn] at hS ⊢
  clear hn hm
  go_enter Try.func9, Try.ntmps9
  go_upto_region 2 with (first | (go_at_call 24; refine (hS _).mono ?_; rintro e w1 ⟨rfl, hw1⟩) | (refine wpList_store_row rfl _ _ _ rfl w1.heap.size (cw mid) rfl rfl 37 _ (blk_new w1 _) (by rw [cw_size, L8.out]; kernel_rfl) (by rw [cw_size, L8.out]; rfl) (cw_one _) ?_))
  refine gen_world fun W hW => ?_
  have k9 : W.heap[w1.heap.size]? = some (.cells (cw mid) 37 (0, 0)) := by subst hW; exact setRow_blk (blk_new w1 _) _
  have HB : Below w.heap.size w W := by subst hW; exact bl_row _ _ hw1.size (bl_alloc hw1 _)
  obtain ⟨g9, hg9⟩ : ∃ g, g = w1.heap.size := ⟨_, rfl⟩
  rw [← hg9] at k9 ⊢
  clear hW hg9 hw1 hS w1
  go_upto_region 5 with (first | (refine wpList_load_row rfl _ _ rfl g9 rfl 37 (cw mid) (0, 0) _ k9 Try.underlying37 rfl (by rw [cw_size, L8.out]; kernel_rfl) ?_) | (go_at_call 16; refine (hK _).mono ?_; rintro e w3 ⟨rfl, hw3⟩) | (refine wpList_store_row rfl _ _ _ rfl w3.heap.size (cw c1) rfl rfl 37 _ (blk_alloc (blk_new w3 _) _) (by rw [cw_size, LC.out]; kernel_rfl) (by rw [cw_size, LC.out]; rfl) (cw_one _) ?_) | (refine wpList_store_row rfl _ _ _ rfl (w3.heap.size + 1) (cw s1) rfl rfl 37 _ (setRow_far (blk_new' (by simp) _) (by omega) _) (by rw [cw_size, LS.out]; kernel_rfl) (by rw [cw_size, LS.out]; rfl) (cw_one _) ?_))
  refine gen_world fun W4 hW => ?_
  have k4 : W4.heap[w3.heap.size]? = some (.cells (cw c1) 37 (0, 0)) := by subst hW; exact setRow_far (setRow_blk (blk_alloc (blk_new w3 _) _) _) (by omega) _
  have k5 : W4.heap[w3.heap.size + 1]? = some (.cells (cw s1) 37 (0, 0)) := by subst hW; exact setRow_blk (setRow_far (blk_new' (by simp) _) (by omega) _) _
  have hb2 : Below w3.heap.size w3 W4 := by subst hW; exact bl_row _ _ (by omega) (bl_row _ _ (Nat.le_refl _) (bl_alloc (bl_alloc (Below.refl _ _) _) _))
  replace HB := bl_call (bl_call hb2 hw3) HB
  obtain ⟨g4, hg4⟩ : ∃ g, g = w3.heap.size := ⟨_, rfl⟩
  obtain ⟨g5, hg5⟩ : ∃ g, g = w3.heap.size + 1 := ⟨_, rfl⟩
  rw [← hg5] at k5 ⊢
  rw [← hg4] at k4 ⊢
  clear hW hb2 hw3 k9 hg4 hg5 hK
  refine wp_region_R 7 [11, 12] (by kernel_rfl) (by kernel_rfl) (by kernel_rfl) (by kernel_rfl) ?_
  intro K_ ops_ hops_ hK
  replace hops_ := Lib.hid hops_
  apply Exists.intro
  intro R_ hb_
  simp only [↓baseR, ↓nthR_succ, ↓nthR_zero] at hb_
  simp only [List.take_succ_cons, List.take_zero, List.drop_succ_cons, List.drop_zero]
  repeat (first
    | (apply LexR_det (by rfl) (by rfl) (by rfl) (fun w1 hw1 hd1 => ?_) (fun _ hr_ => ?_); rotate_right 2; (refine run_load_rowR (ty := 37) rfl ?_ (grow_blk hw1 k4) Try.underlying37 rfl ?_; (focus (go_simp; done)); (rw [cw_size, LC.out]; kernel_rfl))) | (apply LexR_det (by rfl) (by rfl) (by rfl) (fun w1 hw1 hd1 => ?_) (fun _ hr_ => ?_); rotate_right 2; (refine run_load_rowR (ty := 37) rfl ?_ (grow_blk hw1 k5) Try.underlying37 rfl ?_; (focus (go_simp; done)); (rw [cw_size, LS.out]; kernel_rfl)))
    
    | (apply LexR_callF (f := 25) (by rfl) (by rfl) (by rfl) Try.func25 (by kernel_rfl) (by kernel_rfl) (fun _ => ?_) (fun w1 hw1 hd1 => ?_) (fun _ hr_ => ?_); rotate_right 3; (go_simp; first | done | rfl); (with_reducible exact (hT1 w1))) | (apply LexR_callF (f := 25) (by rfl) (by rfl) (by rfl) Try.func25 (by kernel_rfl) (by kernel_rfl) (fun _ => ?_) (fun w1 hw1 hd1 => ?_) (fun _ hr_ => ?_); rotate_right 3; (go_simp; first | done | rfl); (with_reducible exact (hT2 w1)))
    | (apply LexR_det (by rfl) (by rfl) (by rfl) (fun w1 hw1 hd1 => ?_) (fun _ hr_ => ?_); rotate_right 2; (go_simp; first | done | rfl ))
    | (apply LexR_box (by rfl) (by rfl) (by rfl) (fun w1 hw1 hd1 => ?_) (fun _ hr_ => ?_); rotate_right 2; (go_simp; first | done | rfl))
    | (apply LexR_bs (t := 60) (e := 36) (z := .agg #[.int .u32 0]) (ho := rfl) (by rfl) (by rfl) Try.underlying60 (by kernel_rfl) (by decide) (by decide) (fun _ => ?_) (fun _ => ?_) (fun _ => ?_) (fun _ hr_ => ?_); rotate_right 4; (go_simp; rfl); (exact ⟨rfl, rfl, rfl⟩); (simp only [List.map_cons, List.map_nil, List.flatMap_cons, List.flatMap_nil, Value.cells, List.cons_append, List.nil_append, List.append_nil]; rfl)))
  apply LexR_end
  refine hK _ _ ?_
  clear hK K_
  repeat clear hr_
  clear hb_ R_ hops_ ops_
  intro w1 hw1 hf1
  apply tailR (fun _ => ?_) (fun _ => ?_) ?_
  rotate_right 2
  · simp only [putAll, Act.put, List.setIfInBounds_toArray, List.set_cons_succ, List.set_cons_zero]; first | done | rfl
  · simp only [List.drop_succ_cons, List.drop_zero]; first | done | rfl
  simp [allFacts, contOf, Exp.putAt, Exp.fact, Exp.fresh, Exp.blk] at hf1
  clear hf1
  replace HB := bl_call hw1 HB
  go_wp2
  exact bodyPost_ret (v := .tuple #[.string x1, .string x2, .int .i64 0]) (by simp [results, Try.results9, go_sem]) rfl ⟨rfl, HB⟩
set_option maxHeartbeats 4000000 in
theorem sPlain_no (p s : ByteArray) (n : Int) (hn : n < 1 ∨ 16777216 < n) (w : World) : Calls Try.prog 9 #[.string p, .string s, .int .i64 n] w fun e w' => e = .returned (.tuple #[.string ByteArray.empty, .string ByteArray.empty, .int .i64 7]) ∧ Below w.heap.size w w' := by
  have hS := fun w => salted_no p s n hn w
  clear hn
  go_enter Try.func9, Try.ntmps9
  go_wp2_with (first | (go_at_call 24; refine (hS _).mono ?_; rintro e w1 ⟨rfl, hw1⟩) | (refine wpList_store_row rfl _ _ _ rfl w1.heap.size (cw zero8) rfl rfl 37 _ (blk_new w1 _) (by kernel_rfl) (by rfl) (cw_one _) ?_))
  exact bodyPost_ret (v := .tuple #[.string ByteArray.empty, .string ByteArray.empty, .int .i64 7]) (by simp [results, Try.results9, go_sem]; try rfl) rfl ⟨rfl, bl_row _ _ hw1.size (bl_alloc hw1 _)⟩
set_option maxHeartbeats 4000000 in
theorem sProof_c (p s t : ByteArray) (hp : p.size ≤ 100000) (hs : s.size ≤ 100000) (ht : t.size ≤ 100000) (m : Nat) (hm : m + 1 ≤ 16777216) (w : World) : Calls Try.prog 20 #[.string p, .string s, .int .i64 ((m : Int) + 1), .string t] w fun e w' => e = .returned (.tuple #[.string ⟨(xorB (cliB (saltB p s m)).data.toList (macText (stoB (saltB p s m)) t).data.toList).toArray⟩, .int .i64 0]) ∧ Below w.heap.size w w' := by
  have hS := fun w => salted_c p s hp hs m hm w
  have hK := fun w => skeys_c (saltW p s m) (saltW_length p s m) w
  rw [show refBytes (saltW p s m) = saltB p s m from rfl] at hK
  have L8 := Lib.hid (saltW_length p s m)
  have LC := Lib.hid (cliW_length (saltB p s m))
  have LS := Lib.hid (serW_length (saltB p s m))
  have hT1 := fun w => told_c _ LC.out w
  have hSu := fun w => Sum_ref (cliB (saltB p s m)) (by rw [cliB_size]; decide) w
  have hP := fun w => hPlain_c (stoB (saltB p s m)) t (by rw [stoB_size]; decide) (by omega) w
  have hX := fun w => sXor_c (cliB (saltB p s m)) (macText (stoB (saltB p s m)) t) (by rw [cliB_size]; decide) (by simp [macText, ByteArray.size, refBytes_length _ (macK_length _ _), macw]) w
  rw [show (⟨(refBytes (refSum (cliB (saltB p s m)).data.toList)).toArray⟩ : ByteArray) = stoB (saltB p s m) from rfl] at hSu
  rw [show (⟨(refBytes (cliW (saltB p s m))).toArray⟩ : ByteArray) = cliB (saltB p s m) from rfl] at hT1
  generalize (⟨(xorB (cliB (saltB p s m)).data.toList (macText (stoB (saltB p s m)) t).data.toList).toArray⟩ : ByteArray) = res at hX ⊢
  generalize macText (stoB (saltB p s m)) t = mt at hP hX
  generalize stoB (saltB p s m) = x1 at hSu hP
  generalize cliB (saltB p s m) = x2 at hT1 hSu hX
  generalize cliW (saltB p s m) = c1 at hK LC hT1
  generalize serW (saltB p s m) = s1 at hK LS
  generalize saltW p s m = mid at hS hK L8
  obtain ⟨n, hn⟩ : ∃ n, n = (m : Int) + 1 := ⟨_, rfl⟩
  rw [← hn] at hS ⊢
  clear hn hm
  go_enter Try.func20, Try.ntmps20
  go_upto_region 2 with (first | (go_at_call 24; refine (hS _).mono ?_; rintro e w1 ⟨rfl, hw1⟩) | (refine wpList_store_row rfl _ _ _ rfl w1.heap.size (cw mid) rfl rfl 37 _ (blk_new w1 _) (by rw [cw_size, L8.out]; kernel_rfl) (by rw [cw_size, L8.out]; rfl) (cw_one _) ?_))
  refine gen_world fun W hW => ?_
  have k9 : W.heap[w1.heap.size]? = some (.cells (cw mid) 37 (0, 0)) := by subst hW; exact setRow_blk (blk_new w1 _) _
  have HB : Below w.heap.size w W := by subst hW; exact bl_row _ _ hw1.size (bl_alloc hw1 _)
  obtain ⟨g9, hg9⟩ : ∃ g, g = w1.heap.size := ⟨_, rfl⟩
  rw [← hg9] at k9 ⊢
  clear hW hg9 hw1 hS w1
  go_upto_region 5 with (first | (refine wpList_load_row rfl _ _ rfl g9 rfl 37 (cw mid) (0, 0) _ k9 Try.underlying37 rfl (by rw [cw_size, L8.out]; kernel_rfl) ?_) | (go_at_call 31; refine (hK _).mono ?_; rintro e w3 ⟨rfl, hw3⟩) | (refine wpList_store_row rfl _ _ _ rfl w3.heap.size (cw c1) rfl rfl 37 _ (blk_alloc (blk_new w3 _) _) (by rw [cw_size, LC.out]; kernel_rfl) (by rw [cw_size, LC.out]; rfl) (cw_one _) ?_) | (refine wpList_store_row rfl _ _ _ rfl (w3.heap.size + 1) (cw s1) rfl rfl 37 _ (setRow_far (blk_new' (by simp) _) (by omega) _) (by rw [cw_size, LS.out]; kernel_rfl) (by rw [cw_size, LS.out]; rfl) (cw_one _) ?_))
  refine gen_world fun W4 hW => ?_
  have k4 : W4.heap[w3.heap.size]? = some (.cells (cw c1) 37 (0, 0)) := by subst hW; exact setRow_far (setRow_blk (blk_alloc (blk_new w3 _) _) _) (by omega) _
  have hb2 : Below w3.heap.size w3 W4 := by subst hW; exact bl_row _ _ (by omega) (bl_row _ _ (Nat.le_refl _) (bl_alloc (bl_alloc (Below.refl _ _) _) _))
  replace HB := bl_call (bl_call hb2 hw3) HB
  obtain ⟨g4, hg4⟩ : ∃ g, g = w3.heap.size := ⟨_, rfl⟩
  rw [← hg4] at k4 ⊢
  clear hW hb2 hw3 k9 hg4 hK
  go_wp2_with (first | (refine wpList_load_row rfl _ _ rfl g4 rfl 37 (cw c1) (0, 0) _ k4 Try.underlying37 rfl (by rw [cw_size, LC.out]; kernel_rfl) ?_) | (go_at_call 25; refine (hT1 _).mono ?_; rintro e w5 ⟨rfl, hw5⟩) | (go_at_call 27; refine (hSu _).mono ?_; rintro e w6 ⟨rfl, hw6⟩) | (go_at_call 28; refine (hP _).mono ?_; rintro e w7 ⟨rfl, hw7⟩) | (go_at_call 13; refine (hX _).mono ?_; rintro e w8 ⟨rfl, hw8⟩))
  exact bodyPost_ret (v := .tuple #[.string res, .int .i64 0]) (by simp [results, Try.results20, go_sem]) rfl ⟨rfl, bl_call hw8 (bl_call hw7 (bl_call hw6 (bl_call hw5 HB)))⟩
set_option maxHeartbeats 4000000 in
theorem sProof_no (p s t : ByteArray) (n : Int) (hn : n < 1 ∨ 16777216 < n) (w : World) : Calls Try.prog 20 #[.string p, .string s, .int .i64 n, .string t] w fun e w' => e = .returned (.tuple #[.string ByteArray.empty, .int .i64 7]) ∧ Below w.heap.size w w' := by
  have hS := fun w => salted_no p s n hn w
  clear hn
  go_enter Try.func20, Try.ntmps20
  go_wp2_with (first | (go_at_call 24; refine (hS _).mono ?_; rintro e w1 ⟨rfl, hw1⟩) | (refine wpList_store_row rfl _ _ _ rfl w1.heap.size (cw zero8) rfl rfl 37 _ (blk_new w1 _) (by kernel_rfl) (by rfl) (cw_one _) ?_))
  exact bodyPost_ret (v := .tuple #[.string ByteArray.empty, .int .i64 7]) (by simp [results, Try.results20, go_sem]; try rfl) rfl ⟨rfl, bl_row _ _ hw1.size (bl_alloc hw1 _)⟩
/-- Is a proof right? -/
def checkB (st pr t : ByteArray) : Bool := decide (pr.size = 32) && ((⟨(refBytes (refSum (xorB pr.data.toList (macText st t).data.toList))).toArray⟩ : ByteArray).toList == st.toList)
set_option maxHeartbeats 4000000 in
theorem sCheck_c (st pr t : ByteArray) (hs : st.size ≤ 100000) (hp : pr.size ≤ 100000) (ht : t.size ≤ 100000) (w : World) : Calls Try.prog 11 #[.string st, .string pr, .string t] w fun e w' => e = .returned (.bool (checkB st pr t)) ∧ Below w.heap.size w w' := by
  have hms : (macText st t).size = 32 := by simp [macText, ByteArray.size, refBytes_length _ (macK_length _ _), macw]
  have hP := fun w => hPlain_c st t (by omega) (by omega) w
  have hX := fun w => sXor_c pr (macText st t) (by omega) (by omega) w
  have hSu := fun w => Sum_ref ⟨(xorB pr.data.toList (macText st t).data.toList).toArray⟩ (by show (xorB pr.data.toList (macText st t).data.toList).toArray.size ≤ _; rw [List.size_toArray, xorB_length, Array.length_toList, Array.length_toList]; exact Nat.le_trans (Nat.min_le_left _ _) (show pr.size ≤ _ by omega)) w
  by_cases h32 : pr.size = 32
  · have hc : checkB st pr t = ((⟨(refBytes (refSum (xorB pr.data.toList (macText st t).data.toList))).toArray⟩ : ByteArray).toList == st.toList) := by simp [checkB, h32]
    rw [hc]
    have h1 : ((pr.size : Int) == 32) = true := by simp; omega
    clear hc
    generalize macText st t = mt at hP hX hSu ⊢
    rw [show (⟨(xorB pr.data.toList mt.data.toList).toArray⟩ : ByteArray).data.toList = xorB pr.data.toList mt.data.toList from rfl] at hSu
    generalize (⟨(refBytes (refSum (xorB pr.data.toList mt.data.toList))).toArray⟩ : ByteArray) = q2 at hSu ⊢
    generalize (⟨(xorB pr.data.toList mt.data.toList).toArray⟩ : ByteArray) = q1 at hX hSu
    go_enter Try.func11, Try.ntmps11
    go_wp2_with (first | (go_at_call 28; refine (hP _).mono ?_; rintro e w7 ⟨rfl, hw7⟩) | (go_at_call 13; refine (hX _).mono ?_; rintro e w8 ⟨rfl, hw8⟩) | (go_at_call 27; refine (hSu _).mono ?_; rintro e w6 ⟨rfl, hw6⟩))
    exact bodyPost_ret (v := .bool (q2.toList == st.toList)) (by simp [results, Try.results11, go_sem]) rfl ⟨rfl, bl_call hw6 (bl_call hw8 hw7)⟩
  · have hc : checkB st pr t = false := by simp [checkB, h32]
    rw [hc]
    have h1 : ((pr.size : Int) == 32) = false := by simp; omega
    clear hc
    go_enter Try.func11, Try.ntmps11
    go_wp2_with fail
    exact bodyPost_ret (v := .bool false) (by simp [results, Try.results11, go_sem]) rfl ⟨rfl, Below.refl _ _⟩
end Go.Proofs.Ytpcpdgkkjkkklaa

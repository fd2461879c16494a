/- The reference of law 26: Text. -/
import Derived.Test.YtkbgcmfldfbcgaaGreatDoorRi
import Derived.Test.YtkbgcmfldfbcgaaGreatDoorBf
import Derived.BigQuiet
namespace Go.Proofs.YtkbgcmfldfbcgaaGreatDoor
open Go.RowKit Go.Lib
set_option maxRecDepth 100000
set_option linter.unusedSimpArgs false
set_option linter.unusedVariables false
theorem run_cat (a b s : ByteArray) (hs : s = a ++ b) (hz : a.size + b.size ≤ 2000) (w : World) : (Op.stringOp .add a b).run Tryz.prog w = .ok (.string s) w := by
  subst hs
  exact run_string_add_sum w a b (by omega)
def enQ (s : ByteArray) : ByteArray := ⟨(encL s.data.toList).toArray⟩
def dolB : ByteArray := ⟨#[36]⟩
def sabB : ByteArray := ⟨#[115, 97, 98, 36]⟩
theorem text_cat (r : Rcd) (h : chkR r = 0) : ((((((((sabB ++ proN r.p) ++ dolB) ++ ⟨(ddN r.n.toNat).toArray⟩) ++ dolB) ++ enQ r.a) ++ dolB) ++ enQ r.b) ++ dolB) ++ enQ r.c = textR r := by
  obtain ⟨h1, h2, h3, h4, h5⟩ := chk_parts r h
  have e : itoa r.n = ddN r.n.toNat := by
    rw [itoa, if_neg (by omega), ddN_dec _ (by omega)]
  apply ByteArray.ext
  apply Array.ext'
  unfold textR partsR encS
  rw [e]
  simp [joinL, sabB, dolB, sabS, enQ]
set_option maxHeartbeats 4000000 in
theorem rText_c (r : Rcd) (h : chkR r = 0) (w : World) : Calls Tryz.prog 11 #[.agg #[.int .i64 r.p, .int .i64 r.n, .string r.a, .string r.b, .string r.c]] w fun x w' => x = .returned (.string (textR r)) ∧ Below w.heap.size w w' := by
  have hz := textR_size r h
  have ht := text_cat r h
  obtain ⟨h1, h2, h3, h4, h5⟩ := chk_parts r h
  have hN := fun w => (rName_c r.p w).mono (R' := fun e w' => e = .returned (.string (proN r.p)) ∧ Below w.heap.size w w') (by rintro e w' ⟨rfl, rfl⟩; exact ⟨rfl, Below.refl _ _⟩)
  have hD := fun w => (digits_c r.n.toNat (by omega) w).mono (R' := fun e w' => e = .returned (.string ⟨(ddN r.n.toNat).toArray⟩) ∧ Below w.heap.size w w') (by rintro e w' ⟨rfl, rfl⟩; exact ⟨rfl, Below.refl _ _⟩)
  rw [show ((r.n.toNat : Nat) : Int) = r.n by omega] at hD
  have hE : ∀ s : ByteArray, s.size ≤ 2000 → ∀ w, Calls Tryz.prog 30 #[.string s] w fun e w' => e = .returned (.string (enQ s)) ∧ Below w.heap.size w w' := fun s hs w => rEncode_c s hs w
  have za : r.a.size ≤ 2000 := by omega
  have zb : r.b.size ≤ 2000 := by omega
  have zc : r.c.size ≤ 2000 := by omega
  generalize textR r = T at hz ht ⊢
  generalize (⟨(ddN r.n.toNat).toArray⟩ : ByteArray) = D at hD ht
  generalize proN r.p = P at hN ht
  clear h1 h2 h3 h4 h5 h
  have hzz := congrArg ByteArray.size ht
  obtain ⟨S1, e1⟩ : ∃ S, S = sabB ++ P := ⟨_, rfl⟩
  rw [← e1] at ht hzz
  obtain ⟨S2, e2⟩ : ∃ S, S = S1 ++ dolB := ⟨_, rfl⟩
  rw [← e2] at ht hzz
  obtain ⟨S3, e3⟩ : ∃ S, S = S2 ++ D := ⟨_, rfl⟩
  rw [← e3] at ht hzz
  obtain ⟨S4, e4⟩ : ∃ S, S = S3 ++ dolB := ⟨_, rfl⟩
  rw [← e4] at ht hzz
  obtain ⟨S5, e5⟩ : ∃ S, S = S4 ++ enQ r.a := ⟨_, rfl⟩
  rw [← e5] at ht hzz
  obtain ⟨S6, e6⟩ : ∃ S, S = S5 ++ dolB := ⟨_, rfl⟩
  rw [← e6] at ht hzz
  obtain ⟨S7, e7⟩ : ∃ S, S = S6 ++ enQ r.b := ⟨_, rfl⟩
  rw [← e7] at ht hzz
  obtain ⟨S8, e8⟩ : ∃ S, S = S7 ++ dolB := ⟨_, rfl⟩
  rw [← e8] at ht hzz
  have z1 := congrArg ByteArray.size e1
  have z2 := congrArg ByteArray.size e2
  have z3 := congrArg ByteArray.size e3
  have z4 := congrArg ByteArray.size e4
  have z5 := congrArg ByteArray.size e5
  have z6 := congrArg ByteArray.size e6
  have z7 := congrArg ByteArray.size e7
  have z8 := congrArg ByteArray.size e8
  rw [ByteArray.size_append] at z1 z2 z3 z4 z5 z6 z7 z8 hzz
  have a1 := run_cat sabB P S1 e1 (by omega)
  have a2 := run_cat S1 dolB S2 e2 (by omega)
  have a3 := run_cat S2 D S3 e3 (by omega)
  have a4 := run_cat S3 dolB S4 e4 (by omega)
  have a5 := run_cat S4 (enQ r.a) S5 e5 (by omega)
  have a6 := run_cat S5 dolB S6 e6 (by omega)
  have a7 := run_cat S6 (enQ r.b) S7 e7 (by omega)
  have a8 := run_cat S7 dolB S8 e8 (by omega)
  have a9 := run_cat S8 (enQ r.c) T ht.symm (by omega)
  unfold sabB at a1
  unfold dolB at a2 a4 a6 a8
  clear e1 e2 e3 e4 e5 e6 e7 e8 z1 z2 z3 z4 z5 z6 z7 z8 hzz ht hz
  go_enter Tryz.func11, Tryz.ntmps11
  go_upto_region 1 with fail
  refine gen_world fun W hW => ?_
  have hk : W.heap[w.heap.size]? = some (.cells #[.int .i64 r.p, .int .i64 r.n, .string r.a, .string r.b, .string r.c] 24 (0, 0)) := by subst hW; exact blk_new _ _
  have hAb : Below w.heap.size w W := by subst hW; (repeat (first | exact Below.refl _ _ | (refine bl_alloc ?_ _) | (refine bl_drewN ?_ _) | (refine bl_drew ?_) | (refine bl_call (by assumption) ?_) | (refine bl_set _ _ (by simp <;> omega) ?_) | assumption))
  clear hW
  have c0 := blk_cell hk 0
  have c1 := blk_cell hk 1
  have c2 := blk_cell hk 2
  have c3 := blk_cell hk 3
  have c4 := blk_cell hk 4
  simp only [List.getElem?_toArray, List.getElem?_cons_zero, List.getElem?_cons_succ] at c0 c1 c2 c3 c4
  clear hk
  refine wp_region_grow (fun w' => Below W.heap.size W w') 24 (by kernel_rfl) (by kernel_rfl) ⟨rfl, rfl, rfl, Nat.le_refl _, fun _ _ => rfl⟩ ?_
  simp only [List.take_succ_cons, List.take_zero, List.drop_succ_cons, List.drop_zero]
  repeat (first | go_big_quiet_skip | (go_big_quiet_want; go_big_quiet_op; first | go_big_quiet_on | (apply Exists.intro; refine ⟨fun w1 hw1 => ?_, ?_⟩; (first | exact rfl | (simp only [grow_cell hw1 c0, Result.andThen_ok]; exact ⟨trivial, rfl⟩) | (simp only [grow_cell hw1 c1, Result.andThen_ok]; exact ⟨trivial, rfl⟩) | (simp only [grow_cell hw1 c2, Result.andThen_ok]; exact ⟨trivial, rfl⟩) | (simp only [grow_cell hw1 c3, Result.andThen_ok]; exact ⟨trivial, rfl⟩) | (simp only [grow_cell hw1 c4, Result.andThen_ok]; exact ⟨trivial, rfl⟩) | (simp only [a1, a2, a3, a4, a5, a6, a7, a8, a9, Result.andThen_ok]; exact ⟨trivial, rfl⟩) | (go_at_call 19; refine Calls_grow hw1 (hN w1)) | (go_at_call 29; refine Calls_grow hw1 (hD w1)) | (go_at_call 30; refine Calls_grow hw1 (hE _ (by assumption) w1))); go_big_quiet_on)))
  refine wpQuiet_nil ?_
  intro w1 hw1
  have hA2 := bl_call hw1 hAb
  clear hw1
  go_wp2_with fail
  exact bodyPost_ret (v := .string T) (by simp [results, Tryz.results11, go_sem]) rfl ⟨rfl, hA2⟩
end Go.Proofs.YtkbgcmfldfbcgaaGreatDoor

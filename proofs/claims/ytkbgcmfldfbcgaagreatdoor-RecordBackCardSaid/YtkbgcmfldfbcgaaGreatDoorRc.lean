/- record.Encode. -/
import Derived.Test.YtkbgcmfldfbcgaaGreatDoorRb
import Derived.WalkSmall
import Derived.Lib.Join
import Derived.Lib.AppendIntMem
namespace Go.Proofs.YtkbgcmfldfbcgaaGreatDoor
open Go.RowKit
set_option maxRecDepth 100000
set_option linter.unusedSimpArgs false
set_option linter.unusedVariables false
theorem join_is (c : UInt8) : ∀ l : List (List UInt8), Lib.join l [c] = joinL c l := by
  intro l
  induction l with
  | nil => rfl
  | cons p t ih =>
    cases t with
    | nil => rw [Lib.join_one]; rfl
    | cons q t =>
      rw [joinL, ← ih, Lib.join_cons, Lib.join_cons]
      simp [Lib.joinTail]
abbrev TabP (w : World) : Prop := Lib.TabIs Tryz.prog w "internal/strconv.uint64pow10" .u64 Lib.pow10Tab
theorem tabP_below {B : Nat} {w w' : World} (h : TabP w) (hB : B = w.heap.size) (hb : Below B w w') : TabP w' := by
  subst hB
  unfold TabP Lib.TabIs World.var? at h ⊢
  cases hg : Tryz.prog.globalNamed "internal/strconv.uint64pow10" with
  | none => rw [hg] at h; cases h
  | some g =>
    rw [hg] at h
    simp only [Option.bind_some] at h ⊢
    have hlt : g < w.heap.size := by
      rcases Nat.lt_or_ge g w.heap.size with h' | h'
      · exact h'
      · rw [Array.getElem?_eq_none h'] at h; cases h
    rw [hb.block g hlt]
    exact h
theorem Itoa_g (n : Int) (h0 : 1 ≤ n) (h1 : n ≤ 16777216) (w : World) (h : TabP w) : Calls Tryz.prog 26 #[.int .i64 n] w fun e w' => e = .returned (.string ⟨(Lib.itoa n).toArray⟩) ∧ Below w.heap.size w w' := by
  refine (Tryz.strconv_Itoa n (by omega) (by omega) w h).mono ?_
  rintro e w' ⟨rfl, k, os, rfl⟩
  exact ⟨rfl, Go.Lib.below_grow _ _ (Nat.le_refl _) k os⟩
def enB (s : ByteArray) : ByteArray := ⟨(encL s.data.toList).toArray⟩
def xsR (r : Rcd) : List ByteArray := [sabS, proN r.p, ⟨(Lib.itoa r.n).toArray⟩, enB r.a, enB r.b, enB r.c]
theorem xsR_parts (r : Rcd) : (xsR r).map (·.data.toList) = partsR r := by
  simp [xsR, partsR, encS, enB]
theorem rEnc_no (r : Rcd) (h : chkR r ≠ 0) (w : World) : Calls Tryz.prog 8 #[recV r] w fun x w' => x = .returned (.tuple #[.string ⟨#[]⟩, .int .i64 (chkR r)]) ∧ Below w.heap.size w w' := by
  have hC := fun w => check_c r w
  generalize chkR r = e1 at h hC ⊢
  unfold recV at hC ⊢
  go_enter Tryz.func8, Tryz.ntmps8
  go_upto_region 1 with fail
  refine gen_world fun W hW => ?_
  have hk : W.heap[w.heap.size]? = some (.cells #[.int .i64 r.p, .int .i64 r.n, .string r.a, .string r.b, .string r.c] 24 (0, 0)) := by subst hW; exact blk_new _ _
  have hA : Below w.heap.size w W := by subst hW; (repeat (first | exact Below.refl _ _ | (refine bl_alloc ?_ _) | (refine bl_drewN ?_ _) | (refine bl_drew ?_) | (refine bl_call (by assumption) ?_) | (refine bl_set _ _ (by simp <;> omega) ?_) | assumption))
  clear hW
  have c0 := blk_cell hk 0
  have c1 := blk_cell hk 1
  have c2 := blk_cell hk 2
  have c3 := blk_cell hk 3
  have c4 := blk_cell hk 4
  simp only [List.getElem?_toArray, List.getElem?_cons_zero, List.getElem?_cons_succ] at c0 c1 c2 c3 c4
  go_wp2_with (go_at_call 23; refine (hC _).mono ?_; rintro e w5 ⟨rfl, hb⟩)
  exact bodyPost_ret (v := .tuple #[.string ⟨#[]⟩, .int .i64 e1]) (by simp [results, Tryz.results8, go_sem]) rfl ⟨rfl, bl_call hb hA⟩
set_option maxHeartbeats 4000000 in
theorem rEnc_c (r : Rcd) (h : chkR r = 0) (w : World) (ht : TabP w) : Calls Tryz.prog 8 #[recV r] w fun x w' => x = .returned (.tuple #[.string (textR r), .int .i64 0]) ∧ Below w.heap.size w w' := by
  have hC := fun w => check_c r w
  rw [h] at hC
  have hz := textR_size r h
  obtain ⟨h1, h2, h3, h4, h5⟩ := chk_parts r h
  have hN := fun w => Name_c r.p w
  have hI := fun w => Itoa_g r.n h2.1 h2.2 w
  have hE : ∀ s : ByteArray, s.size ≤ 2000 → ∀ w, Calls Tryz.prog 27 #[.string s] w fun e w' => e = .returned (.string (enB s)) ∧ Below w.heap.size w w' := fun s hs w => Encode_c s hs w
  have hj : (Lib.join ((xsR r).map (·.data.toList)) [36]) = joinL 36 (partsR r) := by rw [xsR_parts, join_is]
  have hJ := fun (w : World) (g : Nat) (hk : w.heap[g]? = some (.cells #[.string sabS, .string (proN r.p), .string ⟨(Lib.itoa r.n).toArray⟩, .string (enB r.a), .string (enB r.b), .string (enB r.c)] 9 (0, 0))) => Tryz.strings_Join g 0 6 (xsR r) ⟨#[36]⟩ w (fun j x hx => by
    have := blk_cell hk j
    unfold xsR at hx
    match j, hx with
    | 0, hx => simp only [List.getElem?_cons_zero, List.getElem?_cons_succ, Option.some.injEq] at hx; subst hx; simpa using this
    | 1, hx => simp only [List.getElem?_cons_zero, List.getElem?_cons_succ, Option.some.injEq] at hx; subst hx; simpa using this
    | 2, hx => simp only [List.getElem?_cons_zero, List.getElem?_cons_succ, Option.some.injEq] at hx; subst hx; simpa using this
    | 3, hx => simp only [List.getElem?_cons_zero, List.getElem?_cons_succ, Option.some.injEq] at hx; subst hx; simpa using this
    | 4, hx => simp only [List.getElem?_cons_zero, List.getElem?_cons_succ, Option.some.injEq] at hx; subst hx; simpa using this
    | 5, hx => simp only [List.getElem?_cons_zero, List.getElem?_cons_succ, Option.some.injEq] at hx; subst hx; simpa using this
    | j + 6, hx => simp at hx) (blk_lt hk) (show (6 : Nat) ≤ 140737488355328 by decide) (show (6 : Nat) ≤ 6 by decide) (by
      show (Lib.join _ [36]).length ≤ _
      rw [hj]
      have : (textR r).size = (joinL 36 (partsR r)).length := by simp [textR, ByteArray.size]
      omega)
  have hj2 : (⟨(Lib.join ((xsR r).map (·.data.toList)) (⟨#[36]⟩ : ByteArray).data.toList).toArray⟩ : ByteArray) = textR r := by
    show (⟨(Lib.join _ [36]).toArray⟩ : ByteArray) = _
    rw [hj]; rfl
  simp only [hj2] at hJ
  clear hj hj2 hz
  have hl : (xsR r).length = 6 := rfl
  rw [hl] at hJ
  generalize textR r = T at hJ ⊢
  generalize (⟨(Lib.itoa r.n).toArray⟩ : ByteArray) = en at hI hJ
  generalize proN r.p = ep at hN hJ
  have za : r.a.size ≤ 2000 := by omega
  have zb : r.b.size ≤ 2000 := by omega
  have zc : r.c.size ≤ 2000 := by omega
  clear h h1 h2 h3 h4 h5 hl
  replace hJ := Lib.hid hJ
  replace ht := Lib.hid ht
  unfold recV at hC ⊢
  go_enter Tryz.func8, Tryz.ntmps8
  go_upto_region 1 with fail
  refine gen_world fun W hW => ?_
  have hk : W.heap[w.heap.size]? = some (.cells #[.int .i64 r.p, .int .i64 r.n, .string r.a, .string r.b, .string r.c] 24 (0, 0)) := by subst hW; exact blk_new _ _
  have hA : Below w.heap.size w W := by subst hW; (repeat (first | exact Below.refl _ _ | (refine bl_alloc ?_ _) | (refine bl_drewN ?_ _) | (refine bl_drew ?_) | (refine bl_call (by assumption) ?_) | (refine bl_set _ _ (by simp <;> omega) ?_) | assumption))
  clear hW
  have c0 := blk_cell hk 0
  have c1 := blk_cell hk 1
  have c2 := blk_cell hk 2
  have c3 := blk_cell hk 3
  have c4 := blk_cell hk 4
  simp only [List.getElem?_toArray, List.getElem?_cons_zero, List.getElem?_cons_succ] at c0 c1 c2 c3 c4
  clear hk
  go_upto_region 4 with (go_at_call 23; refine (hC _).mono ?_; rintro e w5 ⟨rfl, hb⟩)
  clear hC
  replace c0 := grow_cell hb c0
  replace c1 := grow_cell hb c1
  replace c2 := grow_cell hb c2
  replace c3 := grow_cell hb c3
  replace c4 := grow_cell hb c4
  replace hA := bl_call hb hA
  have ht2 := Lib.hid (tabP_below ht.out rfl hA)
  clear hb
  refine gen_world fun W hW => ?_
  subst hW
  refine wp_region_grow (fun w' => Below W.heap.size W w') 15 (by kernel_rfl) (by kernel_rfl) ⟨rfl, rfl, rfl, Nat.le_refl _, fun _ _ => rfl⟩ ?_
  simp only [List.take_succ_cons, List.take_zero, List.drop_succ_cons, List.drop_zero]
  repeat (first | go_big_quiet_skip | (go_big_quiet_want; go_big_quiet_op; first | go_big_quiet_on | (apply Exists.intro; refine ⟨fun w1 hw1 => ?_, ?_⟩; (first | exact rfl | (simp only [grow_cell hw1 c0, Result.andThen_ok]; exact ⟨trivial, rfl⟩) | (simp only [grow_cell hw1 c1, Result.andThen_ok]; exact ⟨trivial, rfl⟩) | (simp only [grow_cell hw1 c2, Result.andThen_ok]; exact ⟨trivial, rfl⟩) | (simp only [grow_cell hw1 c3, Result.andThen_ok]; exact ⟨trivial, rfl⟩) | (simp only [grow_cell hw1 c4, Result.andThen_ok]; exact ⟨trivial, rfl⟩) | (go_at_call 25; refine Calls_grow hw1 (hN w1)) | (go_at_call 26; refine Calls_grow hw1 (hI w1 (tabP_below ht2.out rfl hw1))) | (go_at_call 27; refine Calls_grow hw1 (hE _ (by assumption) w1))); go_big_quiet_on)))
  refine wpQuiet_nil ?_
  intro w1 hw1
  have hA2 := bl_call hw1 hA
  clear hw1 hA ht2 c0 c1 c2 c3 c4 hN hI hE
  go_wp2_with (go_at_call 24; refine (hJ.out _ _ (blk_new _ _)).mono ?_; rintro e w6 ⟨rfl, hb6⟩)
  exact bodyPost_ret (v := .tuple #[.string T, .int .i64 0]) (by simp [results, Tryz.results8, go_sem]) rfl ⟨rfl, by (repeat (first | exact Below.refl _ _ | (refine bl_alloc ?_ _) | (refine bl_drewN ?_ _) | (refine bl_drew ?_) | (refine bl_call (by assumption) ?_) | (refine bl_set _ _ (by simp <;> omega) ?_) | assumption))⟩
end Go.Proofs.YtkbgcmfldfbcgaaGreatDoor

/- record.Decode at any text; law 26's awake. -/
import Derived.Test.YtkbgcmfldfbcgaaDoorRe
namespace Go.Proofs.YtkbgcmfldfbcgaaDoor
open Go.RowKit
set_option maxRecDepth 100000
set_option linter.unusedSimpArgs false
set_option linter.unusedVariables false
theorem decR_form (s : ByteArray) (hf : (splitS 36 s).length ≠ 6 ∨ ∃ x l, splitS 36 s = x :: l ∧ x ≠ sabS) : decR s = .bad 4 := by
  unfold decR
  split
  · rfl
  · split
    · rename_i h1 h2 p n a b c hs
      split
      · rfl
      · rename_i h3
        exfalso
        rcases hf with q | ⟨x, l, e, hx⟩
        · exact q (by rw [hs]; rfl)
        · rw [hs] at e
          injection e with e1 e2
          subst e1
          exact h3 hx
    · rfl
theorem split_size (s x : ByteArray) (h : x ∈ splitS 36 s) : x.size ≤ s.size := by
  unfold splitS at h
  obtain ⟨p, hp, rfl⟩ := List.mem_map.1 h
  have := split_part 36 _ p hp
  rw [show s.size = s.data.toList.length from Array.length_toList.symm]
  show p.toArray.size ≤ _
  rw [List.size_toArray]
  exact this
theorem recDec_c (s : ByteArray) (w : World) (hm : MaxL w) : Calls Tryd.prog 6 #[.string s] w fun x w' => x = .returned (drV (decR s)) ∧ Below w.heap.size w w' := by
  by_cases hs : 2000 < s.size
  · have : decR s = .bad 4 := by unfold decR; rw [if_pos hs]
    rw [this]
    exact rDec_long s hs w
  have hs2 : s.size ≤ 2000 := by omega
  by_cases hf : (splitS 36 s).length ≠ 6 ∨ ∃ x l, splitS 36 s = x :: l ∧ x ≠ sabS
  · rw [decR_form s hf]
    exact rDec_form s hs2 hf w hm
  · obtain ⟨p, n, a, b, c, hL⟩ : ∃ p n a b c, splitS 36 s = [sabS, p, n, a, b, c] := by
      have hz := fun x hx => split_size s x hx
      clear hz
      generalize splitS 36 s = LS at hf
      match LS with
      | [x, p, n, a, b, c] =>
        by_cases hx : x = sabS
        · exact ⟨p, n, a, b, c, by rw [hx]⟩
        · exact absurd (.inr ⟨x, _, rfl, hx⟩) hf
      | [] => exact absurd (.inl (by simp)) hf
      | [_] => exact absurd (.inl (by simp)) hf
      | [_, _] => exact absurd (.inl (by simp)) hf
      | [_, _, _] => exact absurd (.inl (by simp)) hf
      | [_, _, _, _] => exact absurd (.inl (by simp)) hf
      | [_, _, _, _, _] => exact absurd (.inl (by simp)) hf
      | _ :: _ :: _ :: _ :: _ :: _ :: _ :: _ => exact absurd (.inl (by simp)) hf
    have hz : ∀ x, x ∈ [sabS, p, n, a, b, c] → x.size ≤ 2000 := fun x hx => by
      have := split_size s x (by rw [hL]; exact hx)
      omega
    exact rDec_c s hs2 p n a b c hL ⟨hz _ (by simp), hz _ (by simp), hz _ (by simp), hz _ (by simp), hz _ (by simp)⟩ w hm
def z32 : ByteArray := ⟨(List.replicate 32 (0 : UInt8)).toArray⟩
def rec0 : Rcd := ⟨3, 4096, ⟨#[115, 97, 108, 116]⟩, z32, z32⟩
theorem chk0 : chkR rec0 = 0 := by decide
theorem itoa0 : Lib.itoa 4096 = [52, 48, 57, 54] := by
  have h := (canon [52, 48, 57, 54] (by decide) (by decide) (by decide)).1
  rw [Lib.itoa, if_neg (by omega)]
  exact h
theorem text0 : textR rec0 = ⟨(joinL 36 [sabS.data.toList, pn3.data.toList, [52, 48, 57, 54], encL [115, 97, 108, 116], encL (List.replicate 32 0), encL (List.replicate 32 0)]).toArray⟩ := by
  unfold textR partsR encS
  show (⟨(joinL 36 [sabS.data.toList, (proN 3).data.toList, Lib.itoa 4096, _, _, _]).toArray⟩ : ByteArray) = _
  rw [itoa0]
  rfl
theorem size0 : (textR rec0).size = 114 := by rw [text0]; decide +kernel
theorem head0 : (textR rec0).extract 0 25 = ⟨#[115, 97, 98, 36, 111, 112, 97, 113, 117, 101, 36, 52, 48, 57, 54, 36, 99, 50, 70, 115, 100, 65, 61, 61, 36]⟩ := by rw [text0]; decide +kernel
set_option maxHeartbeats 4000000 in
theorem awake26_c (w : World) (ht : TabP w) (hm : MaxL w) : Calls Tryd.prog 4 #[] w fun x w' => x = .returned (.bool true) ∧ Below w.heap.size w w' := by
  have hE := fun w ht => rEnc_c rec0 chk0 w ht
  have hD := fun w hm => recDec_c (textR rec0) w hm
  rw [dec_text rec0 chk0] at hD
  have h1 := size0
  have h2 := head0
  have h3 : ((textR rec0).size : Int) = 114 := by omega
  have h4 : (25 : Int) ≤ ((textR rec0).size : Int) := by omega
  have h5 : 25 ≤ (textR rec0).size := by omega
  generalize textR rec0 = T at hE hD h1 h2 h3 h4 h5
  unfold recV rec0 at hE
  simp only [drV, recV, rec0] at hD
  have hE2 : ∀ w, TabP w → Calls Tryd.prog 5 #[.agg #[.int .i64 3, .int .i64 4096, .string ⟨#[115, 97, 108, 116]⟩, .string z32, .string z32]] w fun x w' => x = .returned (.tuple #[.string T, .int .i64 0]) ∧ Below w.heap.size w w' := hE
  clear hE
  have hz : RowB (w.alloc (.cells (Array.replicate 32 (.int .u8 0)) 5)) (.slice (some ⟨w.heap.size, 0, none⟩) 32 32) (List.replicate 32 0) := rowOf 32 (blk_new _ _) rfl rfl
  have hz2 : (⟨(List.replicate 32 (0 : UInt8)).toArray⟩ : ByteArray) = z32 := rfl
  generalize List.replicate 32 (0 : UInt8) = zl at hz hz2
  have hA0 : Below w.heap.size w (w.alloc (.cells (Array.replicate 32 (.int .u8 0)) 5)) := (Below.refl _ _).alloc (Nat.le_refl _) _
  have ht2 := tabP_below ht rfl hA0
  have hm2 : MaxL (w.alloc (.cells (Array.replicate 32 (.int .u8 0)) 5)) := by
    obtain ⟨m, hm⟩ := hm
    exact ⟨m, grow_cell hA0 hm⟩
  clear ht hm
  replace hE2 := Lib.hid hE2
  replace hD := Lib.hid hD
  replace ht2 := Lib.hid ht2
  replace hm2 := Lib.hid hm2
  replace hz2 := Lib.hid hz2
  go_enter Tryd.func4, Tryd.ntmps4
  go_upto_region 2 with (first | (refine wpList_makeN rfl _ _ 29 rfl 5 (.int .u8 0) (.int .u8 0) 1 Tryd.underlying29 (by kernel_rfl) rfl (by omega) _ 32 rfl rfl rfl (by omega) ?_) | (refine wpList_convBS rfl rfl rfl hz ?_))
  rw [hz2.out]
  generalize w.alloc (.cells (Array.replicate 32 (.int .u8 0)) 5) = W at hA0 ht2 hm2 ⊢
  clear hz hz2
  generalize z32 = z at hE2 hD ⊢
  go_upto_region 3 with (go_at_call 5; refine (hE2.out _ ht2.out).mono ?_; rintro e w5 ⟨rfl, hb⟩)
  have hm5 : MaxL w5 := by
    obtain ⟨m, hm⟩ := hm2.out
    exact ⟨m, grow_cell hb hm⟩
  have hA5 := bl_call hb hA0
  clear hm2 ht2 hb hA0 hE2
  go_upto_region 4 with (go_at_call 6; refine (hD.out _ hm5).mono ?_; rintro e w6 ⟨rfl, hb⟩)
  have hA6 := bl_call hb hA5
  clear hb hA5 hm5 hD
  go_wp2_with fail
  exact bodyPost_ret (v := .bool true) (by simp [results, Tryd.results4, go_sem]) rfl ⟨rfl, by (repeat (first | exact Below.refl _ _ | (refine bl_alloc ?_ _) | (refine bl_drewN ?_ _) | (refine bl_drew ?_) | (refine bl_call (by assumption) ?_) | (refine bl_set _ _ (by simp <;> omega) ?_) | assumption))⟩
end Go.Proofs.YtkbgcmfldfbcgaaDoor

/- Contracts of both Seals and Opens. -/
import Derived.Test.YthnackakgglhbaaGreatVb
import Derived.BigQuiet
namespace Go.Proofs.YthnackakgglhbaaGreat
open Go.RowKit Go.Lib
set_option maxRecDepth 100000
set_option linter.unusedSimpArgs false
set_option linter.unusedVariables false
theorem turned_c (k l t : ByteArray) (hk : k.size ≤ 100000) (hl : l.size ≤ 100000) (ht : t.size ≤ 4096) (w : World) : Calls Tryz.prog 24 #[.string k, .string l, .string t] w fun e w' => e = .returned (.string (outS k l t)) ∧ Below w.heap.size w w' := by
  have hS := fun w => vStream_c k l hk hl (t.size : Int) t.size (by omega) (by rw [if_neg (by omega)]) w
  have hz := strT_size k l t.size
  have hX := fun w => sXor_c t (strT k l t.size) (by omega) (by omega) w
  have he : (⟨(xorB t.data.toList (strT k l t.size).data.toList).toArray⟩ : ByteArray) = outS k l t := rfl
  rw [he] at hX
  generalize outS k l t = o at hX ⊢
  generalize strT k l t.size = m at hS hX hz
  clear he hz
  go_enter Tryz.func24, Tryz.ntmps24
  go_wp2_with (first | (go_at_call 33; refine (hS _).mono ?_; rintro e w3 ⟨rfl, hb3⟩) | (go_at_call 32; refine (hX _).mono ?_; rintro e w4 ⟨rfl, hb4⟩))
  exact bodyPost_ret (v := .string o) (by simp [results, Tryz.results24, go_sem]) rfl ⟨rfl, bl_call hb4 hb3⟩
theorem vSeal_no (k l t : ByteArray) (hL : labB l = false) (w : World) : Calls Tryz.prog 15 #[.string k, .string l, .string t] w fun e w' => e = .returned (.tuple #[.string ⟨#[]⟩, .int .i64 9]) ∧ Below w.heap.size w w' := by
  have hC := fun w => label_c l w
  rw [hL] at hC
  go_enter Tryz.func15, Tryz.ntmps15
  go_wp2_with (go_at_call 23; refine (hC _).mono ?_; rintro e w3 ⟨rfl, hb3⟩)
  exact bodyPost_ret (v := .tuple #[.string ⟨#[]⟩, .int .i64 9]) (by simp [results, Tryz.results15, go_sem]) rfl ⟨rfl, hb3⟩
theorem vSeal_c (k l t : ByteArray) (hL : labB l = true) (hk : k.size ≤ 10000) (hl : l.size ≤ 10000) (ht : t.size ≤ 2000) (w : World) : Calls Tryz.prog 15 #[.string k, .string l, .string t] w fun e w' => e = .returned (.tuple #[.string (sealS k l t), .int .i64 0]) ∧ Below w.heap.size w w' := by
  have hC := fun w => label_c l w
  rw [hL] at hC
  have hT := fun w => turned_c k l t (by omega) (by omega) (by omega) w
  have ho := outS_size k l t
  have hS := fun w => vsum_c k l (outS k l t) (by omega) (by omega) (by omega) w
  have h16 := sumS_size k l (outS k l t)
  have he : sealS k l t = outS k l t ++ sumS k l (outS k l t) := rfl
  rw [he]
  generalize sumS k l (outS k l t) = s at hS h16 ⊢
  generalize outS k l t = o at hT hS ho ⊢
  have q1 : ¬ 2000 < (t.size : Int) := by omega
  have q2 : (o.size : Int) + (s.size : Int) ≤ 100000 := by omega
  clear he hL
  go_enter Tryz.func15, Tryz.ntmps15
  go_wp2_with (first | (go_at_call 23; refine (hC _).mono ?_; rintro e w3 ⟨rfl, hb3⟩) | (go_at_call 24; refine (hT _).mono ?_; rintro e w4 ⟨rfl, hb4⟩) | (go_at_call 25; refine (hS _).mono ?_; rintro e w5 ⟨rfl, hb5⟩))
  all_goals first | exact bodyPost_ret (v := .tuple #[.string (o ++ s), .int .i64 0]) (by simp [results, Tryz.results15, go_sem]) rfl ⟨rfl, bl_call hb5 (bl_call hb4 hb3)⟩ | omega
theorem rSeal_c (k l t : ByteArray) (hk : k.size ≤ 10000) (hl : l.size ≤ 10000) (ht : t.size ≤ 2000) (w : World) : Calls Tryz.prog 13 #[.string k, .string l, .string t] w fun e w' => e = .returned (.string (sealS k l t)) ∧ Below w.heap.size w w' := by
  have hS := fun w => rStream_c k l (by omega) (by omega) t.size (by omega) w
  have hz := strT_size k l t.size
  have hX := fun w => rXor_c t (strT k l t.size) (by omega) (by omega) w
  have he : (⟨(xorB t.data.toList (strT k l t.size).data.toList).toArray⟩ : ByteArray) = outS k l t := rfl
  rw [he] at hX
  have ho := outS_size k l t
  have hM := fun w => mac43_c k (selK ++ l ++ zro ++ outS k l t) (by omega) (by
    simp only [ByteArray.size_append]
    have h1 : selK.size = 5 := rfl
    have h2 : zro.size = 1 := rfl
    omega) w
  have hm := macText_size k (selK ++ l ++ zro ++ outS k l t)
  have hf : sealS k l t = outS k l t ++ (macText k (selK ++ l ++ zro ++ outS k l t)).extract 0 16 := rfl
  rw [hf]
  generalize macText k (selK ++ l ++ zro ++ outS k l t) = m at hM hm ⊢
  generalize outS k l t = o at hX hM ho ⊢
  generalize strT k l t.size = st at hS hX hz
  have h16 : (16 : Int) ≤ (m.size : Int) := by omega
  have hx16 : (m.extract 0 16).size = 16 := by rw [ByteArray.size_extract]; omega
  unfold selK zro at hM
  clear he hf hz
  go_enter Tryz.func13, Tryz.ntmps13
  go_wp2_with (first | (go_at_call 20; refine (hS _).mono ?_; rintro e w3 ⟨rfl, hb3⟩) | (go_at_call 19; refine (hX _).mono ?_; rintro e w4 ⟨rfl, hb4⟩) | (go_at_call 18; refine (hM _).mono ?_; rintro e w5 ⟨rfl, hb5⟩))
  all_goals first | exact bodyPost_ret (v := .string (o ++ m.extract 0 16)) (by simp [results, Tryz.results13, go_sem]) rfl ⟨rfl, bl_call hb5 (bl_call hb4 hb3)⟩ | omega
end Go.Proofs.YthnackakgglhbaaGreat

/- Contracts of the scram reference's mac, sum, Signature; of params.Iter; of scram's Signature. -/
import Derived.Test.YtpcpdgkkjkkklaaSl
namespace Go.Proofs.Ytpcpdgkkjkkklaa
open Go.RowKit Go.Lib
set_option maxRecDepth 100000
set_option linter.unusedSimpArgs false
set_option linter.unusedVariables false
attribute [local go_sem] evR_tmp evR_const evR_global evR_func
set_option maxHeartbeats 2000000 in
theorem smac_c (ks : List UInt8) (kv : Value) (t : ByteArray) (w : World) (hk : ks.length ≤ 400000) (ht : t.size ≤ 400000) (hkv : RowB w kv ks) : Calls Try.prog 29 #[kv, .string t] w (OwnRet 5 32 ((refBytes (macw ks t.data.toList)).map bv) w) := by
  have hM := fun (w1 : World) (sv : Value) (hb : Below w.heap.size w w1) (hr : RowB w1 sv t.data.toList) => rMac_c ks t.data.toList kv sv w1 hk (by rw [Array.length_toList]; exact ht) (hkv.grow hb) hr
  have hB := fun w => rBytes_c (macw ks t.data.toList) (macK_length _ _) w
  generalize macw ks t.data.toList = m at hM hB ⊢
  go_enter Try.func29, Try.ntmps29
  go_wp2_with (first | (refine wpList_convSB rfl rfl rfl Try.underlying9 Try.underlying42 Try.underlying5 ?_; intro cap w2 hR hb2 hlt2) | (go_at_call 40; refine (hM _ _ hb2 hR).mono ?_; rintro e w3 ⟨rfl, hb3⟩) | (go_at_call 18; refine (hB _).mono ?_; rintro e w4 ⟨g, cap4, cur, rfl, h1, h2, h3, h4, hb4⟩))
  have h5 := hb2.size
  have h6 := hb3.size
  exact bodyPost_ret (v := .slice (some ⟨g, 0, none⟩) 32 cap4) (by simp [results, Try.results29, go_sem]) rfl ⟨g, cap4, cur, rfl, h1, by omega, h3, h4, bl_call hb4 (bl_call hb3 hb2)⟩
set_option maxHeartbeats 2000000 in
theorem ssum_c (bs : List UInt8) (kv : Value) (w : World) (hn : bs.length ≤ 400000) (hkv : RowB w kv bs) : Calls Try.prog 30 #[kv] w (OwnRet 5 32 ((refBytes (refSum bs)).map bv) w) := by
  have hM := rSum_c bs kv w (by omega) hkv
  have hB := fun w => rBytes_c (refSum bs) (refSum_length _) w
  generalize refSum bs = m at hM hB ⊢
  go_enter Try.func30, Try.ntmps30
  go_wp2_with (first | (go_at_call 43; refine hM.mono ?_; rintro e w3 ⟨rfl, hb3⟩) | (go_at_call 18; refine (hB _).mono ?_; rintro e w4 ⟨g, cap4, cur, rfl, h1, h2, h3, h4, hb4⟩))
  have h6 := hb3.size
  exact bodyPost_ret (v := .slice (some ⟨g, 0, none⟩) 32 cap4) (by simp [results, Try.results30, go_sem]) rfl ⟨g, cap4, cur, rfl, h1, by omega, h3, h4, bl_call hb4 hb3⟩
theorem sSig_c (k t : ByteArray) (hk : k.size ≤ 400000) (ht : t.size ≤ 400000) (w : World) : Calls Try.prog 22 #[.string k, .string t] w fun e w' => e = .returned (.string (macText k t)) ∧ Below w.heap.size w w' := by
  have hP := fun w => hPlain_c k t (by omega) (by omega) w
  generalize macText k t = m at hP ⊢
  go_enter Try.func22, Try.ntmps22
  go_wp2_with (go_at_call 28; refine (hP _).mono ?_; rintro e w3 ⟨rfl, hb3⟩)
  exact bodyPost_ret (v := .string m) (by simp [results, Try.results22, go_sem]) rfl ⟨rfl, hb3⟩
set_option maxHeartbeats 2000000 in
theorem srSig_c (k t : ByteArray) (hk : k.size ≤ 400000) (ht : t.size ≤ 400000) (w : World) : Calls Try.prog 23 #[.string k, .string t] w fun e w' => e = .returned (.string (macText k t)) ∧ Below w.heap.size w w' := by
  have hP := fun (w1 : World) (sv : Value) (hr : RowB w1 sv k.data.toList) => smac_c k.data.toList sv t w1 (by rw [Array.length_toList]; exact hk) ht hr
  have hl : (refBytes (macw k.data.toList t.data.toList)).length = 32 := refBytes_length _ (macK_length _ _)
  have hm : macText k t = ⟨(refBytes (macw k.data.toList t.data.toList)).toArray⟩ := rfl
  rw [hm]
  generalize refBytes (macw k.data.toList t.data.toList) = m at hP hl ⊢
  replace hl := Lib.hid hl
  clear hm
  go_enter Try.func23, Try.ntmps23
  go_wp2_with (first | (refine wpList_convSB rfl rfl rfl Try.underlying9 Try.underlying42 Try.underlying5 ?_; intro cap w2 hR hb2 hlt2) | (go_at_call 29; refine (hP _ _ hR).mono ?_; intro e w3 h3; obtain ⟨g, cap3, rfl, hR3, hb3⟩ := h3.row hl.out.symm) | (refine wpList_convBS rfl rfl rfl hR3 ?_))
  exact bodyPost_ret (v := .string ⟨m.toArray⟩) (by simp [results, Try.results23, go_sem]) rfl ⟨rfl, bl_call hb3 hb2⟩
/-- params.Iter: whether a number of rounds is one. -/
def iterE (n : Int) : Int := if n < 1 ∨ 16777216 < n then 7 else 0
end Go.Proofs.Ytpcpdgkkjkkklaa

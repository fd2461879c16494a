/- attr.Unescape. -/
import Derived.Test.YtjigckibbjfkmaaGreatDoorMb
namespace Go.Proofs.YtjigckibbjfkmaaGreatDoor
open Go.RowKit
set_option maxRecDepth 100000
set_option linter.unusedSimpArgs false
set_option linter.unusedVariables false
/-- What Unescape answers. -/
def unV : Option (List UInt8) → Value
  | some l => .tuple #[.string ⟨l.toArray⟩, .bool true]
  | none => .tuple #[.string ⟨#[]⟩, .bool false]
theorem CutE_c (s : ByteArray) (hs : s.size ≤ 100000) (w : World) (he : Env w) : Calls Tryz.prog 40 #[.string s, .string ⟨#[61]⟩] w fun e w' => e = .returned (.tuple #[.string ⟨(Lib.cut s.data.toList [61]).1.toArray⟩, .string ⟨(Lib.cut s.data.toList [61]).2.1.toArray⟩, .bool (Lib.cut s.data.toList [61]).2.2]) ∧ Below w.heap.size w w' := by
  obtain ⟨m, hm⟩ := he.max
  refine (Tryz.strings_Cut s ⟨#[61]⟩ m w (by omega) hm).mono ?_
  rintro e w' ⟨rfl, n, rfl⟩
  exact ⟨rfl, bl_drewN (Below.refl _ _) _⟩
theorem Has44_c (l : List UInt8) (hs : l.length ≤ 100000) (w : World) (he : Env w) : Calls Tryz.prog 41 #[.string ⟨l.toArray⟩, .string ⟨#[44]⟩] w fun e w' => e = .returned (.bool (decide (44 ∈ l))) ∧ w' = w := by
  obtain ⟨m, hm⟩ := he.max
  refine (Tryz.strings_Contains ⟨l.toArray⟩ ⟨#[44]⟩ m w (by rw [bsz]; omega) hm).mono ?_
  rintro e w' ⟨rfl, rfl⟩
  refine ⟨?_, rfl⟩
  have := contains_is 44 l
  rw [← this]
theorem Pre_c (l p : List UInt8) (w : World) : Calls Tryz.prog 43 #[.string ⟨l.toArray⟩, .string ⟨p.toArray⟩] w fun e w' => e = .returned (.bool (Lib.hasPrefix l p)) ∧ w' = w := by
  exact Tryz.strings_HasPrefix ⟨l.toArray⟩ ⟨p.toArray⟩ w
theorem unesc_cut_no (l : List UInt8) (h : (Lib.cut l [61]).2.2 = false) : unescR l = if 44 ∈ l then none else some l := by
  obtain ⟨h1, _⟩ := cut_no 61 l h
  by_cases q : 44 ∈ l
  · rw [if_pos q]
    have := unesc_bad l [] q h1
    rwa [List.append_nil] at this
  · rw [if_neg q]
    have := unesc_plains l [] q h1
    rw [List.append_nil] at this
    rw [this]
    show Option.map _ (some []) = _
    simp
theorem unesc_cut_yes (h r : List UInt8) (h1 : 61 ∉ h) : unescR (h ++ 61 :: r) = if 44 ∈ h then none else match three r with
    | some (c, t) => (unescR t).map (fun x => h ++ c :: x)
    | none => none := by
  by_cases q : 44 ∈ h
  · rw [if_pos q]
    exact unesc_bad h _ q h1
  · rw [if_neg q, unesc_plains h _ q h1, unesc_eq]
    cases three r with
    | none => rfl
    | some y =>
      obtain ⟨c, t⟩ := y
      simp only []
      cases unescR t <;> rfl
theorem map_acc (acc p : List UInt8) (x : Option (List UInt8)) : (x.map (p ++ ·)).map (acc ++ ·) = x.map ((acc ++ p) ++ ·) := by
  cases x with
  | none => rfl
  | some l => simp
def strSzE : Value → Nat
  | .string s => s.size
  | _ => 0
theorem pre_len {l p : List UInt8} (h : Lib.hasPrefix l p = true) : p.length ≤ l.length := by
  unfold Lib.hasPrefix at h
  exact (List.isPrefixOf_iff_prefix.1 h).length_le
set_option maxHeartbeats 4000000 in
theorem Unescape_c (s : ByteArray) (hs : s.size ≤ 100000) (w : World) (he : Env w) : Calls Tryz.prog 15 #[.string s] w fun e w' => e = .returned (unV (unescR s.data.toList)) ∧ Below w.heap.size w w' := by
  obtain ⟨X, hX⟩ : ∃ X, X = unescR s.data.toList := ⟨_, rfl⟩
  rw [← hX]
  have hX0 : X = (unescR s.data.toList).map ([] ++ ·) := by rw [hX]; cases unescR s.data.toList <;> rfl
  have hl0 : ([] : List UInt8).length + s.data.toList.length ≤ 100000 := by rw [zlen]; simpa using hs
  clear hX
  replace he := Lib.hid he
  replace hX0 := Lib.hid hX0
  go_enter Tryz.func15, Tryz.ntmps15
  go_upto_region 2 with fail
  refine gen_world fun W hW => ?_
  have kb0 : BldF w.heap.size w.heap.size [] W := by subst hW; exact bld_new w
  have HB0 : Below w.heap.size w W := by subst hW; (repeat (first | exact Below.refl _ _ | (refine bl_alloc ?_ _) | (refine bl_drewN ?_ _) | (refine bl_drew ?_) | (refine bl_call (by assumption) ?_) | (refine bl_set _ _ (by simp <;> omega) ?_) | assumption))
  clear hW
  obtain ⟨b, hb⟩ : ∃ b, b = w.heap.size := ⟨_, rfl⟩
  rw [← hb]
  rw [show BldF w.heap.size w.heap.size [] W = BldF w.heap.size b [] W by rw [hb]] at kb0
  clear hb
  go_wp2_with fail
  go_loopw [0] (fun sv wr => ∃ (acc rest : List UInt8), sv = .string ⟨rest.toArray⟩ ∧ acc.length + rest.length ≤ 100000 ∧ BldF w.heap.size b acc wr ∧ Below w.heap.size w wr ∧ X = (unescR rest).map (acc ++ ·)) (fun sv _ => strSzE sv)
  case atStart => exact ⟨[], s.data.toList, rfl, hl0, kb0, HB0, hX0.out⟩
  case round =>
    clear kb0 HB0 hX0 hl0
    obtain ⟨acc, rest, rfl, hlen, kb, HB, hXr⟩ := hrel
    by_cases hrest : rest = []
    · subst hrest
      have hXo : X = some acc := by rw [hXr]; show Option.map _ (some []) = _; simp
      replace hXo := Lib.hid hXo
      have e0 : (⟨([] : List UInt8).toArray⟩ : ByteArray) = ⟨#[]⟩ := rfl
      rw [e0]
      clear hXr e0
      go_wp2_with (go_at_call 44; refine (Tryz.Builder_String_any_k w.heap.size b _ _ kb HB.size).mono ?_; rintro e w6 ⟨rfl, _, hb6, _⟩)
      exact bodyPost_ret (v := .tuple #[.string ⟨acc.toArray⟩, .bool true]) (by simp [results, Tryz.results15, go_sem]) rfl ⟨by rw [hXo.out]; rfl, HB.trans hb6⟩
    · have hne : rest ≠ [] := hrest
      clear hrest
      have b0 : ¬ (⟨rest.toArray⟩ : ByteArray).toList = [] := by rw [ByteArray.toList_eq]; simpa using hne
      have b1 : (⟨rest.toArray⟩ : ByteArray).toList.isEmpty = false := by rw [List.isEmpty_eq_false_iff]; exact b0
      have hC := fun w he => CutE_c ⟨rest.toArray⟩ (by rw [bsz]; omega) w he
      rw [bldl] at hC
      have hre : rest.isEmpty = false := by rw [List.isEmpty_eq_false_iff]; exact hne
      cases hcut : (Lib.cut rest [61]).2.2 with
      | false =>
        have hu := unesc_cut_no rest hcut
        obtain ⟨h61, ec⟩ := cut_no 61 rest hcut
        rw [ec] at hC
        simp only at hC
        have hH := fun w he => Has44_c rest (by omega) w he
        rw [hu] at hXr
        clear hu h61 ec hcut
        by_cases h44 : 44 ∈ rest
        · rw [if_pos h44] at hXr
          rw [decide_eq_true h44] at hH
          replace hXr := Lib.hid hXr
          replace hC := Lib.hid hC
          replace hH := Lib.hid hH
          clear h44
          go_wp2_with (first | (go_at_call 40; refine (hC.out _ (he.out.below HB)).mono ?_; rintro e w5 ⟨rfl, hb5⟩; replace kb := kb.grow hb5; replace HB := bl_call hb5 HB; clear hb5) | (go_at_call 41; refine (hH.out _ (he.out.below HB)).mono ?_; rintro e w7 ⟨rfl, rfl⟩))
          exact bodyPost_ret (v := .tuple #[.string ⟨#[]⟩, .bool false]) (by simp [results, Tryz.results15, go_sem]) rfl ⟨by rw [hXr.out]; rfl, HB⟩
        · rw [if_neg h44] at hXr
          rw [decide_eq_false h44] at hH
          replace hXr := Lib.hid (show X = some (acc ++ rest) from hXr)
          replace hC := Lib.hid hC
          replace hH := Lib.hid hH
          clear h44
          go_wp2_with (first | (go_at_call 40; refine (hC.out _ (he.out.below HB)).mono ?_; rintro e w5 ⟨rfl, hb5⟩; replace kb := kb.grow hb5; replace HB := bl_call hb5 HB; clear hb5) | (go_at_call 41; refine (hH.out _ (he.out.below HB)).mono ?_; rintro e w7 ⟨rfl, rfl⟩) | (go_at_call 42; refine (WS_c w.heap.size b _ _ _ kb (by rw [bsz]; omega) HB.size).mono ?_; rintro e w2 ⟨rfl, kb2, hb2, hk2⟩; rw [bldl] at kb2; replace HB := HB.trans hb2; replace kb := kb2; clear kb2 hb2 hk2) | (go_at_call 44; refine (Tryz.Builder_String_any_k w.heap.size b _ _ kb HB.size).mono ?_; rintro e w6 ⟨rfl, _, hb6, _⟩))
          exact bodyPost_ret (v := .tuple #[.string ⟨(acc ++ rest).toArray⟩, .bool true]) (by simp [results, Tryz.results15, go_sem]) rfl ⟨by rw [hXr.out]; rfl, HB.trans hb6⟩
      | true =>
        obtain ⟨er, h61⟩ := cut_is 61 rest hcut
        rw [hcut] at hC
        have hu := unesc_cut_yes (Lib.cut rest [61]).1 (Lib.cut rest [61]).2.1 h61
        rw [← er] at hu
        clear hcut
        generalize (Lib.cut rest [61]).1 = p at hC er h61 hu
        generalize (Lib.cut rest [61]).2.1 = q at hC er hu
        have hlr := congrArg List.length er
        rw [List.length_append, List.length_cons] at hlr
        have hH := fun w he => Has44_c p (by omega) w he
        rw [hu] at hXr
        clear hu h61 er
        by_cases h44 : 44 ∈ p
        · rw [if_pos h44] at hXr
          rw [decide_eq_true h44] at hH
          replace hXr := Lib.hid hXr
          replace hC := Lib.hid hC
          replace hH := Lib.hid hH
          clear h44
          go_wp2_with (first | (go_at_call 40; refine (hC.out _ (he.out.below HB)).mono ?_; rintro e w5 ⟨rfl, hb5⟩; replace kb := kb.grow hb5; replace HB := bl_call hb5 HB; clear hb5) | (go_at_call 41; refine (hH.out _ (he.out.below HB)).mono ?_; rintro e w7 ⟨rfl, rfl⟩))
          exact bodyPost_ret (v := .tuple #[.string ⟨#[]⟩, .bool false]) (by simp [results, Tryz.results15, go_sem]) rfl ⟨by rw [hXr.out]; rfl, HB⟩
        rw [if_neg h44] at hXr
        rw [decide_eq_false h44] at hH
        replace hC := Lib.hid hC
        replace hH := Lib.hid hH
        clear h44
        have hP1 := fun w => Pre_c q [50, 67] w
        have hP2 := fun w => Pre_c q [51, 68] w
        rw [three_pre] at hXr
        have hsl := ext_from ⟨q.toArray⟩ 2
        rw [bsz, bldl] at hsl
        by_cases h2C : Lib.hasPrefix q [50, 67] = true
        · have hq2 := pre_len h2C
          rw [if_pos h2C] at hXr
          rw [h2C] at hP1
          have hsl := hsl hq2
          have hq2' : (2 : Int) ≤ (q.length : Int) := by have : 2 ≤ q.length := hq2; omega
          simp only at hXr
          have hd : (q.drop 2).length + 2 = q.length := by rw [List.length_drop]; have : 2 ≤ q.length := hq2; omega
          replace hXr := Lib.hid (show X = (unescR (q.drop 2)).map (((acc ++ p) ++ [44]) ++ ·) by rw [hXr]; cases unescR (q.drop 2) <;> simp)
          clear h2C hP2 hq2
          go_wp2_with (first | (go_at_call 40; refine (hC.out _ (he.out.below HB)).mono ?_; rintro e w5 ⟨rfl, hb5⟩; replace kb := kb.grow hb5; replace HB := bl_call hb5 HB; clear hb5) | (go_at_call 41; refine (hH.out _ (he.out.below HB)).mono ?_; rintro e w7 ⟨rfl, rfl⟩) | (go_at_call 42; refine (WS_c w.heap.size b _ _ _ kb (by rw [bsz]; omega) HB.size).mono ?_; rintro e w2 ⟨rfl, kb2, hb2, hk2⟩; rw [bldl] at kb2; replace HB := HB.trans hb2; replace kb := kb2; clear kb2 hb2 hk2) | (go_at_call 43; with_reducible refine (hP1 _).mono ?_; rintro e w8 ⟨rfl, rfl⟩) | (go_at_call 43; with_reducible refine (hP2 _).mono ?_; rintro e w9 ⟨rfl, rfl⟩) | (go_at_call 42; refine (WS_c w.heap.size b _ _ _ kb (by simp only [List.length_append]; show _ + 1 ≤ _; omega) HB.size).mono ?_; rintro e w2 ⟨rfl, kb2, hb2, hk2⟩; replace HB := HB.trans hb2; replace kb := kb2; clear kb2 hb2 hk2))
          exact ⟨⟨(acc ++ p) ++ [44], q.drop 2, rfl, by simp only [List.length_append, List.length_singleton]; omega, kb, HB, hXr.out⟩, by show (q.drop 2).toArray.size < rest.toArray.size; rw [List.size_toArray, List.size_toArray]; omega⟩
        rw [if_neg h2C] at hXr
        have e2C : Lib.hasPrefix q [50, 67] = false := by simpa using h2C
        rw [e2C] at hP1
        clear h2C e2C
        by_cases h3D : Lib.hasPrefix q [51, 68] = true
        · have hq2 := pre_len h3D
          rw [if_pos h3D] at hXr
          rw [h3D] at hP2
          have hsl := hsl hq2
          have hq2' : (2 : Int) ≤ (q.length : Int) := by have : 2 ≤ q.length := hq2; omega
          simp only at hXr
          have hd : (q.drop 2).length + 2 = q.length := by rw [List.length_drop]; have : 2 ≤ q.length := hq2; omega
          replace hXr := Lib.hid (show X = (unescR (q.drop 2)).map (((acc ++ p) ++ [61]) ++ ·) by rw [hXr]; cases unescR (q.drop 2) <;> simp)
          clear h3D hq2
          go_wp2_with (first | (go_at_call 40; refine (hC.out _ (he.out.below HB)).mono ?_; rintro e w5 ⟨rfl, hb5⟩; replace kb := kb.grow hb5; replace HB := bl_call hb5 HB; clear hb5) | (go_at_call 41; refine (hH.out _ (he.out.below HB)).mono ?_; rintro e w7 ⟨rfl, rfl⟩) | (go_at_call 42; refine (WS_c w.heap.size b _ _ _ kb (by rw [bsz]; omega) HB.size).mono ?_; rintro e w2 ⟨rfl, kb2, hb2, hk2⟩; rw [bldl] at kb2; replace HB := HB.trans hb2; replace kb := kb2; clear kb2 hb2 hk2) | (go_at_call 43; with_reducible refine (hP1 _).mono ?_; rintro e w8 ⟨rfl, rfl⟩) | (go_at_call 43; with_reducible refine (hP2 _).mono ?_; rintro e w9 ⟨rfl, rfl⟩) | (go_at_call 42; refine (WS_c w.heap.size b _ _ _ kb (by simp only [List.length_append]; show _ + 1 ≤ _; omega) HB.size).mono ?_; rintro e w2 ⟨rfl, kb2, hb2, hk2⟩; replace HB := HB.trans hb2; replace kb := kb2; clear kb2 hb2 hk2))
          exact ⟨⟨(acc ++ p) ++ [61], q.drop 2, rfl, by simp only [List.length_append, List.length_singleton]; omega, kb, HB, hXr.out⟩, by show (q.drop 2).toArray.size < rest.toArray.size; rw [List.size_toArray, List.size_toArray]; omega⟩
        rw [if_neg h3D] at hXr
        have e3D : Lib.hasPrefix q [51, 68] = false := by simpa using h3D
        rw [e3D] at hP2
        clear h3D e3D hsl
        replace hXr := Lib.hid (show X = none from hXr)
        go_wp2_with (first | (go_at_call 40; refine (hC.out _ (he.out.below HB)).mono ?_; rintro e w5 ⟨rfl, hb5⟩; replace kb := kb.grow hb5; replace HB := bl_call hb5 HB; clear hb5) | (go_at_call 41; refine (hH.out _ (he.out.below HB)).mono ?_; rintro e w7 ⟨rfl, rfl⟩) | (go_at_call 42; refine (WS_c w.heap.size b _ _ _ kb (by rw [bsz]; omega) HB.size).mono ?_; rintro e w2 ⟨rfl, kb2, hb2, hk2⟩; rw [bldl] at kb2; replace HB := HB.trans hb2; replace kb := kb2; clear kb2 hb2 hk2) | (go_at_call 43; with_reducible refine (hP1 _).mono ?_; rintro e w8 ⟨rfl, rfl⟩) | (go_at_call 43; with_reducible refine (hP2 _).mono ?_; rintro e w9 ⟨rfl, rfl⟩))
        exact bodyPost_ret (v := .tuple #[.string ⟨#[]⟩, .bool false]) (by simp [results, Tryz.results15, go_sem]) rfl ⟨by rw [hXr.out]; rfl, HB⟩
end Go.Proofs.YtjigckibbjfkmaaGreatDoor

/- What a world holds ahead of each call; attr's small functions. -/
import Derived.Test.YtjigckibbjfkmaaGreatDoorAn
import Derived.Test.YtjigckibbjfkmaaGreatDoorMz
import Derived.Test.YtjigckibbjfkmaaGreatDoorGb
import Derived.Test.YtjigckibbjfkmaaGreatDoorSb
import Derived.Test.YtjigckibbjfkmaaGreatDoorShelf
import Derived.Shelf.Strings.SlTrimAscii
import Derived.Lib.AppendIntMem
namespace Go.Proofs.YtjigckibbjfkmaaGreatDoor
open Go.RowKit
set_option maxRecDepth 100000
set_option linter.unusedSimpArgs false
set_option linter.unusedVariables false
abbrev TabP (w : World) : Prop := Lib.TabIs Tryz.prog w "internal/strconv.uint64pow10" .u64 Lib.pow10Tab
abbrev MaxL (w : World) : Prop := ∃ m : Int, w.cell? ⟨2, 0, none⟩ = some (.int .i64 m)
def ErrV (w : World) (n : String) : Prop := ∃ tp p, w.var? Tryz.prog n = some #[.iface tp p]
theorem var_below {w w' : World} {n : String} {cs : Array Value} (h : w.var? Tryz.prog n = some cs) (hb : Below w.heap.size w w') : w'.var? Tryz.prog n = some cs := by
  unfold World.var? at h ⊢
  cases hg : Tryz.prog.globalNamed n with
  | none => rw [hg] at h; cases h
  | some g =>
    rw [hg] at h
    simp only [Option.bind_some] at h ⊢
    have hlt : g < w.heap.size := by
      rcases Nat.lt_or_ge g w.heap.size with h' | h'
      · exact h'
      · rw [Array.getElem?_eq_none h'] at h; cases h
    rw [hb.block g hlt]
    exact h
/-- What is there ahead of each call. -/
structure Env (w : World) : Prop where
  tab : TabP w
  max : MaxL w
  e1 : ErrV w "strconv.ErrSyntax"
  e2 : ErrV w "strconv.ErrRange"
  utf : Lib.Utf8Tabs 0 1 w
theorem Env.below {w w' : World} (h : Env w) (hb : Below w.heap.size w w') : Env w' := by
  obtain ⟨t, ⟨m, hm⟩, ⟨tp, p, h1⟩, ⟨tq, q, h2⟩, u⟩ := h
  exact ⟨var_below t hb, ⟨m, grow_cell hb hm⟩, ⟨tp, p, var_below h1 hb⟩, ⟨tq, q, var_below h2 hb⟩, Utf8Tabs_below u hb⟩
theorem Itoa_g (n : Int) (h0 : -9223372036854775808 ≤ n) (h1 : n ≤ 9223372036854775807) (w : World) (h : Env w) : Calls Tryz.prog 47 #[.int .i64 n] w fun e w' => e = .returned (.string ⟨(Lib.itoa n).toArray⟩) ∧ Below w.heap.size w w' := by
  refine (Tryz.strconv_Itoa n h0 h1 w h.tab).mono ?_
  rintro e w' ⟨rfl, k, os, rfl⟩
  exact ⟨rfl, Go.Lib.below_grow _ _ (Nat.le_refl _) k os⟩
theorem same_s {a b : ByteArray} (h : a = b) : (a.toList == b.toList) = true := by rw [h]; simp
theorem differ_s {a b : ByteArray} (h : ¬ a = b) : (a.toList == b.toList) = false := by
  rw [beq_eq_false_iff_ne, ByteArray.toList_eq, ByteArray.toList_eq]
  intro q
  exact h (ByteArray.ext (Array.ext' q))
theorem zlen (s : ByteArray) : s.data.toList.length = s.size := Array.length_toList
theorem Repl_c (s : ByteArray) (c : UInt8) (new : List UInt8) (hs : s.size ≤ 1000000) (hc : [c] ≠ new) (hn : new.length = 3) (w : World) (he : Env w) : Calls Tryz.prog 39 #[.string s, .string ⟨#[c]⟩, .string ⟨new.toArray⟩] w fun e w' => e = .returned (.string ⟨(subL c new s.data.toList).toArray⟩) ∧ Below w.heap.size w w' := by
  obtain ⟨m, hm⟩ := he.max
  have h1 := Lib.countB_le ⟨#[c]⟩ (show 1 ≤ (1 : Nat) by decide) s.size s (Nat.le_refl _)
  have h2 : (⟨new.toArray⟩ : ByteArray).size = 3 := by show new.toArray.size = _; rw [List.size_toArray, hn]
  refine (Tryz.strings_ReplaceAll s ⟨#[c]⟩ ⟨new.toArray⟩ m w (by omega) hm (show 1 ≤ (1 : Nat) by decide) (by rw [h2]; omega)).mono ?_
  rintro e w' ⟨rfl, hb⟩
  refine ⟨?_, hb⟩
  have := repl_is c new s.data.toList hc
  rw [← this]
theorem Escape_c (s : ByteArray) (hs : s.size ≤ 100000) (w : World) (he : Env w) : Calls Tryz.prog 14 #[.string s] w fun e w' => e = .returned (.string ⟨(escL s.data.toList).toArray⟩) ∧ Below w.heap.size w w' := by
  have h1 := fun w he => Repl_c s 61 [61, 51, 68] (by omega) (by decide) rfl w he
  have h2 := fun w he => Repl_c ⟨(subL 61 [61, 51, 68] s.data.toList).toArray⟩ 44 [61, 50, 67] (by
    have := sub_len 61 [61, 51, 68] rfl s.data.toList
    rw [zlen] at this
    show (subL 61 [61, 51, 68] s.data.toList).toArray.size ≤ _
    rw [List.size_toArray]; omega) (by decide) rfl w he
  have h3 : (⟨(subL 61 [61, 51, 68] s.data.toList).toArray⟩ : ByteArray).data.toList = subL 61 [61, 51, 68] s.data.toList := by simp
  rw [h3, esc_two] at h2
  clear h3
  generalize (⟨(subL 61 [61, 51, 68] s.data.toList).toArray⟩ : ByteArray) = T at h1 h2
  generalize (⟨(escL s.data.toList).toArray⟩ : ByteArray) = R at h2 ⊢
  replace he := Lib.hid he
  go_enter Tryz.func14, Tryz.ntmps14
  go_wp2_with (first | (go_at_call 39; with_reducible refine (h1 _ he.out).mono ?_; rintro e w5 ⟨rfl, hb5⟩; have he5 := Lib.hid (he.out.below hb5)) | (go_at_call 39; with_reducible refine (h2 _ he5.out).mono ?_; rintro e w6 ⟨rfl, hb6⟩))
  exact bodyPost_ret (v := .string R) (by simp [results, Tryz.results14, go_sem]) rfl ⟨rfl, bl_call hb6 hb5⟩
theorem ext_from (s : ByteArray) (k : Nat) (h : k ≤ s.size) : s.extract k s.size = ⟨(s.data.toList.drop k).toArray⟩ := by
  rw [Lib.extract_eq, List.take_of_length_le (by rw [List.length_drop, zlen]; exact Nat.le_refl _)]
theorem ext_to (s : ByteArray) (k : Nat) : s.extract 0 k = ⟨(s.data.toList.take k).toArray⟩ := by
  rw [Lib.extract_eq]; simp
theorem Bare_c (s : ByteArray) (hs : s.size ≤ 100000) (w : World) : Calls Tryz.prog 18 #[.string s] w fun e w' => e = .returned (.string ⟨(s.data.toList.drop 3).toArray⟩) ∧ Below w.heap.size w w' := by
  by_cases h : 3 ≤ s.size
  · have h1 : (s.size : Int) < 3 ∨ ¬ (s.size : Int) < 3 := by omega
    have h2 : ¬ (s.size : Int) < 3 := by omega
    have h3 : (3 : Int) ≤ (s.size : Int) := by omega
    have h4 : min (s.size : Int) 3 = 3 := by omega
    rw [← ext_from s 3 h]
    go_enter Tryz.func18, Tryz.ntmps18
    go_wp2_with fail
    exact bodyPost_ret (v := .string (s.extract 3 s.size)) (by simp [results, Tryz.results18, go_sem]) rfl ⟨rfl, (by (repeat (first | exact Below.refl _ _ | (refine bl_alloc ?_ _) | (refine bl_drewN ?_ _) | (refine bl_drew ?_) | (refine bl_call (by assumption) ?_) | (refine bl_set _ _ (by simp <;> omega) ?_) | assumption)))⟩
  · have h1 : (s.size : Int) < 3 := by omega
    have h3 : ¬ (3 : Int) ≤ (s.size : Int) := by omega
    have h4 : min (s.size : Int) 3 = (s.size : Int) := by omega
    have hd : s.data.toList.drop 3 = [] := List.drop_eq_nil_of_le (by rw [zlen]; omega)
    have he : s.extract s.size s.size = ⟨#[]⟩ := by
      rw [ext_from s s.size (Nat.le_refl _), List.drop_eq_nil_of_le (by rw [zlen]; exact Nat.le_refl _)]
    rw [hd]
    go_enter Tryz.func18, Tryz.ntmps18
    go_wp2_with fail
    exact bodyPost_ret (v := .string (s.extract s.size s.size)) (by simp [results, Tryz.results18, go_sem]) rfl ⟨by rw [he], (by (repeat (first | exact Below.refl _ _ | (refine bl_alloc ?_ _) | (refine bl_drewN ?_ _) | (refine bl_drew ?_) | (refine bl_call (by assumption) ?_) | (refine bl_set _ _ (by simp <;> omega) ?_) | assumption)))⟩
theorem Unproved_c (s : ByteArray) (hs : s.size ≤ 100000) (w : World) : Calls Tryz.prog 19 #[.string s] w fun e w' => e = .returned (.string ⟨(unprL s.data.toList).toArray⟩) ∧ Below w.heap.size w w' := by
  have hL := fun w => Tryz.strings_LastIndex s ⟨#[44, 112, 61]⟩ (by omega) w
  have hU := unpr_last s.data.toList
  have e1 : (⟨#[44, 112, 61]⟩ : ByteArray).data.toList = [44, 112, 61] := rfl
  rw [e1] at hL
  have hsp := Lib.lastOcc_spec s.data.toList [44, 112, 61]
  have hr : Lib.lastIndex s.data.toList [44, 112, 61] < 0 ∨ ∃ i : Nat, i ≤ s.size ∧ Lib.lastIndex s.data.toList [44, 112, 61] = i := by
    unfold Lib.lastIndex
    split
    · rename_i hl
      rw [zlen] at hl ⊢
      rcases hsp (s.size - ([44, 112, 61] : List UInt8).length + 1) with ⟨h, _⟩ | ⟨i, hi, h, _⟩
      · exact .inl (by rw [h]; decide)
      · exact .inr ⟨i, by omega, h⟩
    · exact .inl (by decide)
  clear hsp e1
  rcases hr with hr | ⟨i, hi, hr⟩
  · rw [if_pos hr, ] at hU
    rw [hU, Lib.mk_data]
    have h1 : ¬ 0 ≤ Lib.lastIndex s.data.toList [44, 112, 61] := by omega
    generalize Lib.lastIndex s.data.toList [44, 112, 61] = X at hL h1
    clear hr hU
    go_enter Tryz.func19, Tryz.ntmps19
    go_wp2_with (go_at_call 45; refine (hL _).mono ?_; rintro e w5 ⟨rfl, rfl⟩)
    exact bodyPost_ret (v := .string s) (by simp [results, Tryz.results19, go_sem]) rfl ⟨rfl, (by (repeat (first | exact Below.refl _ _ | (refine bl_alloc ?_ _) | (refine bl_drewN ?_ _) | (refine bl_drew ?_) | (refine bl_call (by assumption) ?_) | (refine bl_set _ _ (by simp <;> omega) ?_) | assumption)))⟩
  · rw [hr, if_neg (by omega), Int.toNat_natCast, ] at hU
    rw [hU, ← ext_to]
    rw [hr] at hL
    have h1 : (0 : Int) ≤ (i : Int) := by omega
    have h2 : (i : Int) ≤ (s.size : Int) := by omega
    clear hr hU
    go_enter Tryz.func19, Tryz.ntmps19
    go_wp2_with (go_at_call 45; refine (hL _).mono ?_; rintro e w5 ⟨rfl, rfl⟩)
    exact bodyPost_ret (v := .string (s.extract 0 i)) (by simp [results, Tryz.results19, go_sem]) rfl ⟨rfl, (by (repeat (first | exact Below.refl _ _ | (refine bl_alloc ?_ _) | (refine bl_drewN ?_ _) | (refine bl_drew ?_) | (refine bl_call (by assumption) ?_) | (refine bl_set _ _ (by simp <;> omega) ?_) | assumption)))⟩
end Go.Proofs.YtjigckibbjfkmaaGreatDoor

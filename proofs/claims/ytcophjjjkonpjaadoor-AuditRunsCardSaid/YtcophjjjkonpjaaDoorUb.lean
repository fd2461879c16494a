/- What the words of lines want of a world; the contract of audit.number. -/
import Derived.Test.YtcophjjjkonpjaaDoorUa
import Derived.Lib.AppendIntMem
namespace Go.Proofs.YtcophjjjkonpjaaDoor
open Go.RowKit
set_option maxRecDepth 100000
set_option linter.unusedSimpArgs false
set_option linter.unusedVariables false
abbrev TabP (w : World) : Prop := Lib.TabIs Tryd.prog w "internal/strconv.uint64pow10" .u64 Lib.pow10Tab
abbrev MaxL (w : World) : Prop := ∃ m : Int, w.cell? ⟨0, 0, none⟩ = some (.int .i64 m)
def ErrV (w : World) (n : String) : Prop := ∃ tp p, w.var? Tryd.prog n = some #[.iface tp p]
theorem var_below {w w' : World} {n : String} {cs : Array Value} (h : w.var? Tryd.prog n = some cs) (hb : Below w.heap.size w w') : w'.var? Tryd.prog n = some cs := by
  unfold World.var? at h ⊢
  cases hg : Tryd.prog.globalNamed n with
  | none => rw [hg] at h; cases h
  | some g =>
    rw [hg] at h
    simp only [Option.bind_some] at h ⊢
    have hlt : g < w.heap.size := by
      rcases Nat.lt_or_ge g w.heap.size with h' | h'
      · exact h'
      · rw [Array.getElem?_eq_none h'] at h; cases h
    rw [hb.block g hlt]
    exact h
/-- What is there ahead of each call. -/
structure Env (w : World) : Prop where
  tab : TabP w
  max : MaxL w
  e1 : ErrV w "strconv.ErrSyntax"
  e2 : ErrV w "strconv.ErrRange"
theorem Env.below {w w' : World} (h : Env w) (hb : Below w.heap.size w w') : Env w' := by
  obtain ⟨t, ⟨m, hm⟩, ⟨tp, p, h1⟩, ⟨tq, q, h2⟩⟩ := h
  exact ⟨var_below t hb, ⟨m, grow_cell hb hm⟩, ⟨tp, p, var_below h1 hb⟩, ⟨tq, q, var_below h2 hb⟩⟩
theorem Itoa_g (n : Int) (h0 : -9223372036854775808 ≤ n) (h1 : n ≤ 9223372036854775807) (w : World) (h : Env w) : Calls Tryd.prog 24 #[.int .i64 n] w fun e w' => e = .returned (.string ⟨(Lib.itoa n).toArray⟩) ∧ Below w.heap.size w w' := by
  refine (Tryd.strconv_Itoa n h0 h1 w h.tab).mono ?_
  rintro e w' ⟨rfl, k, os, rfl⟩
  exact ⟨rfl, Go.Lib.below_grow _ _ (Nat.le_refl _) k os⟩
theorem itoaOk_of {w : World} (h : Env w) (n : Int) (h0 : -9223372036854775808 ≤ n) (h1 : n ≤ 9223372036854775807) : ItoaOk w n := fun W hb => Itoa_g n h0 h1 W (h.below hb)
theorem same_s {a b : ByteArray} (h : a = b) : (a.toList == b.toList) = true := by rw [h]; simp
theorem differ_s {a b : ByteArray} (h : ¬ a = b) : (a.toList == b.toList) = false := by
  rw [beq_eq_false_iff_ne, ByteArray.toList_eq, ByteArray.toList_eq]
  intro q
  exact h (ByteArray.ext (Array.ext' q))
def NumO (l : List UInt8) (n : Int) (b : Bool) : Prop := (b = true ∧ numA l = some n) ∨ (b = false ∧ numA l = none)
def NumE (l : List UInt8) (x : Ending) : Prop := ∃ n b, x = .returned (.tuple #[.int .i64 n, .bool b]) ∧ NumO l n b
set_option maxHeartbeats 1000000 in
theorem number_c (s : ByteArray) (hs : s.size ≤ 100000) (w : World) (he : Env w) : Calls Tryd.prog 32 #[.string s] w fun x w' => NumE s.data.toList x ∧ Below w.heap.size w w' := by
  have hI := Lib.hid (fun n h0 h1 w he => Itoa_g n h0 h1 w he)
  cases ha : Lib.atoiAll s.data.toList
  · rename_i v
    have hA := fun w => (Tryd.strconv_Atoi_ok s (by omega) v ha w).mono (R' := fun e w' => e = .returned (.tuple #[.int .i64 v, .nilIface]) ∧ Below w.heap.size w w') (by
      rintro e w' ⟨rfl, q⟩
      refine ⟨rfl, ?_⟩
      rcases q with rfl | ⟨t, rfl⟩
      · exact Below.refl _ _
      · exact Lib.bytesWorld_below _ _ _)
    obtain ⟨b1, b2⟩ := Lib.atoiAll_bounds ha
    by_cases hi : Lib.itoa v = s.data.toList
    · have hn : numA s.data.toList = some v := by unfold numA; rw [ha]; simp [hi]
      have hq : (⟨(Lib.itoa v).toArray⟩ : ByteArray) = s := by rw [hi]
      have hq2 := same_s hq
      replace hn := Lib.hid hn
      replace hA := Lib.hid hA
      clear hi ha
      have hIv := Lib.hid (fun w he => hI.out v b1 b2 w he)
      rw [hq] at hIv hq2
      clear hI hq
      replace he := Lib.hid he
      go_enter Tryd.func32, Tryd.ntmps32
      go_wp2_with (first | (go_at_call 37; refine (hA.out _).mono ?_; rintro e w5 ⟨rfl, hb5⟩; have he5 := Lib.hid (he.out.below hb5)) | (go_at_call 24; refine (hIv.out _ he5.out).mono ?_; rintro e w6 ⟨rfl, hb6⟩))
      exact bodyPost_ret (v := .tuple #[.int .i64 v, .bool true]) (by simp [results, Tryd.results32, go_sem]) rfl ⟨⟨v, true, rfl, .inl ⟨rfl, hn.out⟩⟩, bl_call hb6 hb5⟩
    · have hn : numA s.data.toList = none := by unfold numA; rw [ha]; simp [hi]
      have hq : ¬ (⟨(Lib.itoa v).toArray⟩ : ByteArray) = s := by rintro rfl; exact hi rfl
      have hq2 := differ_s hq
      have hIv := fun w he => hI.out v b1 b2 w he
      generalize (⟨(Lib.itoa v).toArray⟩ : ByteArray) = T at hq hq2 hIv
      replace hn := Lib.hid hn
      replace hA := Lib.hid hA
      replace hIv := Lib.hid hIv
      clear hi ha hI
      replace he := Lib.hid he
      go_enter Tryd.func32, Tryd.ntmps32
      go_wp2_with (first | (go_at_call 37; refine (hA.out _).mono ?_; rintro e w5 ⟨rfl, hb5⟩; have he5 := Lib.hid (he.out.below hb5)) | (go_at_call 24; refine (hIv.out _ he5.out).mono ?_; rintro e w6 ⟨rfl, hb6⟩))
      exact bodyPost_ret (v := .tuple #[.int .i64 v, .bool false]) (by simp [results, Tryd.results32, go_sem]) rfl ⟨⟨v, false, rfl, .inr ⟨rfl, hn.out⟩⟩, bl_call hb6 hb5⟩
  · have hn : numA s.data.toList = none := by unfold numA; rw [ha]
    obtain ⟨tp, p, hv⟩ := he.e1
    have hA := (Any.strconv_Atoi_syntax_var Tryd.laysC172 s (by omega) ha tp p w hv).mono (R' := fun e w' => (∃ N, e = .returned (.tuple #[.int .i64 0, .iface 99 (.pointer (some ⟨N, 0, none⟩))])) ∧ Below w.heap.size w w') (by
      rintro e w' ⟨N, rfl, _, _, hb⟩
      exact ⟨⟨N, rfl⟩, hb⟩)
    clear hI ha hv he
    replace hn := Lib.hid hn
    go_enter Tryd.func32, Tryd.ntmps32
    go_wp2_with (go_at_call 37; refine hA.mono ?_; rintro e w5 ⟨⟨N, rfl⟩, hb5⟩)
    exact bodyPost_ret (v := .tuple #[.int .i64 0, .bool false]) (by simp [results, Tryd.results32, go_sem]) rfl ⟨⟨0, false, rfl, .inr ⟨rfl, hn.out⟩⟩, hb5⟩
  · have hn : numA s.data.toList = none := by unfold numA; rw [ha]
    obtain ⟨tp, p, hv⟩ := he.e2
    have hA := (Tryd.strconv_Atoi_range_var s (by omega) ha tp p w hv).mono (R' := fun e w' => (∃ N, e = .returned (.tuple #[.int .i64 (Lib.atoiSat s.data.toList), .iface 99 (.pointer (some ⟨N, 0, none⟩))])) ∧ Below w.heap.size w w') (by
      rintro e w' ⟨N, rfl, _, _, hb⟩
      exact ⟨⟨N, rfl⟩, hb⟩)
    generalize Lib.atoiSat s.data.toList = X at hA
    clear hI ha hv he
    replace hn := Lib.hid hn
    go_enter Tryd.func32, Tryd.ntmps32
    go_wp2_with (go_at_call 37; refine hA.mono ?_; rintro e w5 ⟨⟨N, rfl⟩, hb5⟩)
    exact bodyPost_ret (v := .tuple #[.int .i64 X, .bool false]) (by simp [results, Tryd.results32, go_sem]) rfl ⟨⟨X, false, rfl, .inr ⟨rfl, hn.out⟩⟩, hb5⟩
end Go.Proofs.YtcophjjjkonpjaaDoor

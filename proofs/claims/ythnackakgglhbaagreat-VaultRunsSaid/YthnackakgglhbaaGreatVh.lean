/- The vault's methods: Sealed, keep, Put, Get, Restore, New. -/
import Derived.Test.YthnackakgglhbaaGreatVd
import Derived.Test.YthnackakgglhbaaGreatVg
namespace Go.Proofs.YthnackakgglhbaaGreat
open Go.RowKit
set_option maxRecDepth 100000
set_option linter.unusedSimpArgs false
set_option linter.unusedVariables false
/-- Only block g is another one. -/
abbrev Turned (g : Nat) (w w' : World) : Prop := Apart (fun b => b = g) w w'
theorem Apart.after {F : Nat → Prop} {w W W1 : World} (h : Apart F W W1) (hb : Below w.heap.size w W) : Apart F w W1 :=
  ⟨h.os.trans hb.os, h.tape.trans hb.tape, h.output.trans hb.output, Nat.le_trans hb.size h.size, fun b q hn => (h.block b (Nat.lt_of_lt_of_le q hb.size) hn).trans (hb.block b q)⟩
/-- A vault: its key, its map. -/
structure VS (w : World) (V M : Nat) (key : ByteArray) (L : KV) : Prop where
  kV : w.heap[V]? = some (.cells #[.string key, .map (some M)] 45 (0, 0))
  kM : MapIs w M L
theorem VS.ne {w : World} {V M : Nat} {key : ByteArray} {L : KV} (h : VS w V M key L) : V ≠ M := fun e => by
  have h1 := h.kV
  rw [e, h.kM] at h1
  cases h1
theorem VS.grow {w w' : World} {V M : Nat} {key : ByteArray} {L : KV} (h : VS w V M key L) (hb : Below w.heap.size w w') : VS w' V M key L := ⟨grow_blk hb h.kV, h.kM.grow hb⟩
theorem MapIs.lt {w : World} {M : Nat} {L : KV} (h : MapIs w M L) : M < w.heap.size := blk_lt h
theorem turned_setM {w : World} {M : Nat} {es : Array MapEntry} {ck : Nat} : Turned M w (setM w M es ck) := by
  refine ⟨rfl, rfl, rfl, by simp [setM], fun b _ hn => ?_⟩
  have : (setM w M es ck).heap = w.heap.setIfInBounds M (.map es ck) := rfl
  rw [this, Array.getElem?_setIfInBounds_ne (fun e => hn e.symm)]
theorem turned_blk {w w' : World} {M g : Nat} {o : Obj} (h : Turned M w w') (hg : w.heap[g]? = some o) (hne : g ≠ M) : w'.heap[g]? = some o := (h.block g (blk_lt hg) hne).trans hg
theorem turned_bl {B M : Nat} {w0 w w' : World} (hb : Below B w0 w) (h : Turned M w w') (hB : B ≤ M) (hw : B ≤ w.heap.size) : Below B w0 w' :=
  ⟨h.os.trans hb.os, h.tape.trans hb.tape, h.output.trans hb.output, Nat.le_trans hb.size h.size, fun b hlt => (h.block b (Nat.lt_of_lt_of_le hlt hw) (by omega)).trans (hb.block b hlt)⟩
theorem Sealed_c (w : World) (V M : Nat) (key : ByteArray) (L : KV) (s : ByteArray) (h : VS w V M key L) : Calls Tryz.prog 9 #[.pointer (some ⟨V, 0, none⟩), .string s] w fun e w' => e = .returned (.string ((getK s L).getD ⟨#[]⟩)) ∧ w' = w := by
  have c1 := blk_cell h.kV 1
  have hl := map_get (P := Tryz.prog) (s := s) Tryz.underlying26 Tryz.underlying9 (Tryz.zeroValue9 w) h.kM false
  simp only [Bool.false_eq_true, if_false] at hl
  generalize (getK s L).getD ⟨#[]⟩ = X at hl ⊢
  clear h
  go_enter Tryz.func9, Tryz.ntmps9
  go_wp2_with fail
  exact bodyPost_ret (v := .string X) (by simp [results, Tryz.results9, go_sem]) rfl ⟨rfl, rfl⟩
theorem len_m {w : World} {M ck : Nat} {es : Array MapEntry} (h : w.heap[M]? = some (.map es ck)) : (Builtin.len_ #[26] 3 #[.map (some M)]).run Tryz.prog w = .ok (.int .i64 (es.size : Int)) w := by
  simp [Builtin.len_, run_underlying Tryz.underlying26, MapKept.run_getObj_map h, Result.andThen, goInt]
set_option maxHeartbeats 1000000 in
theorem keep_c (w : World) (V M : Nat) (key : ByteArray) (L : KV) (s x : ByteArray) (h : VS w V M key L) (hn : L.length < 64) : Calls Tryz.prog 17 #[.pointer (some ⟨V, 0, none⟩), .string s, .string x] w fun e w' => e = .returned (.int .i64 0) ∧ MapIs w' M (putK s x L) ∧ Turned M w w' := by
  have c1 := blk_cell h.kV 1
  have hl := map_get (P := Tryz.prog) (s := s) Tryz.underlying26 Tryz.underlying9 (Tryz.zeroValue9 w) h.kM true
  simp only [if_true] at hl
  obtain ⟨es, ck, hu, hm⟩ := map_put (P := Tryz.prog) (s := s) Tryz.underlying26 Tryz.underlying9 h.kM x
  have hlen : w.heap[M]? = some (.map (ents 0 L).toArray L.length) := h.kM
  have hel : (ents 0 L).toArray.size = L.length := by rw [List.size_toArray, ents_length]
  have hnI : ¬ 64 ≤ (L.length : Int) := by omega
  have hle := len_m hlen
  rw [hel] at hle
  clear hel hlen
  generalize (getK s L).getD ⟨#[]⟩ = X at hl
  cases hs : (getK s L).isSome
  case true =>
    rw [hs] at hl
    replace hm := Lib.hid hm
    clear h hs
    go_enter Tryz.func17, Tryz.ntmps17
    go_wp2_with fail
    exact bodyPost_ret (v := .int .i64 0) (by simp [results, Tryz.results17, go_sem]) rfl ⟨rfl, hm.out, turned_setM⟩
  case false =>
    rw [hs] at hl
    replace hm := Lib.hid hm
    clear h hs
    go_enter Tryz.func17, Tryz.ntmps17
    go_wp2_with fail
    exact bodyPost_ret (v := .int .i64 0) (by simp [results, Tryz.results17, go_sem]) rfl ⟨rfl, hm.out, turned_setM⟩
theorem Put_c (w : World) (V M : Nat) (key : ByteArray) (L : KV) (s t : ByteArray) (h : VS w V M key L) (hn : L.length < 64) (hk : key.size ≤ 1000) (hs : s.size ≤ 1000) (ht : t.size ≤ 1000) (hL : labB s = true) : Calls Tryz.prog 7 #[.pointer (some ⟨V, 0, none⟩), .string s, .string t] w fun e w' => e = .returned (.int .i64 0) ∧ MapIs w' M (putK s (sealS key s t) L) ∧ Turned M w w' := by
  have hS := fun w => vSeal_c key s t hL (by omega) (by omega) (by omega) w
  have hK := fun w h => keep_c w V M key L s (sealS key s t) h hn
  have c0 := blk_cell h.kV 0
  generalize sealS key s t = X at hS hK
  replace hS := Lib.hid hS
  replace hK := Lib.hid hK
  go_enter Tryz.func7, Tryz.ntmps7
  go_wp2_with (first | (go_at_call 15; refine (hS.out _).mono ?_; rintro e w1 ⟨rfl, hb1⟩; have h1 := Lib.hid (h.grow hb1)) | (go_at_call 17; refine (hK.out _ h1.out).mono ?_; rintro e w2 ⟨rfl, hm2, ht2⟩; replace hm2 := Lib.hid hm2))
  exact bodyPost_ret (v := .int .i64 0) (by simp [results, Tryz.results7, go_sem]) rfl ⟨rfl, hm2.out, Apart.after ht2 hb1⟩
theorem Put_no (w : World) (V M : Nat) (key : ByteArray) (L : KV) (s t : ByteArray) (h : VS w V M key L) (hL : labB s = false) : Calls Tryz.prog 7 #[.pointer (some ⟨V, 0, none⟩), .string s, .string t] w fun e w' => e = .returned (.int .i64 9) ∧ Below w.heap.size w w' := by
  have hS := fun w => vSeal_no key s t hL w
  have c0 := blk_cell h.kV 0
  replace hS := Lib.hid hS
  clear h
  go_enter Tryz.func7, Tryz.ntmps7
  go_wp2_with (go_at_call 15; refine (hS.out _).mono ?_; rintro e w1 ⟨rfl, hb1⟩)
  exact bodyPost_ret (v := .int .i64 9) (by simp [results, Tryz.results7, go_sem]) rfl ⟨rfl, hb1⟩
theorem Get_none (w : World) (V M : Nat) (key : ByteArray) (L : KV) (s : ByteArray) (h : VS w V M key L) (hg : getK s L = none) : Calls Tryz.prog 8 #[.pointer (some ⟨V, 0, none⟩), .string s] w fun e w' => e = .returned (.tuple #[.string ⟨#[]⟩, .int .i64 9]) ∧ Below w.heap.size w w' := by
  have c1 := blk_cell h.kV 1
  have hl := map_get (P := Tryz.prog) (s := s) Tryz.underlying26 Tryz.underlying9 (Tryz.zeroValue9 w) h.kM true
  rw [hg] at hl
  simp only [if_true, Option.getD_none, Option.isSome_none] at hl
  clear h hg
  go_enter Tryz.func8, Tryz.ntmps8
  go_wp2_with fail
  exact bodyPost_ret (v := .tuple #[.string ⟨#[]⟩, .int .i64 9]) (by simp [results, Tryz.results8, go_sem]) rfl ⟨rfl, Below.refl _ _⟩
theorem Get_some (w : World) (V M : Nat) (key : ByteArray) (L : KV) (s t : ByteArray) (h : VS w V M key L) (hg : getK s L = some (sealS key s t)) (hk : key.size ≤ 1000) (hs : s.size ≤ 1000) (ht : t.size ≤ 1000) (hL : labB s = true) : Calls Tryz.prog 8 #[.pointer (some ⟨V, 0, none⟩), .string s] w fun e w' => e = .returned (.tuple #[.string t, .int .i64 0]) ∧ Below w.heap.size w w' := by
  have c0 := blk_cell h.kV 0
  have c1 := blk_cell h.kV 1
  have hl := map_get (P := Tryz.prog) (s := s) Tryz.underlying26 Tryz.underlying9 (Tryz.zeroValue9 w) h.kM true
  rw [hg] at hl
  simp only [if_true, Option.getD_some, Option.isSome_some] at hl
  have hz := sealS_size key s t
  have hO := fun w => vOpen_c key s (sealS key s t) hL (by omega) (by omega) (by omega) w
  rw [open_seal key s t (by omega)] at hO
  have e1 : opT (some t) = t := rfl
  have e2 : opE (some t) = 0 := rfl
  rw [e1, e2] at hO
  generalize sealS key s t = X at hO hl
  replace hO := Lib.hid hO
  clear h hg hz e1 e2
  go_enter Tryz.func8, Tryz.ntmps8
  go_wp2_with (go_at_call 16; refine (hO.out _).mono ?_; rintro e w1 ⟨rfl, hb1⟩)
  exact bodyPost_ret (v := .tuple #[.string t, .int .i64 0]) (by simp [results, Tryz.results8, go_sem]) rfl ⟨rfl, hb1⟩
theorem Restore_bad (w : World) (V M : Nat) (key : ByteArray) (L : KV) (s x : ByteArray) (h : VS w V M key L) (hL : labB s = false) : Calls Tryz.prog 11 #[.pointer (some ⟨V, 0, none⟩), .string s, .string x] w fun e w' => e = .returned (.int .i64 9) ∧ Below w.heap.size w w' := by
  have hO := fun w => vOpen_no key s x hL w
  have c0 := blk_cell h.kV 0
  replace hO := Lib.hid hO
  clear h
  go_enter Tryz.func11, Tryz.ntmps11
  go_wp2_with (go_at_call 16; refine (hO.out _).mono ?_; rintro e w1 ⟨rfl, hb1⟩)
  exact bodyPost_ret (v := .int .i64 9) (by simp [results, Tryz.results11, go_sem]) rfl ⟨rfl, hb1⟩
theorem Restore_no (w : World) (V M : Nat) (key : ByteArray) (L : KV) (s x : ByteArray) (h : VS w V M key L) (hL : labB s = true) (hk : key.size ≤ 1000) (hs : s.size ≤ 1000) (hx : x.size ≤ 2000) (ho : openS key s x = none) : Calls Tryz.prog 11 #[.pointer (some ⟨V, 0, none⟩), .string s, .string x] w fun e w' => e = .returned (.int .i64 4) ∧ Below w.heap.size w w' := by
  have hO := fun w => vOpen_c key s x hL (by omega) (by omega) hx w
  rw [ho] at hO
  have e1 : opT none = ⟨#[]⟩ := rfl
  have e2 : opE none = 4 := rfl
  rw [e1, e2] at hO
  have c0 := blk_cell h.kV 0
  replace hO := Lib.hid hO
  clear h e1 e2
  go_enter Tryz.func11, Tryz.ntmps11
  go_wp2_with (go_at_call 16; refine (hO.out _).mono ?_; rintro e w1 ⟨rfl, hb1⟩)
  exact bodyPost_ret (v := .int .i64 4) (by simp [results, Tryz.results11, go_sem]) rfl ⟨rfl, hb1⟩
theorem Restore_c (w : World) (V M : Nat) (key : ByteArray) (L : KV) (s x t : ByteArray) (h : VS w V M key L) (hn : L.length < 64) (hL : labB s = true) (hk : key.size ≤ 1000) (hs : s.size ≤ 1000) (hx : x.size ≤ 2000) (ho : openS key s x = some t) : Calls Tryz.prog 11 #[.pointer (some ⟨V, 0, none⟩), .string s, .string x] w fun e w' => e = .returned (.int .i64 0) ∧ MapIs w' M (putK s x L) ∧ Turned M w w' := by
  have hO := fun w => vOpen_c key s x hL (by omega) (by omega) hx w
  rw [ho] at hO
  have e1 : opT (some t) = t := rfl
  have e2 : opE (some t) = 0 := rfl
  rw [e1, e2] at hO
  have hK := fun w h => keep_c w V M key L s x h hn
  have c0 := blk_cell h.kV 0
  replace hO := Lib.hid hO
  replace hK := Lib.hid hK
  clear e1 e2
  go_enter Tryz.func11, Tryz.ntmps11
  go_wp2_with (first | (go_at_call 16; refine (hO.out _).mono ?_; rintro e w1 ⟨rfl, hb1⟩; have h1 := Lib.hid (h.grow hb1)) | (go_at_call 17; refine (hK.out _ h1.out).mono ?_; rintro e w2 ⟨rfl, hm2, ht2⟩; replace hm2 := Lib.hid hm2))
  exact bodyPost_ret (v := .int .i64 0) (by simp [results, Tryz.results11, go_sem]) rfl ⟨rfl, hm2.out, Apart.after ht2 hb1⟩
theorem vNew_c (key : ByteArray) (w : World) : Calls Tryz.prog 5 #[.string key] w fun e w' => (∃ V M, e = .returned (.pointer (some ⟨V, 0, none⟩)) ∧ w.heap.size ≤ V ∧ w.heap.size ≤ M ∧ VS w' V M key []) ∧ Below w.heap.size w w' := by
  have hmk : ∀ W : World, (Instr.makeMap 26 none).run Tryz.prog W = .ok (.map (some W.heap.size)) (W.alloc (.map #[] 0)) := fun W => by simp [Instr.makeMap, Result.andThen]
  go_enter Tryz.func5, Tryz.ntmps5
  go_wp2_with fail
  exact bodyPost_ret (v := .pointer (some ⟨w.heap.size + 1, 0, none⟩)) (by simp [results, Tryz.results5, go_sem]) rfl ⟨⟨w.heap.size + 1, w.heap.size, rfl, by omega, Nat.le_refl _, ⟨blk_new' (by simp) _, blk_alloc (blk_new _ _) _⟩⟩, (by (repeat (first | exact Below.refl _ _ | (refine bl_alloc ?_ _) | (refine bl_drewN ?_ _) | (refine bl_drew ?_) | (refine bl_call (by assumption) ?_) | (refine bl_set _ _ (by simp <;> omega) ?_) | assumption)))⟩
end Go.Proofs.YthnackakgglhbaaGreat

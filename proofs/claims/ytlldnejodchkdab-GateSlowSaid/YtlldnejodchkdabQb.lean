/- Maps with string keys: what a lookup, a store, a deletion do; the gate's state; Wait and May. -/
import Derived.Test.YtlldnejodchkdabQa
import Derived.MapKept
namespace Go.Proofs.Ytlldnejodchkdab
open Go.RowKit
set_option maxRecDepth 100000
set_option linter.unusedSimpArgs false
set_option linter.unusedVariables false
theorem beq_bytes_self (s : ByteArray) : (s == s) = true := by rw [Go.beq_toListBytes]; simp
theorem beq_bytes_ne {s s' : ByteArray} (h : s ≠ s') : (s == s') = false := by
  rw [Go.beq_toListBytes, ByteArray.toList_eq, ByteArray.toList_eq, beq_eq_false_iff_ne]
  exact fun q => h (ByteArray.ext (Array.ext' q))
section
variable {P : Program} {T K E : TypeId} {w : World} {M ck : Nat} {es : Array MapEntry} {s : ByteArray}
theorem lk_none {z : Value} (hT : P.underlying T = some (.map K E)) (hK : P.underlying K = some .string) (hz : (zeroValue E).run P w = .ok z w) (hb : w.heap[M]? = some (.map es ck)) (hf : Instr.findNow .string (.string s) es.toList 0 = some none) (ok : Bool) :
    (Instr.lookup T (.map (some M)) (.string s) ok).run P w = .ok (if ok then .tuple #[z, .bool false] else z) w := by
  cases ok <;> simp [Instr.lookup, run_underlying hT, MapKept.run_getObj_map hb, MapKept.run_checkKey hK (show MapKept.IsKey .string (.string s) by simp [MapKept.IsKey]), MapKept.run_findKey hK hf, hz, Result.andThen]
theorem lk_some {v : Value} {i : Nat} (hT : P.underlying T = some (.map K E)) (hK : P.underlying K = some .string) (hb : w.heap[M]? = some (.map es ck)) (hf : Instr.findNow .string (.string s) es.toList 0 = some (some (i, v))) (ok : Bool) :
    (Instr.lookup T (.map (some M)) (.string s) ok).run P w = .ok (if ok then .tuple #[v, .bool true] else v) w := by
  cases ok <;> simp [Instr.lookup, run_underlying hT, MapKept.run_getObj_map hb, MapKept.run_checkKey hK (show MapKept.IsKey .string (.string s) by simp [MapKept.IsKey]), MapKept.run_findKey hK hf, Result.andThen]
/-- A world with another map. -/
def setM (w : World) (M : Nat) (es : Array MapEntry) (ck : Nat) : World := { w with heap := w.heap.setIfInBounds M (.map es ck) }
theorem up_new {v : Value} (hT : P.underlying T = some (.map K E)) (hK : P.underlying K = some .string) (hb : w.heap[M]? = some (.map es ck)) (hf : Instr.findNow .string (.string s) es.toList 0 = some none) :
    (Instr.mapUpdate T (.map (some M)) (.string s) v).run P w = .ok () (setM w M (es.push { key := .string s, val := v, born := ck }) (ck + 1)) := by
  simp [Instr.mapUpdate, run_underlying hT, MapKept.run_getObj_map hb, MapKept.run_checkKey hK (show MapKept.IsKey .string (.string s) by simp [MapKept.IsKey]), MapKept.run_findKey hK hf, MapKept.run_setObj_map _ hb, Result.andThen, setM]
theorem up_old {v u : Value} {i : Nat} {e : MapEntry} (hT : P.underlying T = some (.map K E)) (hK : P.underlying K = some .string) (hb : w.heap[M]? = some (.map es ck)) (hf : Instr.findNow .string (.string s) es.toList 0 = some (some (i, u))) (hi : es[i]? = some e) (he : e.key = .string s) :
    (Instr.mapUpdate T (.map (some M)) (.string s) v).run P w = .ok () (setM w M (es.modify i fun e => { e with key := .string s, val := v }) ck) := by
  simp [Instr.mapUpdate, run_underlying hT, MapKept.run_getObj_map hb, MapKept.run_checkKey hK (show MapKept.IsKey .string (.string s) by simp [MapKept.IsKey]), MapKept.run_findKey hK hf, hi, he, Instr.keyThatStays, Instr.sameBits, beq_bytes_self, MapKept.run_setObj_map _ hb, Result.andThen, setM]
theorem setM_at (hb : w.heap[M]? = some (.map es ck)) (es' : Array MapEntry) (ck' : Nat) : (setM w M es' ck').heap[M]? = some (.map es' ck') := (MapKept.heap_set hb).1
theorem setM_far {g : Nat} {o : Obj} (hg : w.heap[g]? = some o) (h : g ≠ M) (es' : Array MapEntry) (ck' : Nat) : (setM w M es' ck').heap[g]? = some o := by
  have : (setM w M es' ck').heap = w.heap.setIfInBounds M (.map es' ck') := rfl
  rw [this, Array.getElem?_setIfInBounds_ne (Ne.symm h)]
  exact hg
theorem setM_below {B : Nat} {w0 : World} (hB : B ≤ M) (h : Below B w0 w) (es' : Array MapEntry) (ck' : Nat) : Below B w0 (setM w M es' ck') := by
  refine ⟨h.os, h.tape, h.output, ?_, fun b hb => ?_⟩
  · have : (setM w M es' ck').heap.size = w.heap.size := by simp [setM]
    rw [this]; exact h.size
  · have : (setM w M es' ck').heap = w.heap.setIfInBounds M (.map es' ck') := rfl
    rw [this, Array.getElem?_setIfInBounds_ne (by omega)]
    exact h.block b hb
end
/-- A mark of a name. -/
def mk1 (s : ByteArray) (k f : Int) (b : Nat) : MapEntry := { key := .string s, val := .agg #[.int .i64 k, .int .i64 f], born := b }
theorem find0 (s : ByteArray) : Instr.findNow .string (.string s) (#[] : Array MapEntry).toList 0 = some none := rfl
theorem find1 (s : ByteArray) (k f : Int) (b : Nat) : Instr.findNow .string (.string s) (#[mk1 s k f b] : Array MapEntry).toList 0 = some (some (0, .agg #[.int .i64 k, .int .i64 f])) := by
  simp [Instr.findNow, mk1, Instr.sameNow, beq_bytes_self]
theorem find1_no (s s' : ByteArray) (k f : Int) (b : Nat) (h : s ≠ s') : Instr.findNow .string (.string s) (#[mk1 s' k f b] : Array MapEntry).toList 0 = some none := by
  have : (s == s') = false := beq_bytes_ne h
  simp [Instr.findNow, mk1, Instr.sameNow, this]
/-- The gate's state. -/
structure GS (w : World) (g M : Nat) (fr lo nm nw : Int) (es : Array MapEntry) (ck : Nat) : Prop where
  gate : w.heap[g]? = some (.cells #[.int .i64 fr, .int .i64 lo, .int .i64 nm, .int .i64 nw, .map (some M)] 49 (0, 0))
  marks : w.heap[M]? = some (.map es ck)
theorem GS.ne {w : World} {g M : Nat} {fr lo nm nw : Int} {es : Array MapEntry} {ck : Nat} (h : GS w g M fr lo nm nw es ck) : g ≠ M := fun e => by
  have h1 := h.gate
  rw [e, h.marks] at h1
  cases h1
theorem GS.grow {w w' : World} {g M : Nat} {fr lo nm nw : Int} {es : Array MapEntry} {ck : Nat} (h : GS w g M fr lo nm nw es ck) (hb : Below w.heap.size w w') : GS w' g M fr lo nm nw es ck := ⟨grow_blk hb h.gate, grow_blk hb h.marks⟩
theorem fld_from (a b : Int) (w : World) : (Instr.field 51 (.agg #[.int .i64 a, .int .i64 b]) 1).run Try.prog w = .ok (.int .i64 b) w := by
  have hz := Try.sizeOf3
  have ha := Try.isAgg3
  simp only [Instr.field, Sem.run_bind, run_underlying Try.underlying51, Result.andThen_ok, asAgg]
  go_simp
/-- What a name's mark says: how often it failed, from when on it may try. -/
def MarkOf (w : World) (M : Nat) (s : ByteArray) (k f : Int) : Prop := (Instr.lookup 47 (.map (some M)) (.string s) false).run Try.prog w = .ok (.agg #[.int .i64 k, .int .i64 f]) w
theorem says0 {w : World} {M ck : Nat} {s : ByteArray} (h : w.heap[M]? = some (.map #[] ck)) : MarkOf w M s 0 0 := by
  have := lk_none (s := s) Try.underlying47 Try.underlying9 (Try.zeroValue51 _) h (find0 s) false
  simpa [MarkOf] using this
theorem says1 {w : World} {M ck b : Nat} {s : ByteArray} {k f : Int} (h : w.heap[M]? = some (.map #[mk1 s k f b] ck)) : MarkOf w M s k f := by
  have := lk_some (s := s) Try.underlying47 Try.underlying9 h (find1 s k f b) false
  simpa [MarkOf] using this
theorem says1_no {w : World} {M ck b : Nat} {s s' : ByteArray} {k f : Int} (h : w.heap[M]? = some (.map #[mk1 s' k f b] ck)) (hne : s ≠ s') : MarkOf w M s 0 0 := by
  have := lk_none (s := s) Try.underlying47 Try.underlying9 (Try.zeroValue51 _) h (find1_no s s' k f b hne) false
  simpa [MarkOf] using this
set_option maxHeartbeats 1000000 in
theorem Wait_c (w : World) (g M : Nat) (fr lo nm nw : Int) (es : Array MapEntry) (ck : Nat) (s : ByteArray) (k f : Int) (h : GS w g M fr lo nm nw es ck) (hs : MarkOf w.drew M s k f) (h0 : 0 ≤ nw ∧ nw ≤ 1099511627776) (hf : 0 ≤ f ∧ f ≤ 2199023255552) : Calls Try.prog 12 #[.pointer (some ⟨g, 0, none⟩), .string s] w fun e w' => e = .returned (.int .i64 (if f < nw then 0 else f - nw)) ∧ Below w.heap.size w w' := by
  have hD : Below w.heap.size w w.drew := bl_drew (Below.refl _ _)
  have h2 := h.grow hD
  have hl : (Instr.lookup 47 (.map (some M)) (.string s) false).run Try.prog w.drew = .ok (.agg #[.int .i64 k, .int .i64 f]) w.drew := hs
  have c3 := blk_cell h2.gate 3
  have c4 := blk_cell h2.gate 4
  have hfl := fld_from k f w.drew
  clear hs h2 h
  have hv : (if f - nw < 0 then (0 : Int) else f - nw) = if f < nw then 0 else f - nw := by split <;> split <;> omega
  generalize (if f < nw then 0 else f - nw) = v at hv ⊢
  go_enter Try.func12, Try.ntmps12
  go_upto_region 3 with fail
  go_region
  go_wp2_with fail
  exact bodyPost_ret (v := .int .i64 v) (by simp [results, Try.results12, go_sem]; try omega) rfl ⟨rfl, bl_drew (Below.refl _ _)⟩
theorem May_c (w : World) (g M : Nat) (fr lo nm nw : Int) (es : Array MapEntry) (ck : Nat) (s : ByteArray) (k f : Int) (h : GS w g M fr lo nm nw es ck) (hs : MarkOf w.drew M s k f) (h0 : 0 ≤ nw ∧ nw ≤ 1099511627776) (hf : 0 ≤ f ∧ f ≤ 2199023255552) : Calls Try.prog 10 #[.pointer (some ⟨g, 0, none⟩), .string s] w fun e w' => e = .returned (.bool (decide (f ≤ nw))) ∧ Below w.heap.size w w' := by
  have hW := Wait_c w g M fr lo nm nw es ck s k f h hs h0 hf
  have hv : ((if f < nw then (0 : Int) else f - nw) == 0) = decide (f ≤ nw) := by
    rw [Bool.eq_iff_iff, beq_iff_eq, decide_eq_true_eq]
    split <;> omega
  generalize (if f < nw then (0 : Int) else f - nw) = v at hv hW
  generalize decide (f ≤ nw) = b at hv ⊢
  clear hs
  go_enter Try.func10, Try.ntmps10
  go_wp2_with (go_at_call 12; refine hW.mono ?_; rintro e w3 ⟨rfl, hb3⟩)
  exact bodyPost_ret (v := .bool b) (by simp [results, Try.results10, go_sem]) rfl ⟨rfl, hb3⟩
end Go.Proofs.Ytlldnejodchkdab

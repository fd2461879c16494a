/- Events: rows of them, as arguments. -/
import Derived.Test.YtcophjjjkonpjaaDoorGb
import Derived.Deep.Slices
import Derived.Deep.Strs
import Derived.OpenShut
import Derived.ChangeArms
namespace Go.Proofs.YtcophjjjkonpjaaDoor
open Go.RowKit Go.ChangeShapes Go.WideShapes
set_option maxRecDepth 100000
set_option linter.unusedSimpArgs false
set_option linter.unusedVariables false
structure Evt where
  k : Int
  i : Int
  v : Int
deriving DecidableEq
def ev (e : Evt) : Value := .agg #[.int .i64 e.k, .int .i64 e.i, .int .u32 e.v]
/-- A row of events. -/
def RowE (w : World) (sv : Value) (es : List Evt) : Prop := ∃ ao cap, sv = .slice ao es.length cap ∧ ∀ j (h : j < es.length), ∃ g off, ao = some ⟨g, off, none⟩ ∧ w.cell? ⟨g, off + j * 3, none⟩ = some (.int .i64 es[j].k) ∧ w.cell? ⟨g, off + j * 3 + 1, none⟩ = some (.int .i64 es[j].i) ∧ w.cell? ⟨g, off + j * 3 + 2, none⟩ = some (.int .u32 es[j].v)
theorem RowE.nil (w : World) : RowE w (.slice none 0 0) [] := ⟨none, 0, rfl, fun j h => by simp at h⟩
theorem RowE.grow {w w' : World} {sv : Value} {es : List Evt} (h : RowE w sv es) (hb : Below w.heap.size w w') : RowE w' sv es := by
  obtain ⟨ao, cap, h1, h2⟩ := h
  refine ⟨ao, cap, h1, fun j hj => ?_⟩
  obtain ⟨g, off, e, c0, c1, c2⟩ := h2 j hj
  exact ⟨g, off, e, grow_cell hb c0, grow_cell hb c1, grow_cell hb c2⟩
def WfE (es : List Evt) : Prop := ∀ e ∈ es, -9223372036854775808 ≤ e.k ∧ e.k ≤ 9223372036854775807 ∧ -9223372036854775808 ≤ e.i ∧ e.i ≤ 9223372036854775807 ∧ 0 ≤ e.v ∧ e.v ≤ 4294967295
theorem open_rowE {H : Type} {enc : TypeId × Value → H} {W : World} {base : Nat} {v : Value} {d : DataW H} {p : List MemPlace} (hval : Value.okWide Tryd.prog W .any base 22 v) (h : DataW.Trod enc Tryd.prog W 0 (fun _ => true) true 22 v d p) :
    ∃ es : List Evt, RowE W v es ∧ WfE es := by
  obtain ⟨a1, len, cap, rfl⟩ := okWide_slice Tryd.underlying22 hval
  obtain ⟨fuel, hf⟩ := h
  have hc : Tryd.prog.cellsOf 28 = 3 := by kernel_rfl
  have hc3 : Tryd.prog.cellsOf 3 = 1 := by kernel_rfl
  have hc4 : Tryd.prog.cellsOf 26 = 1 := by kernel_rfl
  rcases Go.Deep.open_slice Tryd.underlying22 hf with ⟨hcs, _⟩ | ⟨a, len', cap', m, n, D, Pl, hcs, _, hl, hm, hmm, _, hel⟩
  · simp [Value.cells] at hcs
    obtain ⟨rfl, rfl, rfl⟩ := hcs
    exact ⟨[], RowE.nil W, fun e he => by simp at he⟩
  · simp [Value.cells] at hcs
    obtain ⟨rfl, rfl, rfl⟩ := hcs
    simp only [if_true] at hmm
    have each : ∀ j, j < len → ∃ e : Evt, W.cell? (a.add (j * 3)) = some (.int .i64 e.k) ∧ W.cell? (a.add (j * 3 + 1)) = some (.int .i64 e.i) ∧ W.cell? (a.add (j * 3 + 2)) = some (.int .u32 e.v) ∧ WfE [e] := by
      intro j hj
      obtain ⟨cs', h1, h2⟩ := hel j (by omega)
      rw [hc] at h1
      obtain ⟨_, hlen, hcell⟩ := World.cells?_some h1
      obtain ⟨y0, y1, y2, n2, _, _, g0, g1, g2⟩ := Go.Deep.trod_struct3 Tryd.underlying28 h2
      match cs', hlen with
      | [v0, v1, v2], _ =>
        have e0 := hcell 0 (by omega)
        have e1 := hcell 1 (by omega)
        have e2 := hcell 2 (by omega)
        rw [Go.Deep.add_add] at e0 e1 e2
        simp only [hc3, hc4, List.drop_zero, List.drop_succ_cons, List.take_succ_cons, List.take_zero] at g0 g1 g2
        obtain ⟨x0, q0, _, w0⟩ := DataW.trod_int Tryd.underlying3 g0
        obtain ⟨x1, q1, _, w1⟩ := DataW.trod_int Tryd.underlying3 g1
        obtain ⟨x2, q2, _, w2⟩ := DataW.trod_int Tryd.underlying26 g2
        simp only [List.cons.injEq, and_true] at q0 q1 q2
        subst q0 q1 q2
        refine ⟨⟨x0, x1, x2⟩, by simpa using e0, by simpa using e1, by simpa using e2, fun e he => ?_⟩
        obtain rfl := List.mem_singleton.1 he
        simp [Lit.wf, IntKind.min, IntKind.max, IntKind.signed, IntKind.bits] at w0 w1 w2
        refine ⟨?_, ?_, ?_, ?_, ?_, ?_⟩ <;> simp only <;> omega
    obtain ⟨f, hf⟩ : ∃ f : Nat → Evt, ∀ j, j < len → W.cell? (a.add (j * 3)) = some (.int .i64 (f j).k) ∧ W.cell? (a.add (j * 3 + 1)) = some (.int .i64 (f j).i) ∧ W.cell? (a.add (j * 3 + 2)) = some (.int .u32 (f j).v) ∧ WfE [f j] := by
      haveI : Inhabited Evt := ⟨⟨0, 0, 0⟩⟩
      exact Go.Deep.choose_lt each
    refine ⟨(List.range len).map f, ⟨some a, cap, by simp, fun j hj => ?_⟩, fun e he => ?_⟩
    · simp only [List.length_map, List.length_range] at hj
      obtain ⟨c0, c1, c2, _⟩ := hf j hj
      obtain ⟨ab, ao, spot⟩ := a
      have hspot : spot = none := by
        have h0 := (hf 0 (by omega)).1
        simpa [Addr.add] using World.cell?_spot h0
      subst hspot
      refine ⟨ab, ao, rfl, ?_⟩
      rw [Addr.add_lit] at c0 c1 c2
      simp only [List.getElem_map, List.getElem_range]
      exact ⟨c0, c1, c2⟩
    · obtain ⟨j, hj, rfl⟩ := List.mem_map.1 he
      exact (hf j (List.mem_range.1 hj)).2.2.2 _ (List.mem_singleton.2 rfl)
end Go.Proofs.YtcophjjjkonpjaaDoor

/- Opening an argument that is an array of two texts. -/
import Derived.Test.YthnackakgglhbaaProg
import Derived.OpenShut
import Derived.ChangeArms
import Derived.SizedLaws
namespace Go.Proofs.Ythnackakgglhbaa
open Go.RowKit Go.ChangeShapes Go.WideShapes
set_option maxRecDepth 100000
set_option linter.unusedVariables false
theorem open_strs2 {H : Type} {enc : TypeId × Value → H} {P : Program} {k e : TypeId} {W : World} {base : Nat} {sp : Nat → Bool} {held : Bool} {xs : Array Value} {d : DataW H} {ps : List MemPlace} (hu : P.underlying k = some (.array 2 e)) (he : P.underlying e = some .string)
    (hc : P.cellsOf e = 1) (hk : P.cellsOf k = 2) (hd : DataW.Trod enc P W base sp held k (.agg xs) d ps) : ∃ p s : ByteArray, xs = #[.string p, .string s] ∧ d = .agg [.lit (.string p.data.toList), .lit (.string s.data.toList)] := by
  obtain ⟨fuel, hf⟩ := hd
  obtain ⟨ys, m, _, hx, hl, hn, hi⟩ := DataW.trod_array hu hf
  rw [hc] at hi
  simp only [Value.cells] at hl hi
  rw [hk] at hl
  obtain ⟨xl⟩ := xs
  match xl, hl, ys, hn, hi, hx with
  | [x0, x1], _, [y0, y1], _, hi, hx =>
    have h0 := hi 0 (by omega)
    have h1 := hi 1 (by omega)
    simp at h0 h1
    obtain ⟨p, e0, rfl, _⟩ := DataW.trod_string he h0
    obtain ⟨s, e1, rfl, _⟩ := DataW.trod_string he h1
    simp at e0 e1
    subst e0 e1
    simp at hx
    exact ⟨p, s, rfl, hx.1⟩
theorem sized_strs2 {H : Type} {P : Program} {ts : List TypeId} {ds : List (DataW H)} (h : (DataW.weightsEach P ts ds).all (· ≤ reachBytes) = true) {j : Nat} {t e : TypeId} {p s : ByteArray} (ht : ts[j]? = some t) (hu : P.underlying t = some (.array 2 e)) (hd : ds[j]? = some (.agg [.lit (.string p.data.toList), .lit (.string s.data.toList)])) : p.size ≤ 140737488355328 ∧ s.size ≤ 140737488355328 := by
  have r := reachBytes_lt
  have h1 := List.all_eq_true.1 h _ (DataW.weights_mem_each ht hd p.data.toList.length (by simp [DataW.weights, hu, DataW.weightsAll]))
  have h2 := List.all_eq_true.1 h _ (DataW.weights_mem_each ht hd s.data.toList.length (by simp [DataW.weights, hu, DataW.weightsAll]))
  simp only [Array.length_toList, decide_eq_true_eq] at h1 h2
  exact ⟨show p.data.size ≤ _ by omega, show s.data.size ≤ _ by omega⟩
theorem open_u8s2 {H : Type} {enc : TypeId × Value → H} {P : Program} {k e : TypeId} {W : World} {base : Nat} {sp : Nat → Bool} {held : Bool} {xs : Array Value} {d : DataW H} {ps : List MemPlace} (hu : P.underlying k = some (.array 2 e)) (he : P.underlying e = some (.int .u8))
    (hc : P.cellsOf e = 1) (hk : P.cellsOf k = 2) (hd : DataW.Trod enc P W base sp held k (.agg xs) d ps) : ∃ p s : Int, xs = #[.int .u8 p, .int .u8 s] ∧ (0 ≤ p ∧ p ≤ 255) ∧ (0 ≤ s ∧ s ≤ 255) := by
  obtain ⟨fuel, hf⟩ := hd
  obtain ⟨ys, m, _, hx, hl, hn, hi⟩ := DataW.trod_array hu hf
  rw [hc] at hi
  simp only [Value.cells] at hl hi
  rw [hk] at hl
  obtain ⟨xl⟩ := xs
  match xl, hl, ys, hn, hi, hx with
  | [x0, x1], _, [y0, y1], _, hi, hx =>
    have h0 := hi 0 (by omega)
    have h1 := hi 1 (by omega)
    simp at h0 h1
    obtain ⟨p, e0, _, w0⟩ := DataW.trod_int he h0
    obtain ⟨s, e1, _, w1⟩ := DataW.trod_int he h1
    simp at e0 e1
    subst e0 e1
    simp [Lit.wf, IntKind.min, IntKind.max, IntKind.signed, IntKind.bits] at w0 w1
    exact ⟨p, s, rfl, by omega, by omega⟩
end Go.Proofs.Ythnackakgglhbaa

/- Opening an argument that is an array of words. -/
import Derived.Test.YthnackakgglhbaaHs
import Derived.OpenShut
import Derived.ChangeArms
namespace Go.Proofs.Ythnackakgglhbaa
open Go.RowKit Go.ChangeShapes Go.WideShapes
theorem okWide_array {P : Program} {W : World} {k e : TypeId} {n : Nat} {r : Reach} {b0 : Nat} {v : Value} (hu : P.underlying k = some (.array n e)) (h : Value.okWide P W r b0 k v) : ∃ xs : Array Value, v = .agg xs := by
  simp only [Value.okWide, hu] at h
  obtain ⟨cs, h1, _⟩ := h
  exact ⟨cs, h1⟩
/-- A number in its range as a word. -/
def litw : Value → W32
  | .int _ a => kw a.toNat
  | _ => 0#32
theorem open_words {H : Type} {enc : TypeId × Value → H} {P : Program} {k e : TypeId} {n : Nat} {W : World} {base : Nat} {sp : Nat → Bool} {held : Bool} {xs : Array Value} {d : DataW H} {ps : List MemPlace} (hu : P.underlying k = some (.array n e)) (he : P.underlying e = some (.int .u32))
    (hc : P.cellsOf e = 1) (hk : P.cellsOf k = n) (hd : DataW.Trod enc P W base sp held k (.agg xs) d ps) : ∃ ws : List W32, ws.length = n ∧ xs = cw ws := by
  obtain ⟨fuel, hf⟩ := hd
  obtain ⟨ys, m, _, _, hl, hn, hi⟩ := DataW.trod_array hu hf
  rw [hc] at hi
  simp only [Value.cells] at hl hi
  rw [hk] at hl
  have hl' : xs.size = n := by simpa using hl
  refine ⟨xs.toList.map litw, by simp [hl'], ?_⟩
  apply Array.ext_getElem?
  intro i
  by_cases h : i < n
  · have hx := hi i h
    have hys : ∃ y, ys[i]? = some y := ⟨_, List.getElem?_eq_getElem (by omega)⟩
    obtain ⟨y, hy⟩ := hys
    rw [hy] at hx
    obtain ⟨a, ha, _, hw⟩ := DataW.trod_int he hx
    have hxi : xs[i]? = some (.int .u32 a) := by
      have e1 : (xs.toList.drop (i * 1)).take 1 = [xs[i]'(by omega)] := by
        rw [Nat.mul_one, List.take_one, List.head?_drop]
        simp [hl', h]
      rw [e1] at ha
      rw [Array.getElem?_eq_getElem (by omega)]
      simpa using ha
    have hb : 0 ≤ a ∧ a < 4294967296 := by
      simp [Lit.wf, IntKind.min, IntKind.max, IntKind.signed, IntKind.bits] at hw
      omega
    rw [hxi]
    simp only [cw, List.getElem?_toArray, List.getElem?_map, List.map_map, Function.comp_def, Array.getElem?_toList, hxi, Option.map_some, litw]
    rw [← of_iw a hb.1 hb.2]
  · rw [Array.getElem?_eq_none (by omega), Array.getElem?_eq_none (by simp [cw]; omega)]
end Go.Proofs.Ythnackakgglhbaa

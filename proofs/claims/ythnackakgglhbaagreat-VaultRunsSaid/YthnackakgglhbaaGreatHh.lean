/- sha.Hash: over the words of an arena. -/
import Derived.Test.YthnackakgglhbaaGreatAr
import Derived.Test.YthnackakgglhbaaGreatEq
namespace Go.Proofs.YthnackakgglhbaaGreat
open Go.RowKit
set_option maxRecDepth 100000
set_option linter.unusedSimpArgs false
set_option linter.unusedVariables false
attribute [local go_sem] evR_tmp evR_const evR_global evR_func
/-- What k loads from a place on note. -/
def loads (at_ k : Nat) : List Ev := (List.range k).map fun j => (1, ((at_ + j : Nat) : Int), 0)
theorem loads_snoc (a k : Nat) : loads a (k + 1) = loads a k ++ [(1, ((a + k : Nat) : Int), 0)] := by simp [loads, List.range_succ]
theorem loads_length (a k : Nat) : (loads a k).length = k := by simp [loads]
/-- The length, cut at the number of the words. -/
def cutw (n : Nat) (len : W32) : W32 := selw (mk (ltw (kw n) len)) (kw n) len
theorem cutw_is (n : Nat) (hn : n < 4294967296) (len : W32) : cutw n len = kw (min n len.toNat) := by
  unfold cutw
  have hl := len.isLt
  have e : kw len.toNat = len := BitVec.eq_of_toNat_eq (kw_nat _ hl)
  by_cases h : n < len.toNat
  · rw [show ltw (kw n) len = true by unfold ltw; rw [kw_nat n hn]; simpa using h, sel_true, Nat.min_eq_left (by omega)]
  · rw [show ltw (kw n) len = false by unfold ltw; rw [kw_nat n hn]; simpa using h, sel_false, Nat.min_eq_right (by omega), e]
theorem far_of {w W : World} {g : Nat} {o : Obj} {p : Addr} {v : Value} (hW : W = w.setCell p v) (k : w.heap[g]? = some o) (hp : g ≠ p.block) : W.heap[g]? = some o := by subst hW; exact blk_far k hp v
theorem results_cell_row_tmp {P : Program} {fn : Func} {p u : Tmp} {ty : TypeId} (h : fn.results = #[.cell p ty, .tmp u]) (tmps : Array Value) (w : World) (g : Nat) (t : TypeId) (cs : Array Value) (fr : Nat × Nat) (d : TypeDesc) (b : Value)
    (hp : tmps.getD p undef = .pointer (some ⟨g, 0, none⟩)) (hb : tmps.getD u undef = b) (hg : w.heap[g]? = some (.cells cs t fr))
    (hu : P.underlying ty = some d) (hd : (match d with | .struct _ | .array _ _ => true | _ => false) = true) (hi : (P.info? ty).map (·.size) = some cs.size) :
    (results fn tmps).run P w = .ok (.tuple #[.agg cs, b]) w := by
  have hp' : tmps[p]?.getD undef = .pointer (some ⟨g, 0, none⟩) := by simpa using hp
  have hb' : tmps[u]?.getD undef = b := by simpa using hb
  simp [results, h, hp', hb', asAddr, run_loadVar_row w g t ty cs fr d hg hu hd hi]
end Go.Proofs.YthnackakgglhbaaGreat

/- Two things that own memory of their own, apart from each other. -/
import Derived.Test.YthnackakgglhbaaGreatHh
import Derived.Deep.MidRow
namespace Go.Proofs.YthnackakgglhbaaGreat
open Go.RowKit
set_option linter.unusedSimpArgs false
set_option linter.unusedVariables false
/-- What a thing knows of its blocks stays true while these stay as they are. -/
structure Keep (J : World → (Nat → Prop) → Prop) : Prop where
  lt : ∀ {W F}, J W F → ∀ b, F b → b < W.heap.size
  keep : ∀ {W W' F}, J W F → W.heap.size ≤ W'.heap.size → (∀ b, F b → W'.heap[b]? = W.heap[b]?) → J W' F
structure Two (J1 J2 : World → (Nat → Prop) → Prop) (w0 W : World) (own : List Nat) : Prop where
  ex : ∃ F1 F2, J1 W F1 ∧ J2 W F2 ∧ (∀ b, F1 b → w0.heap.size ≤ b ∧ b < W.heap.size ∧ ¬ F2 b) ∧ (∀ b, F2 b → w0.heap.size ≤ b ∧ b < W.heap.size) ∧ ∀ b ∈ own, b < W.heap.size ∧ ¬ F1 b ∧ ¬ F2 b
  bel : Below w0.heap.size w0 W
section
variable {J1 J2 J : World → (Nat → Prop) → Prop} {w0 W W1 : World} {own : List Nat}
theorem Two.take (k1 : Keep J1) (k2 : Keep J2) (s : Two J1 J2 w0 W own) (gs : List Nat) (hg : ∀ g ∈ gs, W.heap.size ≤ g ∧ g < W1.heap.size) (g : Below W.heap.size W W1) : Two J1 J2 w0 W1 (gs ++ own) := by
  obtain ⟨F1, F2, h1, h2, h3, h4, h5⟩ := s.ex
  have hs := g.size
  refine ⟨⟨F1, F2, k1.keep h1 g.size fun b hb => g.block b (h3 b hb).2.1, k2.keep h2 g.size fun b hb => g.block b (h4 b hb).2, fun b hb => ⟨(h3 b hb).1, by have := (h3 b hb).2.1; omega, (h3 b hb).2.2⟩, fun b hb => ⟨(h4 b hb).1, by have := (h4 b hb).2; omega⟩, fun b hb => ?_⟩, bl_call g s.bel⟩
  rcases List.mem_append.1 hb with q | q
  · have := hg b q
    exact ⟨this.2, fun z => by have := (h3 b z).2.1; omega, fun z => by have := (h4 b z).2; omega⟩
  · exact ⟨by have := (h5 b q).1; omega, (h5 b q).2⟩
theorem Two.grow (k1 : Keep J1) (k2 : Keep J2) (s : Two J1 J2 w0 W own) (g : Below W.heap.size W W1) : Two J1 J2 w0 W1 own := s.take k1 k2 [] (by simp) g
theorem Two.swap (s : Two J1 J2 w0 W own) : Two J2 J1 w0 W own := by
  obtain ⟨F1, F2, h1, h2, h3, h4, h5⟩ := s.ex
  exact ⟨⟨F2, F1, h2, h1, fun b hb => ⟨(h4 b hb).1, (h4 b hb).2, fun z => (h3 b z).2.2 hb⟩, fun b hb => ⟨(h3 b hb).1, (h3 b hb).2.1⟩, fun b hb => ⟨(h5 b hb).1, (h5 b hb).2.2, (h5 b hb).2.1⟩⟩, s.bel⟩
theorem Two.up (k2 : Keep J2) (s : Two J1 J2 w0 W own) : ∃ F, J1 W F ∧ ∀ J W1, Keep J → Upd J F W W1 → Two J J2 w0 W1 own ∧ ∀ b ∈ own, W1.heap[b]? = W.heap[b]? := by
  obtain ⟨F1, F2, h1, h2, h3, h4, h5⟩ := s.ex
  refine ⟨F1, h1, fun J W1 kk u => ⟨?_, fun b hb => u.apart.block b (h5 b hb).1 (h5 b hb).2.1⟩⟩
  obtain ⟨F', j, hs⟩ := u.ex
  have sz := u.apart.size
  have ss := s.bel.size
  refine ⟨⟨F', F2, j, k2.keep h2 sz fun b hb => u.apart.block b (h4 b hb).2 fun z => (h3 b z).2.2 hb, fun b hb => ?_, fun b hb => ⟨(h4 b hb).1, by have := (h4 b hb).2; omega⟩, fun b hb => ⟨by have := (h5 b hb).1; omega, fun z => ?_, (h5 b hb).2.2⟩⟩, u.apart.os.trans s.bel.os, u.apart.tape.trans s.bel.tape, u.apart.output.trans s.bel.output, by omega, fun b hb => ?_⟩
  · refine ⟨?_, kk.lt j b hb, fun z => ?_⟩
    · rcases hs b hb with q | q
      · exact (h3 b q).1
      · omega
    · rcases hs b hb with q | q
      · exact (h3 b q).2.2 z
      · have := (h4 b z).2; omega
  · rcases hs b z with q | q
    · exact (h5 b hb).2.1 q
    · have := (h5 b hb).1; omega
  · rw [u.apart.block b (by omega) fun z => by have := (h3 b z).1; omega]
    exact s.bel.block b hb
theorem Two.start {F1 F2 : Nat → Prop} (k1 : Keep J1) (k2 : Keep J2) (h1 : J1 W F1) (f1 : ∀ b, F1 b → w0.heap.size ≤ b) (hb : Below w0.heap.size w0 W) (h2 : J2 W1 F2) (f2 : ∀ b, F2 b → W.heap.size ≤ b) (g : Below W.heap.size W W1) : Two J1 J2 w0 W1 [] := by
  have hs := hb.size
  have gs := g.size
  refine ⟨⟨F1, F2, k1.keep h1 g.size fun b q => g.block b (k1.lt h1 b q), h2, fun b q => ⟨f1 b q, by have := k1.lt h1 b q; omega, fun z => ?_⟩, fun b q => ⟨by have := f2 b q; omega, k2.lt h2 b q⟩, by simp⟩, bl_call g hb⟩
  have := k1.lt h1 b q
  have := f2 b z
  omega
end
theorem run_load_midR {P : Program} {R : Nat → Value} {o : Oper} {w : World} {ty : TypeId} {x : Operand} {g off : Nat} {cs : List Value} {d : TypeDesc} (ho : o.op = .load ty x) (hx : evR R x = .pointer (some ⟨g, off, none⟩)) (hc : w.rangeAt g off cs)
    (hu : P.underlying ty = some d) (hd : d.isRow = true) (hi : (P.info? ty).map (·.size) = some cs.length) : (execOp (evR R) o).run P w = .ok (.value (.agg cs.toArray)) w := by
  unfold execOp
  simp only [ho, hx, Sem.run_bind, Sem.run_pure, Result.andThen_ok, run_loadAt_mid w g off ty cs d hc hu hd hi]
theorem rangeAt_grow {W w : World} {g off : Nat} {cs : List Value} (hb : Below W.heap.size W w) (h : W.rangeAt g off cs) : w.rangeAt g off cs := fun j v hj => grow_cell hb (h j v hj)
/-- A slice cut at its upper end. -/
def cutAddr (a : Option Addr) (cap : Nat) : Option Addr := if cap = 0 then a else a.map (·.add 0)
theorem run_slice_hiR {P : Program} {R : Nat → Value} {o : Oper} {w : World} {t e : TypeId} {x h : Operand} {a : Option Addr} {len cap m : Nat} {k : IntKind} {i : Int} (ho : o.op = .slice t x none (some h) none) (hx : evR R x = .slice a len cap) (hh : evR R h = .int k i)
    (hi : i = (m : Int)) (hm : m ≤ cap) (ht : P.underlying t = some (.slice e)) (hs : (P.info? e).map (·.size) = some 1) : (execOp (evR R) o).run P w = .ok (.value (.slice (cutAddr a cap) m cap)) w := by
  subst hi
  have h1 : (0 : Int) ≤ m ∧ (m : Int) ≤ cap := by omega
  cases hq : P.info? e with
  | none => simp [hq] at hs
  | some inf =>
    have hs' : inf.size = 1 := by simpa [hq] using hs
    unfold execOp
    simp only [ho, hx, Option.map_some, Option.map_none]
    rw [hh]
    simp [Instr.sliceAt, Instr.slice, Instr.sliceBounds, Instr.sliceBound, asIntOf, run_underlying ht, sizeOf, typeInfo, hq, hs', h1, cutAddr, Sem.run_bind]
    exact fun z => absurd z (by omega)
theorem RowB.cut {w : World} {ao : Option Addr} {cap : Nat} {bs : List UInt8} (h : RowB w (.slice ao bs.length cap) bs) (m : Nat) (hm : m ≤ bs.length) : RowB w (.slice (cutAddr ao cap) m cap) (bs.take m) := by
  obtain ⟨ao', cap', h1, h2, h3⟩ := h
  cases h1
  refine ⟨cutAddr ao cap, cap, by rw [List.length_take, Nat.min_eq_left hm], fun z => ?_, fun k hk => ?_⟩
  · have : ao = none := by
      unfold cutAddr at z
      split at z
      · exact z
      · simpa using z
    obtain ⟨hb, hc⟩ := h2 this
    exact ⟨by rw [hb]; simp, hc⟩
  · have hk' : k < bs.length := by rw [List.length_take] at hk; omega
    obtain ⟨g, off, rfl, hc⟩ := h3 k hk'
    refine ⟨g, off, ?_, by rw [List.getElem_take]; exact hc⟩
    unfold cutAddr
    split
    · rfl
    · simp [Addr.add_mid]
end Go.Proofs.YthnackakgglhbaaGreat

/- What a function that calls a reader knows of the memory: what the reader looks at (J k: after k calls; its blocks F) stands apart from the function's own blocks. -/
import Derived.Test.YthnackakgglhbaaGreatLexR
import Derived.Test.YthnackakgglhbaaGreatSh1
namespace Go.Proofs.YthnackakgglhbaaGreat
open Go.RowKit
/-- What a reader knows, after k calls, in a world, of the blocks F alone. -/
structure Foot (J : Nat → World → (Nat → Prop) → Prop) : Prop where
  lt : ∀ {k W F}, J k W F → ∀ b, F b → b < W.heap.size
  keep : ∀ {k W W' F}, J k W F → W.heap.size ≤ W'.heap.size → (∀ b, F b → W'.heap[b]? = W.heap[b]?) → J k W' F
/-- All blocks of w but those of F are as they were. -/
structure Apart (F : Nat → Prop) (w W : World) : Prop where
  os : W.os = w.os
  tape : W.tape = w.tape
  output : W.output = w.output
  size : w.heap.size ≤ W.heap.size
  block : ∀ b, b < w.heap.size → ¬ F b → W.heap[b]? = w.heap[b]?
theorem Apart.refl (F : Nat → Prop) (w : World) : Apart F w w := ⟨rfl, rfl, rfl, Nat.le_refl _, fun _ _ _ => rfl⟩
theorem Apart.below {w W : World} (h : Apart (fun _ => False) w W) : Below w.heap.size w W := ⟨h.os, h.tape, h.output, h.size, fun b hb => h.block b hb id⟩
theorem Below.apart {w W : World} {F : Nat → Prop} (h : Below w.heap.size w W) : Apart F w W := ⟨h.os, h.tape, h.output, h.size, fun b hb _ => h.block b hb⟩
theorem Apart.mono {F G : Nat → Prop} {w W : World} (h : Apart F w W) (hs : ∀ b, F b → G b) : Apart G w W := ⟨h.os, h.tape, h.output, h.size, fun b hb hn => h.block b hb fun q => hn (hs b q)⟩
structure St (J : Nat → World → (Nat → Prop) → Prop) (F0 : Nat → Prop) (w : World) (k : Nat) (W : World) (own : List Nat) : Prop where
  ex : ∃ F, J k W F ∧ (∀ b, F b → F0 b ∨ w.heap.size ≤ b) ∧ ∀ b ∈ own, ¬ F b
  apart : Apart F0 w W
section
variable {J : Nat → World → (Nat → Prop) → Prop} {F0 : Nat → Prop} {w W W1 : World} {k : Nat} {own : List Nat}
theorem Apart.grow {F : Nat → Prop} (h : Apart F w W) (g : Below W.heap.size W W1) : Apart F w W1 :=
  ⟨g.os.trans h.os, g.tape.trans h.tape, g.output.trans h.output, Nat.le_trans h.size g.size, fun b hb hn => (g.block b (Nat.lt_of_lt_of_le hb h.size)).trans (h.block b hb hn)⟩
theorem St.start (hJ : J k w F0) : St J F0 w k w [] := ⟨⟨F0, hJ, fun _ h => .inl h, fun _ h => by cases h⟩, Apart.refl _ _⟩
theorem St.grow (fj : Foot J) (s : St J F0 w k W own) (g : Below W.heap.size W W1) : St J F0 w k W1 own := by
  obtain ⟨F, h1, h2, h3⟩ := s.ex
  exact ⟨⟨F, fj.keep h1 g.size fun b hb => g.block b (fj.lt h1 b hb), h2, h3⟩, s.apart.grow g⟩
theorem St.take (fj : Foot J) (s : St J F0 w k W own) (gs : List Nat) (hg : ∀ g ∈ gs, W.heap.size ≤ g) (h : Below W.heap.size W W1) : St J F0 w k W1 (gs ++ own) := by
  obtain ⟨F, h1, h2, h3⟩ := s.ex
  refine ⟨⟨F, fj.keep h1 h.size fun b hb => h.block b (fj.lt h1 b hb), h2, fun b hb => ?_⟩, s.apart.grow h⟩
  rcases List.mem_append.1 hb with q | q
  · exact fun z => absurd (fj.lt h1 b z) (by have := hg b q; omega)
  · exact h3 b q
theorem St.less {own' : List Nat} (s : St J F0 w k W own) (h : ∀ b ∈ own', b ∈ own) : St J F0 w k W own' := by
  obtain ⟨F, h1, h2, h3⟩ := s.ex
  exact ⟨⟨F, h1, h2, fun b hb => h3 b (h b hb)⟩, s.apart⟩
theorem St.write (fj : Foot J) (s : St J F0 w k W own) (g : Nat) (hg : g ∈ own) (hw : w.heap.size ≤ g) (ho : W1.os = W.os) (ht : W1.tape = W.tape) (hu : W1.output = W.output) (hs : W1.heap.size = W.heap.size) (hb : ∀ b, b ≠ g → W1.heap[b]? = W.heap[b]?) : St J F0 w k W1 own := by
  obtain ⟨F, h1, h2, h3⟩ := s.ex
  exact ⟨⟨F, fj.keep h1 (by omega) fun b q => hb b fun z => h3 g hg (z ▸ q), h2, h3⟩, ⟨ho.trans s.apart.os, ht.trans s.apart.tape, hu.trans s.apart.output, (by rw [hs]; exact s.apart.size), fun b q hn => (hb b (by omega)).trans (s.apart.block b q hn)⟩⟩
theorem St.set (fj : Foot J) (s : St J F0 w k W own) (p : Addr) (v : Value) (hg : p.block ∈ own) (hw : w.heap.size ≤ p.block) : St J F0 w k (W.setCell p v) own := by
  exact s.write fj p.block hg hw rfl rfl rfl (by simp [World.setCell]) fun b hb => Below.heap_setCell W p v b hb
theorem St.row (fj : Foot J) (s : St J F0 w k W own) (g : Nat) (cs : Array Value) (hg : g ∈ own) (hw : w.heap.size ≤ g) : St J F0 w k (W.setRow g cs) own :=
  s.write fj g hg hw rfl rfl rfl (by simp [World.setRow]) fun b hb => setRow_other W g b cs hb
theorem St.drew (fj : Foot J) (s : St J F0 w k W own) (n : Nat) : St J F0 w k (W.drewN n) own := s.grow fj (bl_drewN (Below.refl _ _) n)
/-- One call of the reader, from W to W1. -/
structure Read (J : Nat → World → (Nat → Prop) → Prop) (k : Nat) (F : Nat → Prop) (W W1 : World) : Prop where
  ex : ∃ F', J (k + 1) W1 F' ∧ ∀ b, F' b → F b ∨ W.heap.size ≤ b
  apart : Apart F W W1
theorem St.read (s : St J F0 w k W own) (ho : ∀ b ∈ own, b < W.heap.size) : ∃ F, J k W F ∧ ∀ W1, Read J k F W W1 → St J F0 w (k + 1) W1 own ∧ (∀ b ∈ own, W1.heap[b]? = W.heap[b]?) := by
  obtain ⟨F, h1, h2, h3⟩ := s.ex
  refine ⟨F, h1, fun W1 r => ⟨⟨?_, ?_⟩, fun b hb => r.apart.block b (ho b hb) (h3 b hb)⟩⟩
  · obtain ⟨F', j, hs⟩ := r.ex
    refine ⟨F', j, fun b hb => ?_, fun b hb q => ?_⟩
    · rcases hs b hb with z | z
      · exact h2 b z
      · exact .inr (Nat.le_trans s.apart.size z)
    · rcases hs b q with z | z
      · exact h3 b hb z
      · exact absurd (ho b hb) (by omega)
  · refine ⟨r.apart.os.trans s.apart.os, r.apart.tape.trans s.apart.tape, r.apart.output.trans s.apart.output, Nat.le_trans s.apart.size r.apart.size, fun b hb hn => ?_⟩
    rw [r.apart.block b (Nat.lt_of_lt_of_le hb s.apart.size) fun q => ?_]
    · exact s.apart.block b hb hn
    · rcases h2 b q with z | z
      · exact hn z
      · omega
end
end Go.Proofs.YthnackakgglhbaaGreat

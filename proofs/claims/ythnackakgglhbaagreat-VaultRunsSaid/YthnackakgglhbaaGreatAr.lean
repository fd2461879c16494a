/- The arena: what it holds, and what its functions do. -/
import Derived.Test.YthnackakgglhbaaGreatR3
namespace Go.Proofs.YthnackakgglhbaaGreat
open Go.RowKit
set_option maxRecDepth 100000
set_option linter.unusedSimpArgs false
set_option linter.unusedVariables false
attribute [local go_sem] evR_tmp evR_const evR_global evR_func
/-- An event: its kind, its place, its value. -/
abbrev Ev := Int × Int × Int
def evcs (es : List Ev) : List Value := es.flatMap fun e => evc e.1 e.2.1 e.2.2
theorem evcs_snoc (es : List Ev) (k a v : Int) : evcs (es ++ [(k, a, v)]) = evcs es ++ evc k a v := by simp [evcs]
/-- From one world to another one by what owns F: it owns then these blocks and new ones. -/
structure Upd (J : World → (Nat → Prop) → Prop) (F : Nat → Prop) (W W1 : World) : Prop where
  ex : ∃ F', J W1 F' ∧ ∀ b, F' b → F b ∨ W.heap.size ≤ b
  apart : Apart F W W1
abbrev St1 (J : World → (Nat → Prop) → Prop) (F0 : Nat → Prop) (w W : World) (own : List Nat) : Prop := St (fun _ => J) F0 w 0 W own
theorem St1.start {J : World → (Nat → Prop) → Prop} {F0 : Nat → Prop} {w : World} (h : J w F0) : St1 J F0 w w [] := St.start (J := fun _ => J) h
theorem St1.upd {J1 : World → (Nat → Prop) → Prop} {F0 : Nat → Prop} {w W : World} {own : List Nat} (s : St1 J1 F0 w W own) (ho : ∀ b ∈ own, b < W.heap.size) : ∃ F, J1 W F ∧ ∀ J2 W1, Upd J2 F W W1 → St1 J2 F0 w W1 own ∧ ∀ b ∈ own, W1.heap[b]? = W.heap[b]? := by
  obtain ⟨F, h1, h2, h3⟩ := s.ex
  refine ⟨F, h1, fun J2 W1 r => ⟨⟨?_, ?_⟩, fun b hb => r.apart.block b (ho b hb) (h3 b hb)⟩⟩
  · obtain ⟨F', j, hs⟩ := r.ex
    refine ⟨F', j, fun b hb => ?_, fun b hb q => ?_⟩
    · rcases hs b hb with z | z
      · exact h2 b z
      · exact .inr (Nat.le_trans s.apart.size z)
    · rcases hs b q with z | z
      · exact h3 b hb z
      · exact absurd (ho b hb) (by omega)
  · refine ⟨r.apart.os.trans s.apart.os, r.apart.tape.trans s.apart.tape, r.apart.output.trans s.apart.output, Nat.le_trans s.apart.size r.apart.size, fun b hb hn => ?_⟩
    rw [r.apart.block b (Nat.lt_of_lt_of_le hb s.apart.size) fun q => ?_]
    · exact s.apart.block b hb hn
    · rcases h2 b q with z | z
      · exact hn z
      · omega
theorem St1.out {J : World → (Nat → Prop) → Prop} {F0 : Nat → Prop} {w W : World} {own : List Nat} (s : St1 J F0 w W own) : Upd J F0 w W := by
  obtain ⟨F, h1, h2, _⟩ := s.ex
  exact ⟨⟨F, h1, h2⟩, s.apart⟩
theorem Upd.pre {J : World → (Nat → Prop) → Prop} {F : Nat → Prop} {W W1 W2 : World} (hb : Below W.heap.size W W1) (u : Upd J F W1 W2) : Upd J F W W2 := by
  obtain ⟨F', h1, h2⟩ := u.ex
  refine ⟨⟨F', h1, fun b hb' => ?_⟩, u.apart.os.trans hb.os, u.apart.tape.trans hb.tape, u.apart.output.trans hb.output, Nat.le_trans hb.size u.apart.size, fun b h hn => (u.apart.block b (Nat.lt_of_lt_of_le h hb.size) hn).trans (hb.block b h)⟩
  rcases h2 b hb' with q | q
  · exact .inl q
  · exact .inr (Nat.le_trans hb.size q)
/-- What a note does to a log. -/
structure Noted (gl : Nat) (sv : Value) (es : List Ev) (w w' : World) : Prop where
  ex : ∃ sv', w'.heap[gl]? = some (.cells #[sv'] 130 (0, 0)) ∧ w'.ownsRow 0 132 3 sv' es.length (evcs es) ∧ sv'.ownBlock ≠ some gl ∧ ∀ g, sv'.ownBlock = some g → sv.ownBlock = some g ∨ w.heap.size ≤ g
  apart : Apart (fun b => b = gl ∨ sv.ownBlock = some b) w w'
theorem noteE_c (k a v : Int) (w : World) (gl : Nat) (sv : Value) (es : List Ev) (hk : w.heap[gl]? = some (.cells #[sv] 130 (0, 0))) (hO : w.ownsRow 0 132 3 sv es.length (evcs es)) (hn : es.length ≤ 1000000) (hgl : sv.ownBlock ≠ some gl) :
    Calls Tryz.prog 73 #[.pointer (some ⟨gl, 0, none⟩), .int .i64 k, .int .i64 a, .int .u32 v] w fun e w' => e = .returned (.tuple #[]) ∧ Noted gl sv (es ++ [(k, a, v)]) w w' := by
  refine (note_c k a v w gl 0 es.length sv (evcs es) hk hO (Nat.zero_le _) hn hgl).mono ?_
  rintro e w' ⟨rfl, sv', k1, k2, k3, k4, k5, k6, k7, k8, k9⟩
  exact ⟨rfl, ⟨sv', k1, by rw [evcs_snoc, List.length_append]; exact k2, k3, k4⟩, k5, k6, k7, k8, fun b hb hn => k9 b hb (fun z => hn (.inl z)) fun z => hn (.inr z)⟩
/-- Does it lie within? -/
def fits (top : Nat) (a n : Int) : Bool := decide (0 ≤ a ∧ 0 ≤ n ∧ a ≤ top ∧ n ≤ top - a)
def eventsOf (w : World) (base : Nat) (sv : Value) (es : List Ev) : Prop := w.ownsRow base 132 3 sv es.length (evcs es)
theorem evcs_length (es : List Ev) : (evcs es).length = es.length * 3 := by
  induction es with
  | nil => rfl
  | cons e es ih => simp [evcs, evc] at ih ⊢; omega
theorem evcs_one (es : List Ev) : ∀ u ∈ evcs es, u.oneCell' = true := fun u hu => by
  unfold evcs at hu
  obtain ⟨e, _, he⟩ := List.mem_flatMap.1 hu
  simp only [evc, List.mem_cons, List.not_mem_nil, or_false] at he
  rcases he with rfl | rfl | rfl <;> rfl
end Go.Proofs.YthnackakgglhbaaGreat

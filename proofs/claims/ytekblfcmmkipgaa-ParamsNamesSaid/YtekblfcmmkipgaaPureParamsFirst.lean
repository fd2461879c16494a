/- For every list of errors of at most 30 the first error that is not OK is the one that params.First tells (any longer list: true at once). No condition. -/
import Derived.Test.YtekblfcmmkipgaaPParamsFirstx1
namespace Go.Proofs.Ytekblfcmmkipgaa.Pure
open Go.RowKit Go.Proofs.Ytekblfcmmkipgaa.PParamsFirst Go.Proofs.YtekblfcmmkipgaaW.PrintWords Go.Proofs.YtekblfcmmkipgaaW.PrintLast

/-- The first number that is not 0; else 0. -/
def firstNZ : List Int → Int
  | [] => 0
  | x :: r => if x = 0 then firstNZ r else x

theorem drop_rd (l : List Int) (i : Nat) (h : i < l.length) : l.drop i = rd l i :: l.drop (i + 1) := by
  rw [List.drop_eq_getElem_cons h]; simp [rd, h]

theorem wrap_small {x : Int} (h0 : -100 ≤ x) (h1 : x ≤ 100) : wrap64 x = x := by unfold wrap64; omega

theorem first_tells (l : List Int) (hl : l.length ≤ 30) (d : Nat) : ∀ (k i : Nat), i ≤ l.length → l.length - i = d → d < k →
    params_First.l0 k l (l.length : Int) (i : Int) = some (firstNZ (l.drop i)) := by
  induction d with
  | zero =>
    intro k i h1 hd hk
    obtain ⟨k, rfl⟩ : ∃ m, k = m + 1 := ⟨k - 1, by omega⟩
    simp only [params_First.l0]; rw [if_neg (by omega), List.drop_of_length_le (by omega)]; rfl
  | succ d ih =>
    intro k i h1 hd hk
    obtain ⟨k, rfl⟩ : ∃ m, k = m + 1 := ⟨k - 1, by omega⟩
    simp only [params_First.l0]
    rw [if_pos (by omega), if_pos (by omega), if_pos (by omega), wrap_small (by omega) (by omega), drop_rd l i (by omega)]
    rw [show ((i : Int) + 1) = ((i + 1 : Nat) : Int) from by omega, ih k (i + 1) (by omega) (by omega) (by omega)]
    simp only [firstNZ]
    split <;> rfl

theorem back_tells (l : List Int) (hl : l.length ≤ 30) (d : Nat) : ∀ (k : Nat) (i x : Int), i + 1 = (d : Int) → d ≤ l.length → x = firstNZ (l.drop d) → d + l.length + 1 < k →
    sabretachelaw24_ParamsFirst.l0 k l x i = some true := by
  induction d with
  | zero =>
    intro k i x hi hd hx hk
    obtain ⟨k, rfl⟩ : ∃ m, k = m + 1 := ⟨k - 1, by omega⟩
    simp only [sabretachelaw24_ParamsFirst.l0]
    rw [if_neg (by omega)]
    unfold params_First.f
    have h := first_tells l hl l.length k 0 (by omega) (by omega) (by omega)
    rw [show ((0 : Nat) : Int) = 0 from rfl] at h
    rw [h, hx]; simp
  | succ d ih =>
    intro k i x hi hd hx hk
    obtain ⟨k, rfl⟩ : ∃ m, k = m + 1 := ⟨k - 1, by omega⟩
    obtain rfl : i = (d : Int) := by omega
    simp only [sabretachelaw24_ParamsFirst.l0]
    rw [if_pos (by omega), if_pos (by omega), if_pos (by omega), wrap_small (by omega) (by omega)]
    have e : firstNZ (l.drop d) = if rd l d = 0 then firstNZ (l.drop (d + 1)) else rd l d := by rw [drop_rd l d (by omega)]; rfl
    by_cases z : rd l d = 0
    · rw [if_pos z] at e ⊢
      exact ih k _ _ (by omega) (by omega) (by rw [e, hx]) (by omega)
    · rw [if_neg z] at e ⊢
      exact ih k _ _ (by omega) (by omega) (by rw [e]) (by omega)

theorem awake_tells : sabretachelaw24_awake.f 200 = some true := by decide +kernel

/-- YOURS: ∀ (l0 : List Int), l0.length ≤ maxLen → l0.length * 8 ≤ 140737488351232 → (∀ x ∈ l0, (Lit.int .i64 x).wf = true) → ∃ k, sabretachelaw24_ParamsFirst.f k l0 = some true -/
theorem ParamsFirst : sabretachelaw24_ParamsFirst.Pure := by
  intro l _ _ _
  refine ⟨200, ?_⟩
  unfold sabretachelaw24_ParamsFirst.f
  rw [awake_tells]
  simp only [Option.bind_some, if_true]
  by_cases h : (l.length : Int) > 30
  · rw [if_pos h]
  · rw [if_neg h, wrap_small (by omega) (by omega)]
    exact back_tells l (by omega) l.length _ _ _ (by omega) (by omega) (by simp [firstNZ]) (by omega)

end Go.Proofs.Ytekblfcmmkipgaa.Pure

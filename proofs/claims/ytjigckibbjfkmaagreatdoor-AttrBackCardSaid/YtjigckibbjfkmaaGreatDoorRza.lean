/- Reference 33: Decode. -/
import Derived.Test.YtjigckibbjfkmaaGreatDoorRy
import Derived.Test.YtjigckibbjfkmaaGreatDoorBh
import Derived.Test.YtjigckibbjfkmaaGreatDoorMo
namespace Go.Proofs.YtjigckibbjfkmaaGreatDoor
open Go.RowKit
set_option maxRecDepth 100000
set_option linter.unusedSimpArgs false
set_option linter.unusedVariables false
/-- What the reference's Decode answers. -/
def RcM (k : Int) (l : List UInt8) (e : Ending) : Prop := ∃ (x : MsgS) (c : Bool), e = .returned (.tuple #[mv x, .bool c]) ∧ SzT x ∧ ((c = true ∧ decM k l = some (toM x)) ∨ (c = false ∧ x = noM ∧ decM k l = none))
theorem unV_is (x : Option (List UInt8)) : unV x = .tuple #[.string ⟨(x.getD []).toArray⟩, .bool x.isSome] := by cases x <;> rfl
theorem rres_is (l : List UInt8) : rres l = unV (decL l) := by
  unfold rres
  rw [dec_ref]
  cases refDec l <;> rfl
theorem rDec_c (l : List UInt8) (hl : l.length ≤ 1000) (w : World) : Calls Tryz.prog 37 #[.string ⟨l.toArray⟩] w fun e w' => e = .returned (.tuple #[.string ⟨((decL l).getD []).toArray⟩, .bool (decL l).isSome]) ∧ Below w.heap.size w w' := by
  have h := rDecode_c ⟨l.toArray⟩ (by rw [bsz]; omega) w
  rw [rres_is, unV_is, bldl] at h
  exact h
theorem rPart_c (l : List UInt8) (c : UInt8) (w : World) : Calls Tryz.prog 36 #[.string ⟨l.toArray⟩, .string ⟨#[c, 61]⟩] w fun e w' => e = .returned (.tuple #[.string ⟨((partC c l).getD []).toArray⟩, .bool (partC c l).isSome]) ∧ Below w.heap.size w w' := by
  have h := part_c ⟨l.toArray⟩ c w
  rw [unV_is, bldl] at h
  exact h
theorem rUn_c (l : List UInt8) (hl : l.length ≤ 1000) (w : World) : Calls Tryz.prog 17 #[.string ⟨l.toArray⟩] w fun e w' => e = .returned (.tuple #[.string ⟨((unescR l).getD []).toArray⟩, .bool (unescR l).isSome]) ∧ Below w.heap.size w w' := by
  have h := rUnesc_c ⟨l.toArray⟩ (by rw [bsz]; omega) w
  rw [unV_is, bldl] at h
  exact h
theorem rDg_c (l : List UInt8) (w : World) : Calls Tryz.prog 38 #[.string ⟨l.toArray⟩] w fun e w' => e = .returned (.int .i64 (digN l)) ∧ w' = w := by
  have h := rdig_c ⟨l.toArray⟩ w
  rw [bldl] at h
  exact h
theorem part_le (c : UInt8) (l : List UInt8) : ((partC c l).getD []).length ≤ l.length := by
  cases h : partC c l with
  | none => simp
  | some r =>
    have := partC_some _ _ _ h
    rw [this]
    simp
    omega
theorem dec_le (l : List UInt8) : ((decL l).getD []).length ≤ l.length := b64_le l
/-- An own row's block and its cells. -/
theorem own_blk {w : World} {base : Nat} {e : TypeId} {n g cap : Nat} {xs : List Value} (h : w.ownsRow base e 1 (.slice (some ⟨g, 0, none⟩) n cap) n xs) : base ≤ g ∧ ∃ cur, w.heap[g]? = some (.cells cur e (0, 0)) ∧ ∀ (i : Nat) (v : Value), xs[i]? = some v → cur[i]? = some v := by
  rcases h.2 with ⟨q, _⟩ | ⟨g', cap', cur, e, hb, hk, _, _, _, ht⟩
  · cases q
  · cases e
    refine ⟨hb, cur, hk, fun i v hi => ?_⟩
    rw [← ht, List.getElem?_take] at hi
    split at hi
    · simpa using hi
    · cases hi
def okB (b : Bool) (m : Msg) : Option Msg := if b = true then okM m else none
theorem dm1 (s c d : List UInt8) (h : splitL 44 s = [[110], [], c, d]) : decM 1 s = okB (((partC 110 c).isSome && (unescR ((partC 110 c).getD [])).isSome) && (partC 114 d).isSome) ⟨1, (unescR ((partC 110 c).getD [])).getD [], (partC 114 d).getD [], [], 0, [], [], []⟩ := by
  unfold decM okB
  rw [if_pos rfl, h]
  simp only [and_self, if_true]
  cases partC 110 c with
  | none => simp
  | some c' =>
    cases partC 114 d with
    | none => simp
    | some d' =>
      simp only [Option.getD_some, Option.isSome_some, Bool.true_and, Bool.and_true]
      cases unescR c' <;> simp
theorem dm1n (s : List UInt8) (h : ∀ c d, splitL 44 s ≠ [[110], [], c, d]) : decM 1 s = none := by
  unfold decM
  rw [if_pos rfl]
  split
  · rename_i a b c d hs
    rw [if_neg]
    rintro ⟨rfl, rfl⟩
    exact h c d hs
  · rfl
theorem dm2 (s a b c : List UInt8) (h : splitL 44 s = [a, b, c]) : decM 2 s = okB ((((partC 114 a).isSome && (partC 115 b).isSome) && (decL ((partC 115 b).getD [])).isSome) && (partC 105 c).isSome) ⟨2, [], (partC 114 a).getD [], (decL ((partC 115 b).getD [])).getD [], digN ((partC 105 c).getD []), [], [], []⟩ := by
  unfold decM okB
  rw [if_neg (by decide), if_pos rfl, h]
  dsimp only
  cases partC 114 a with
  | none => simp
  | some a' =>
    cases partC 115 b with
    | none => simp
    | some b' =>
      cases partC 105 c with
      | none => simp
      | some c' =>
        simp only [Option.getD_some, Option.isSome_some, Bool.true_and, Bool.and_true]
        cases decL b' <;> simp
theorem dm2n (s : List UInt8) (h : (splitL 44 s).length ≠ 3) : decM 2 s = none := by
  unfold decM
  rw [if_neg (by decide), if_pos rfl]
  split
  · rename_i hs
    rw [hs] at h
    exact absurd rfl h
  · rfl
theorem dm3 (s b c : List UInt8) (h : splitL 44 s = [[99, 61, 98, 105, 119, 115], b, c]) : decM 3 s = okB (((partC 114 b).isSome && (partC 112 c).isSome) && (decL ((partC 112 c).getD [])).isSome) ⟨3, [], (partC 114 b).getD [], [], 0, (decL ((partC 112 c).getD [])).getD [], [], []⟩ := by
  unfold decM okB
  rw [if_neg (by decide), if_neg (by decide), if_pos rfl, h]
  simp only [if_true]
  cases partC 114 b with
  | none => simp
  | some b' =>
    cases partC 112 c with
    | none => simp
    | some c' =>
      simp only [Option.getD_some, Option.isSome_some, Bool.true_and, Bool.and_true]
      cases decL c' <;> simp
theorem dm3n (s : List UInt8) (h : ∀ b c, splitL 44 s ≠ [[99, 61, 98, 105, 119, 115], b, c]) : decM 3 s = none := by
  unfold decM
  rw [if_neg (by decide), if_neg (by decide), if_pos rfl]
  split
  · rename_i a b c hs
    rw [if_neg]
    rintro rfl
    exact h b c hs
  · rfl
theorem dm4n (s : List UInt8) (h : (splitL 44 s).length ≠ 1) : decM 4 s = none := by
  unfold decM
  rw [if_neg (by decide), if_neg (by decide), if_neg (by decide), if_pos rfl]
  split
  · rename_i hs
    rw [hs] at h
    exact absurd rfl h
  · rfl
theorem dm4e (s : List UInt8) (h : (splitL 44 s).length = 1) (he : (partC 101 s).isSome = true) : decM 4 s = okB true ⟨4, [], [], [], 0, [], [], (partC 101 s).getD []⟩ := by
  unfold decM okB
  rw [if_neg (by decide), if_neg (by decide), if_neg (by decide), if_pos rfl]
  obtain ⟨x, hx⟩ := List.length_eq_one_iff.1 h
  rw [hx]
  cases hp : partC 101 s with
  | none => rw [hp] at he; cases he
  | some f => simp
theorem dm4v (s : List UInt8) (h : (splitL 44 s).length = 1) (he : (partC 101 s).isSome = false) : decM 4 s = okB ((partC 118 s).isSome && (decL ((partC 118 s).getD [])).isSome) ⟨4, [], [], [], 0, [], (decL ((partC 118 s).getD [])).getD [], []⟩ := by
  unfold decM okB
  rw [if_neg (by decide), if_neg (by decide), if_neg (by decide), if_pos rfl]
  obtain ⟨x, hx⟩ := List.length_eq_one_iff.1 h
  rw [hx]
  cases hp : partC 101 s with
  | some f => rw [hp] at he; cases he
  | none =>
    simp only
    cases partC 118 s with
    | none => simp
    | some v =>
      simp only [Option.getD_some, Option.isSome_some, Bool.true_and]
      cases decL v <;> simp
theorem dm0 (k : Int) (s : List UInt8) (h1 : ¬ k = 1) (h2 : ¬ k = 2) (h3 : ¬ k = 3) (h4 : ¬ k = 4) : decM k s = none := by
  unfold decM
  rw [if_neg h1, if_neg h2, if_neg h3, if_neg h4]
theorem dfs {s : ByteArray} {l : List UInt8} (h : ¬ s.data.toList = l) : (s.toList == l) = false ∧ ¬ s.toList = l := by
  rw [ByteArray.toList_eq]
  exact ⟨beq_eq_false_iff_ne.2 h, h⟩
end Go.Proofs.YtjigckibbjfkmaaGreatDoor

/- A text split at a byte, without program: splitL is what strings.Split answers at a separator of one byte. -/
import Derived.Lib.SplitLaws
import Derived.Lib.Join
namespace Go.Proofs.YtjigckibbjfkmaaGreatDoor
open Go.Lib
set_option linter.unusedSimpArgs false
set_option linter.unusedVariables false
/-- One sign more ahead of the first part. -/
def consF (b : UInt8) : List (List UInt8) → List (List UInt8)
  | [] => [[b]]
  | h :: t => (b :: h) :: t
/-- A text's parts, parted by a byte. -/
def splitL (c : UInt8) : List UInt8 → List (List UInt8)
  | [] => [[]]
  | b :: r => if b = c then [] :: splitL c r else consF b (splitL c r)
theorem splitL_ne (c : UInt8) (l : List UInt8) : splitL c l ≠ [] := by
  cases l with
  | nil => simp [splitL]
  | cons b r =>
    unfold splitL
    split
    · simp
    · cases splitL c r <;> simp [consF]
theorem splitL_no (c : UInt8) : ∀ l : List UInt8, c ∉ l → splitL c l = [l]
  | [], _ => rfl
  | b :: r, h => by
    have h1 : b ≠ c := fun e => h (by simp [e])
    have h2 : c ∉ r := fun e => h (by simp [e])
    rw [splitL, if_neg h1, splitL_no c r h2]
    rfl
theorem splitL_app (c : UInt8) : ∀ (p r : List UInt8), c ∉ p → splitL c (p ++ c :: r) = p :: splitL c r
  | [], r, _ => by rw [List.nil_append, splitL, if_pos rfl]
  | b :: p, r, h => by
    have h1 : b ≠ c := fun e => h (by simp [e])
    have h2 : c ∉ p := fun e => h (by simp [e])
    rw [List.cons_append, splitL, if_neg h1, splitL_app c p r h2]
    rfl
/-- Parts joined again. -/
def joinL (c : UInt8) : List (List UInt8) → List UInt8
  | [] => []
  | [p] => p
  | p :: q :: t => p ++ c :: joinL c (q :: t)
theorem joinL_cons (c : UInt8) (p : List UInt8) (t : List (List UInt8)) (h : t ≠ []) : joinL c (p :: t) = p ++ c :: joinL c t := by
  cases t with
  | nil => exact absurd rfl h
  | cons q t => rfl
theorem joinL_consF (c b : UInt8) (t : List (List UInt8)) : joinL c (consF b t) = b :: joinL c t := by
  cases t with
  | nil => rfl
  | cons h t =>
    cases t with
    | nil => rfl
    | cons q t => rfl
theorem join_split (c : UInt8) : ∀ l : List UInt8, joinL c (splitL c l) = l
  | [] => rfl
  | b :: r => by
    unfold splitL
    split
    · rename_i h
      subst h
      rw [joinL_cons _ _ _ (splitL_ne _ _), join_split]
      rfl
    · rw [joinL_consF, join_split]
theorem split_join (c : UInt8) : ∀ ps : List (List UInt8), ps ≠ [] → (∀ p ∈ ps, c ∉ p) → splitL c (joinL c ps) = ps
  | [], h, _ => absurd rfl h
  | [p], _, h => splitL_no c p (h p (by simp))
  | p :: q :: t, _, h => by
    rw [joinL_cons _ _ _ (by simp), splitL_app c p _ (h p (by simp)), split_join c (q :: t) (by simp) (fun x hx => h x (by simp at hx ⊢; exact .inr hx))]
theorem split_mem (c : UInt8) : ∀ (l : List UInt8), ∀ p ∈ splitL c l, c ∉ p
  | [], p, h => by
    rw [splitL, List.mem_singleton] at h
    subst h
    simp
  | b :: r, p, h => by
    have ih := split_mem c r
    unfold splitL at h
    split at h
    · rcases List.mem_cons.1 h with rfl | h
      · simp
      · exact ih p h
    · rename_i hbc
      cases hs : splitL c r with
      | nil => exact absurd hs (splitL_ne _ _)
      | cons q t =>
        rw [hs] at h ih
        rcases List.mem_cons.1 h with rfl | h
        · intro hc
          rcases List.mem_cons.1 hc with e | hc
          · exact hbc e.symm
          · exact ih q (by simp) hc
        · exact ih p (List.mem_cons_of_mem _ h)
theorem split_len (c : UInt8) : ∀ l : List UInt8, (splitL c l).length ≤ l.length + 1
  | [] => Nat.le_refl _
  | b :: r => by
    have ih := split_len c r
    unfold splitL
    split
    · simp only [List.length_cons]; omega
    · cases hs : splitL c r with
      | nil => exact absurd hs (splitL_ne _ _)
      | cons q t => rw [hs] at ih; simp only [consF, List.length_cons] at ih ⊢; omega
theorem split_part (c : UInt8) : ∀ (l : List UInt8), ∀ p ∈ splitL c l, p.length ≤ l.length
  | [], p, h => by
    rw [splitL, List.mem_singleton] at h
    subst h
    simp
  | b :: r, p, h => by
    have ih := split_part c r
    unfold splitL at h
    split at h
    · rcases List.mem_cons.1 h with rfl | h
      · simp
      · have := ih p h; simp; omega
    · cases hs : splitL c r with
      | nil => exact absurd hs (splitL_ne _ _)
      | cons q t =>
        rw [hs] at h ih
        rcases List.mem_cons.1 h with rfl | h
        · have := ih q (by simp); simp; omega
        · have := ih p (List.mem_cons_of_mem _ h); simp; omega
theorem index_eq (c : UInt8) (r : List UInt8) : index (c :: r) [c] = 0 := by simp [index]
theorem index_ne (b c : UInt8) (r : List UInt8) (h : b ≠ c) : index (b :: r) [c] = if index r [c] == -1 then -1 else index r [c] + 1 := by
  have : ([c].isPrefixOf (b :: r)) = false := by simp [List.isPrefixOf, Ne.symm h]
  rw [index, this]
  rfl
theorem splitK_is (c : UInt8) : ∀ l : List UInt8, splitK [c] 0 (count l [c]) l = splitL c l
  | [] => by
    have : count ([] : List UInt8) [c] = 0 := by rw [count_one]; rfl
    rw [this]
    rfl
  | b :: r => by
    have ih := splitK_is c r
    by_cases h : b = c
    · subst h
      rw [count_cons_eq, Nat.add_comm, splitK, index_eq, splitL, if_pos rfl, ← ih]
      rfl
    · rw [count_cons_ne _ _ _ h, splitL, if_neg h, ← ih]
      cases hk : count r [c] with
      | zero => rfl
      | succ k =>
        have hpos : index r [c] ≠ -1 := fun e => by
          have := count_miss e
          omega
        have hge : -1 ≤ index r [c] := by rw [index_one]; exact indexByte_ge _ _
        obtain ⟨i, hi⟩ : ∃ i : Nat, index r [c] = (i : Int) := ⟨(index r [c]).toNat, by omega⟩
        have e1 : (index r [c] == -1) = false := by simpa using hpos
        have e2 : index (b :: r) [c] = (i : Int) + 1 := by rw [index_ne _ _ _ h, e1, hi]; rfl
        have e3 : (index (b :: r) [c] == -1) = false := by rw [e2]; simp; omega
        rw [splitK, e3, splitK, e1, e2, hi]
        have e4 : ((i : Int) + 1).toNat = i + 1 := by omega
        rw [e4]
        simp [consF]
/-- The parts as strings. -/
def splitS (c : UInt8) (s : ByteArray) : List ByteArray := (splitL c s.data.toList).map fun p => ⟨p.toArray⟩
theorem splitB_is (c : UInt8) (s : ByteArray) : splitB ⟨#[c]⟩ 0 (countB s ⟨#[c]⟩) s = splitS c s := by
  have h := splitB_data ⟨#[c]⟩ 0 (countB s ⟨#[c]⟩) s
  have h2 : countB s ⟨#[c]⟩ = count s.data.toList [c] := rfl
  have h3 : (⟨#[c]⟩ : ByteArray).data.toList = [c] := rfl
  rw [h3] at h
  rw [h2] at h ⊢
  rw [splitK_is] at h
  unfold splitS
  rw [← h, List.map_map]
  conv => lhs; rw [← List.map_id (splitB ⟨#[c]⟩ 0 (count s.data.toList [c]) s)]
  apply List.map_congr_left
  intro x _
  simp
theorem splitS_length (c : UInt8) (s : ByteArray) : (splitS c s).length = countB s ⟨#[c]⟩ + 1 := by
  rw [← splitB_is, splitB_all ⟨#[c]⟩ (show 1 ≤ (1 : Nat) from Nat.le_refl _) 0 _ s rfl]
end Go.Proofs.YtjigckibbjfkmaaGreatDoor

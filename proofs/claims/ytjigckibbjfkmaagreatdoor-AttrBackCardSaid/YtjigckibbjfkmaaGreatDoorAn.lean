/- Names' signs without program: what the library's ReplaceAll, Cut, Contains, Trim, IndexByte and LastIndex answer, in the words of messages. -/
import Derived.Test.YtjigckibbjfkmaaGreatDoorAt
import Derived.Lib.ReplaceLaws
import Derived.Lib.Replace
import Derived.Lib.LastIndexLaws
import Derived.Lib.SlTrimSet
namespace Go.Proofs.YtjigckibbjfkmaaGreatDoor
open Go.Lib
set_option maxRecDepth 100000
set_option linter.unusedSimpArgs false
set_option linter.unusedVariables false
/-- One byte told by others, each time. -/
def subL (c : UInt8) (new : List UInt8) (l : List UInt8) : List UInt8 := l.flatMap fun b => if b = c then new else [b]
theorem replK_is (c : UInt8) (new : List UInt8) : ∀ l : List UInt8, replaceK [c] new (count l [c]) l = subL c new l
  | [] => by
    have : count ([] : List UInt8) [c] = 0 := by rw [count_one]; rfl
    rw [this]
    rfl
  | b :: r => by
    have ih := replK_is c new r
    by_cases h : b = c
    · subst h
      have e : subL b new (b :: r) = new ++ subL b new r := by simp [subL]
      rw [count_cons_eq, Nat.add_comm, replaceK, index_eq, e, ← ih]
      simp
    · have e : subL c new (b :: r) = b :: subL c new r := by simp [subL, h]
      rw [count_cons_ne _ _ _ h, e, ← ih]
      cases hk : count r [c] with
      | zero => rfl
      | succ k =>
        have hpos : index r [c] ≠ -1 := fun e => by
          have := count_miss e
          omega
        have hge : -1 ≤ index r [c] := by rw [index_one]; exact indexByte_ge _ _
        obtain ⟨i, hi⟩ : ∃ i : Nat, index r [c] = (i : Int) := ⟨(index r [c]).toNat, by omega⟩
        have e1 : (index r [c] == -1) = false := by simpa using hpos
        have e2 : index (b :: r) [c] = (i : Int) + 1 := by rw [index_ne _ _ _ h, e1, hi]; rfl
        have e3 : (index (b :: r) [c] == -1) = false := by rw [e2]; simp; omega
        rw [replaceK, e3, replaceK, e1, e2, hi]
        have e4 : ((i : Int) + 1).toNat = i + 1 := by omega
        rw [e4]
        simp
theorem repl_is (c : UInt8) (new l : List UInt8) (h : [c] ≠ new) : replaceAll l [c] new = subL c new l := by
  unfold replaceAll replace
  rw [if_neg (by simpa using h)]
  unfold replaceNum
  rw [if_pos (.inl (by decide)), replK_is]
theorem esc_two (l : List UInt8) : subL 44 [61, 50, 67] (subL 61 [61, 51, 68] l) = escL l := by
  induction l with
  | nil => rfl
  | cons b r ih =>
    have e : subL 61 [61, 51, 68] (b :: r) = (if b = 61 then [61, 51, 68] else [b]) ++ subL 61 [61, 51, 68] r := by simp [subL]
    have e2 : ∀ x y : List UInt8, subL 44 [61, 50, 67] (x ++ y) = subL 44 [61, 50, 67] x ++ subL 44 [61, 50, 67] y := fun x y => by simp [subL]
    rw [e, e2, ih]
    show _ = escB b ++ escL r
    congr 1
    unfold escB
    by_cases h1 : b = 61
    · subst h1; decide
    · rw [if_neg h1]
      by_cases h2 : b = 44
      · subst h2; decide
      · simp [subL, h1, h2]
theorem sub_len (c : UInt8) (new : List UInt8) (h : new.length = 3) : ∀ l : List UInt8, (subL c new l).length ≤ 3 * l.length
  | [] => Nat.le_refl _
  | b :: r => by
    have ih := sub_len c new h r
    have e : subL c new (b :: r) = (if b = c then new else [b]) ++ subL c new r := by simp [subL]
    rw [e, List.length_append]
    split <;> simp <;> omega
theorem esc_len (l : List UInt8) : (escL l).length ≤ 3 * l.length := by
  induction l with
  | nil => exact Nat.le_refl _
  | cons b r ih =>
    show (escB b ++ escL r).length ≤ _
    rw [List.length_append]
    have : (escB b).length ≤ 3 := by unfold escB; split; exact Nat.le_refl _; split; exact Nat.le_refl _; exact (show 1 ≤ 3 by decide)
    simp; omega
/-! ### What stands ahead of the first '=' -/
theorem cut_no (c : UInt8) (s : List UInt8) (h : (cut s [c]).2.2 = false) : c ∉ s ∧ cut s [c] = (s, [], false) := by
  unfold cut at h ⊢
  split at h
  · cases h
  · rename_i hi
    rw [if_neg hi]
    refine ⟨fun hm => hi ?_, rfl⟩
    rw [index_one]
    clear h hi
    induction s with
    | nil => simp at hm
    | cons b r ih =>
      unfold indexByte
      by_cases hb : b = c
      · rw [if_pos (by simpa using hb)]; decide
      · have hr : c ∈ r := by
          rcases List.mem_cons.1 hm with e | e
          · exact absurd e.symm hb
          · exact e
        have := ih hr
        rw [if_neg (by simpa using hb), if_neg (by simp; omega)]
        omega
theorem cut_is (c : UInt8) : ∀ s : List UInt8, (cut s [c]).2.2 = true → s = (cut s [c]).1 ++ c :: (cut s [c]).2.1 ∧ c ∉ (cut s [c]).1
  | [], h => by simp [cut, index] at h
  | b :: r, h => by
    by_cases hb : b = c
    · subst hb
      have e : cut (b :: r) [b] = ([], r, true) := by unfold cut; rw [index_eq]; rfl
      rw [e]
      simp
    · unfold cut at h ⊢
      rw [index_ne _ _ _ hb] at h ⊢
      by_cases hq : index r [c] = -1
      · rw [hq] at h; simp at h
      · have hge : -1 ≤ index r [c] := by rw [index_one]; exact indexByte_ge _ _
        obtain ⟨i, hi⟩ : ∃ i : Nat, index r [c] = (i : Int) := ⟨(index r [c]).toNat, by omega⟩
        have e1 : ((i : Int) == -1) = false := by simp
        have hr : cut r [c] = (r.take i, r.drop (i + 1), true) := by
          unfold cut
          rw [hi, if_pos (by omega)]
          rfl
        have ih := cut_is c r (by rw [hr])
        rw [hr] at ih
        have e5 : (if ((i : Int) == -1) = true then (-1 : Int) else (i : Int) + 1) = (i : Int) + 1 := by rw [e1]; rfl
        rw [hi, e5]
        rw [if_pos (by omega)]
        have e4 : ((i : Int) + 1).toNat = i + 1 := by omega
        rw [e4]
        simp only [List.take_succ_cons, List.drop_succ_cons, List.length_singleton]
        refine ⟨?_, ?_⟩
        · rw [List.cons_append, ← ih.1]
        · simp only [List.mem_cons, not_or]
          exact ⟨fun q => hb q.symm, ih.2⟩
theorem contains_is (c : UInt8) (l : List UInt8) : contains l [c] = decide (c ∈ l) := by
  unfold contains
  rw [index_one]
  congr 1
  induction l with
  | nil => simp [indexByte]
  | cons b r ih =>
    have hge := indexByte_ge r c
    unfold indexByte
    by_cases hb : b = c
    · subst hb; simp
    · rw [if_neg (by simpa using hb)]
      have hb' : ¬ c = b := fun q => hb q.symm
      have : (c ∈ b :: r) = (c ∈ r) := by simp [hb']
      rw [this, ← ih]
      split
      · rename_i h; have := beq_iff_eq.1 h; simp [this]
      · rename_i h
        have : indexByte r c ≠ -1 := by simpa using h
        simp only [eq_iff_iff]
        omega
theorem indexByte_no (c : UInt8) (l : List UInt8) : (indexByte l c < 0) ↔ c ∉ l := by
  have h := contains_is c l
  unfold contains at h
  rw [index_one] at h
  have h2 := decide_eq_decide.1 h
  rw [← h2]
  omega
theorem unesc_plains : ∀ (h r : List UInt8), 44 ∉ h → 61 ∉ h → unescR (h ++ r) = (unescR r).map (h ++ ·)
  | [], r, _, _ => by simp
  | b :: h, r, h1, h2 => by
    simp only [List.mem_cons, not_or] at h1 h2
    rw [List.cons_append, unesc_plain b _ (fun q => h1.1 q.symm) (fun q => h2.1 q.symm), unesc_plains h r h1.2 h2.2]
    cases unescR r <;> rfl
theorem unesc_bad : ∀ (h r : List UInt8), 44 ∈ h → 61 ∉ h → unescR (h ++ r) = none
  | [], r, h1, _ => by simp at h1
  | b :: h, r, h1, h2 => by
    simp only [List.mem_cons, not_or] at h2
    by_cases hb : b = 44
    · subst hb; exact unesc_comma _
    · have h3 : 44 ∈ h := by
        rcases List.mem_cons.1 h1 with e | e
        · exact absurd e.symm hb
        · exact e
      rw [List.cons_append, unesc_plain b _ hb (fun q => h2.1 q.symm), unesc_bad h r h3 h2.2]
      rfl
theorem three_pre (r : List UInt8) : three r = if hasPrefix r [50, 67] = true then some (44, r.drop 2) else if hasPrefix r [51, 68] = true then some (61, r.drop 2) else none := by
  unfold three hasPrefix
  match r with
  | [] => rfl
  | [a] => simp [List.isPrefixOf]
  | a :: b :: t =>
    by_cases h1 : a = 50
    · subst h1
      by_cases h2 : b = 67
      · subst h2; simp [List.isPrefixOf]
      · have : ((67 : UInt8) == b) = false := by simpa using fun q : 67 = b => h2 q.symm
        simp [List.isPrefixOf, this, h2]
    · by_cases h3 : a = 51
      · subst h3
        by_cases h2 : b = 68
        · subst h2; simp [List.isPrefixOf]
        · have : ((68 : UInt8) == b) = false := by simpa using fun q : 68 = b => h2 q.symm
          simp [List.isPrefixOf, this, h2]
      · have e1 : ((50 : UInt8) == a) = false := by simpa using fun q : 50 = a => h1 q.symm
        have e2 : ((51 : UInt8) == a) = false := by simpa using fun q : 51 = a => h3 q.symm
        simp [List.isPrefixOf, e1, e2, h1, h3]
/-! ### Letters -/
def letS : ByteArray := ⟨#[97, 98, 99, 100, 101, 102, 103, 104, 105, 106, 107, 108, 109, 110, 111, 112, 113, 114, 115, 116, 117, 118, 119, 120, 121, 122, 45]⟩
def isLet (b : UInt8) : Bool := decide ((97 ≤ b.toNat ∧ b.toNat ≤ 122) ∨ b = 45)
theorem in_let (b : UInt8) : letS.data.toList.contains b = isLet b := by
  have : ∀ k : Fin 256, letS.data.toList.contains (UInt8.ofNat k.val) = isLet (UInt8.ofNat k.val) := by decide +kernel
  have h := this ⟨b.toNat, b.toNat_lt⟩
  simpa using h
theorem dropW_nilA {p : UInt8 → Bool} : ∀ {l : List UInt8}, l.dropWhile p = [] ↔ l.all p = true := by
  intro l
  induction l with
  | nil => simp
  | cons b r ih =>
    by_cases h : p b = true
    · rw [List.dropWhile_cons_of_pos h, ih]; simp [h]
    · rw [List.dropWhile_cons_of_neg h]; simp [h]
theorem trim_let (l : List UInt8) : trimS l letS.data.toList = [] ↔ l.all isLet = true := by
  have hp : (fun b => letS.data.toList.contains b) = isLet := funext in_let
  unfold trimS trimLeftS trimRightS
  simp only [hp]
  constructor
  · intro h
    rw [dropW_nilA] at h
    rw [List.all_reverse] at h
    by_cases ha : l.all isLet = true
    · exact ha
    · exfalso
      have h1 : (l.reverse.dropWhile isLet) ≠ [] := by
        intro q
        rw [dropW_nilA, List.all_reverse] at q
        exact ha q
      cases hd : l.reverse.dropWhile isLet with
      | nil => exact h1 hd
      | cons b r =>
        have : isLet b = false := by
          have := List.head?_dropWhile_not isLet l.reverse
          rw [hd] at this
          simpa using this
        rw [hd, List.all_cons, this] at h
        cases h
  · intro h
    have : l.reverse.dropWhile isLet = [] := by rw [dropW_nilA, List.all_reverse]; exact h
    rw [this]; rfl
theorem failOk_is (l : List UInt8) : failOk l = (l.all isLet && decide (1 ≤ l.length ∧ l.length ≤ 100)) := rfl
/-! ### What stands ahead of a proof -/
/-- Up to the last mark of a proof. -/
def unprN (l : List UInt8) : Nat → List UInt8
  | 0 => l
  | k + 1 => if occAt l [44, 112, 61] k = true then l.take k else unprN l k
def unprL (l : List UInt8) : List UInt8 := unprN l (l.length - 2)
theorem unpr_occ (l : List UInt8) : ∀ k, unprN l k = if lastOcc l [44, 112, 61] k < 0 then l else l.take (lastOcc l [44, 112, 61] k).toNat
  | 0 => rfl
  | k + 1 => by
    unfold unprN lastOcc
    split
    · rw [if_neg (by omega)]; simp
    · exact unpr_occ l k
theorem unpr_last (l : List UInt8) : unprL l = if lastIndex l [44, 112, 61] < 0 then l else l.take (lastIndex l [44, 112, 61]).toNat := by
  unfold unprL lastIndex
  rw [unpr_occ]
  have h3 : ([44, 112, 61] : List UInt8).length = 3 := rfl
  rw [h3]
  by_cases h : 3 ≤ l.length
  · have : l.length - 3 + 1 = l.length - 2 := by omega
    simp only [if_pos h, this]
  · have : l.length - 2 = 0 := by omega
    simp only [if_neg h, this]
    rfl
end Go.Proofs.YtjigckibbjfkmaaGreatDoor

/- Audit's lines without program: what a text is read as. -/
import Derived.Test.YtcophjjjkonpjaaDoorDe
import Derived.Test.YtcophjjjkonpjaaDoorTb
namespace Go.Proofs.YtcophjjjkonpjaaDoor
open Go.Lib
set_option maxRecDepth 100000
set_option linter.unusedSimpArgs false
set_option linter.unusedVariables false
/-- A kind by its name; 0. -/
def kindA (h : List UInt8) : Nat := if h = nm1.data.toList then 1 else if h = nm2.data.toList then 2 else if h = nm3.data.toList then 3 else if h = nm4.data.toList then 4 else if h = nm5.data.toList then 5 else 0
theorem kindA_is (h : List UInt8) (hk : kindA h ≠ 0) : (nmB (kindA h)).data.toList = h ∧ kindA h ≤ 5 := by
  unfold kindA at hk ⊢
  split
  · rename_i e; exact ⟨e.symm, by decide⟩
  split
  · rename_i e; exact ⟨e.symm, by decide⟩
  split
  · rename_i e; exact ⟨e.symm, by decide⟩
  split
  · rename_i e; exact ⟨e.symm, by decide⟩
  split
  · rename_i e; exact ⟨e.symm, by decide⟩
  · rename_i h1 h2 h3 h4 h5
    rw [if_neg h1, if_neg h2, if_neg h3, if_neg h4, if_neg h5] at hk
    exact absurd rfl hk
theorem kindA_nm (k : Int) : (kindA (nmB k).data.toList : Int) = if 1 ≤ k ∧ k ≤ 5 then k else 0 := by
  by_cases h : 1 ≤ k ∧ k ≤ 5
  · rw [if_pos h]
    have : k = 1 ∨ k = 2 ∨ k = 3 ∨ k = 4 ∨ k = 5 := by omega
    rcases this with rfl | rfl | rfl | rfl | rfl <;> decide
  · rw [if_neg h]
    have hn : nmB k = nm0 := by unfold nmB; simp only [show ¬ k = 1 by omega, show ¬ k = 2 by omega, show ¬ k = 3 by omega, show ¬ k = 4 by omega, show ¬ k = 5 by omega, if_false]
    rw [hn]
    decide
def okA (c v : Int) : Bool := decide (1 ≤ c ∧ 0 ≤ v ∧ v ≤ 4294967295)
/-- A line. -/
def readA (l : List UInt8) : Option Rn := match splitL 32 l with
  | [h, a, b, c, d] => if kindA h = 0 then none else match numA a, numA b, numA c, numA d with
    | some i, some s, some n, some v => if okA n v = true then some ⟨(kindA h : Int), i, s, n, v⟩ else none
    | _, _, _, _ => none
  | _ => none
inductive RdR where
  | ok (rs : List Rn)
  | bad (n : Nat)
/-- Lines. -/
def rdA : Nat → List (List UInt8) → RdR
  | n, [] => .ok []
  | n, [p] => if p = [] then .ok [] else .bad n
  | n, p :: q :: t => match readA p with
    | none => .bad n
    | some r => if 10000 < n then .bad n else match rdA (n + 1) (q :: t) with
      | .ok rs => .ok (r :: rs)
      | .bad m => .bad m
def lineP (r : Rn) : List UInt8 := joinL 32 [(nmB r.k).data.toList, itoa r.i, itoa r.s, itoa r.c, itoa r.v]
theorem lineB_P (r : Rn) : lineB r = lineP r ++ [10] := by
  simp [lineB, lineP, joinL]
theorem readA_line (l : List UInt8) (r : Rn) (h : readA l = some r) : lineP r = l ∧ (1 ≤ r.k ∧ r.k ≤ 5) ∧ 1 ≤ r.c ∧ WfN [r] := by
  unfold readA at h
  have hj := join_split 32 l
  split at h
  · rename_i hh a b c d hs
    rw [hs] at hj
    split at h
    · cases h
    · rename_i hk
      split at h
      · rename_i i s n v ha hb hc hd
        split at h
        · rename_i hok
          obtain rfl := Option.some.inj h
          obtain ⟨k1, k2⟩ := kindA_is hh hk
          obtain ⟨a1, a2⟩ := numA_some a i ha
          obtain ⟨b1, b2⟩ := numA_some b s hb
          obtain ⟨c1, c2⟩ := numA_some c n hc
          obtain ⟨d1, d2⟩ := numA_some d v hd
          simp only [okA, decide_eq_true_eq] at hok
          refine ⟨?_, ⟨by show (1 : Int) ≤ (kindA hh : Int); omega, by show (kindA hh : Int) ≤ 5; omega⟩, hok.1, ?_⟩
          · unfold lineP
            simp only
            rw [k1, a1, b1, c1, d1]
            exact hj
          · intro x hx
            obtain rfl := List.mem_singleton.1 hx
            exact ⟨a2, b2, c2, hok.2⟩
        · cases h
      · cases h
  · cases h
theorem rdA_text : ∀ (ps : List (List UInt8)) (n : Nat) (rs : List Rn), ps ≠ [] → rdA n ps = .ok rs → textB rs = joinL 10 ps ∧ WfN rs ∧ (∀ r ∈ rs, 1 ≤ r.c) ∧ rs.length + 1 = ps.length
  | [], _, _, h, _ => absurd rfl h
  | [p], n, rs, _, h => by
    simp only [rdA] at h
    split at h
    · rename_i e
      injection h with h
      subst h
      subst e
      exact ⟨rfl, fun r hr => by simp at hr, fun r hr => by simp at hr, rfl⟩
    · cases h
  | p :: q :: t, n, rs, _, h => by
    simp only [rdA] at h
    split at h
    · cases h
    · rename_i r hr
      split at h
      · cases h
      · split at h
        · rename_i rs2 h2
          injection h with h
          subst h
          obtain ⟨i1, i2, i3, i4⟩ := rdA_text (q :: t) (n + 1) rs2 (by simp) h2
          obtain ⟨r1, _, r3, r4⟩ := readA_line p r hr
          refine ⟨?_, ?_, ?_, by simp only [List.length_cons] at i4 ⊢; omega⟩
          · show lineB r ++ textB rs2 = _
            rw [i1, lineB_P, r1, joinL_cons 10 p (q :: t) (by simp)]
            simp
          · intro x hx
            rcases List.mem_cons.1 hx with rfl | hx
            · exact r4 x (by simp)
            · exact i2 x hx
          · intro x hx
            rcases List.mem_cons.1 hx with rfl | hx
            · exact r3
            · exact i3 x hx
        · cases h
theorem rdA_bad : ∀ (ps : List (List UInt8)) (n m : Nat), rdA n ps = .bad m → n ≤ m
  | [], _, _, h => by cases h
  | [p], n, m, h => by
    simp only [rdA] at h
    split at h
    · cases h
    · injection h with h; omega
  | p :: q :: t, n, m, h => by
    simp only [rdA] at h
    split at h
    · injection h with h; omega
    · split at h
      · injection h with h; omega
      · split at h
        · cases h
        · rename_i m2 h2
          injection h with h
          have := rdA_bad (q :: t) (n + 1) m2 h2
          omega
/-! ### A text read back -/
theorem itoa_mem (n : Int) (b : UInt8) (h : b ∈ itoa n) : b = 45 ∨ (48 ≤ b.toNat ∧ b.toNat ≤ 57) := by
  unfold itoa at h
  split at h
  · rcases List.mem_cons.1 h with h | h
    · exact .inl h
    · have := List.all_eq_true.1 (dec_all n.natAbs).1 b h
      simp only [isD, decide_eq_true_eq] at this
      exact .inr this
  · have := List.all_eq_true.1 (dec_all n.toNat).1 b h
    simp only [isD, decide_eq_true_eq] at this
    exact .inr this
theorem nmB_mem (k : Int) (b : UInt8) (h : b ∈ (nmB k).data.toList) : b = 63 ∨ 97 ≤ b.toNat := by
  unfold nmB at h
  repeat' split at h
  all_goals
    revert b
    decide
theorem itoa_no (n : Int) (c : UInt8) (hc : c = 10 ∨ c = 32) : c ∉ itoa n := by
  intro h
  rcases itoa_mem n c h with q | q <;> rcases hc with rfl | rfl <;> revert q <;> decide
theorem nm_no (k : Int) (c : UInt8) (hc : c = 10 ∨ c = 32) : c ∉ (nmB k).data.toList := by
  intro h
  rcases nmB_mem k c h with q | q <;> rcases hc with rfl | rfl <;> revert q <;> decide
theorem split_line (r : Rn) : splitL 32 (lineP r) = [(nmB r.k).data.toList, itoa r.i, itoa r.s, itoa r.c, itoa r.v] := by
  refine split_join 32 _ (by simp) fun p hp => ?_
  simp only [List.mem_cons, List.not_mem_nil, or_false] at hp
  rcases hp with rfl | rfl | rfl | rfl | rfl
  · exact nm_no _ _ (.inr rfl)
  all_goals exact itoa_no _ _ (.inr rfl)
theorem readA_back (r : Rn) (hw : WfN [r]) (hc : 1 ≤ r.c) : readA (lineP r) = if 1 ≤ r.k ∧ r.k ≤ 5 then some r else none := by
  obtain ⟨h1, h2, h3, h4⟩ := hw r (List.mem_singleton.2 rfl)
  unfold readA
  rw [split_line]
  simp only []
  have hk := kindA_nm r.k
  rw [numA_itoa _ h1.1 h1.2, numA_itoa _ h2.1 h2.2, numA_itoa _ h3.1 h3.2, numA_itoa _ (by omega) (by omega)]
  simp only []
  by_cases hr : 1 ≤ r.k ∧ r.k ≤ 5
  · rw [if_pos hr] at hk ⊢
    have hok : okA r.c r.v = true := by simp only [okA, decide_eq_true_eq]; omega
    rw [if_neg (by omega), if_pos hok, hk]
  · rw [if_neg hr] at hk ⊢
    rw [if_pos (by omega)]
theorem line_no10 (r : Rn) : 10 ∉ lineP r := by
  intro h
  simp only [lineP, joinL, List.mem_append, List.mem_cons] at h
  have h1 := nm_no r.k 10 (.inl rfl)
  have h2 := itoa_no r.i 10 (.inl rfl)
  have h3 := itoa_no r.s 10 (.inl rfl)
  have h4 := itoa_no r.c 10 (.inl rfl)
  have h5 := itoa_no r.v 10 (.inl rfl)
  have e : ¬ (10 : UInt8) = 32 := by decide
  simp [h1, h2, h3, h4, h5, e] at h
theorem split_text (r : Rn) (rs : List Rn) : splitL 10 (textB (r :: rs)) = lineP r :: splitL 10 (textB rs) := by
  show splitL 10 (lineB r ++ textB rs) = _
  rw [lineB_P, List.append_assoc]
  exact splitL_app 10 _ _ (line_no10 r)
/-- Are all kinds such as have names? -/
def namedR (rs : List Rn) : Bool := rs.all fun r => decide (1 ≤ r.k ∧ r.k ≤ 5)
theorem rdA_back : ∀ (rs : List Rn) (n : Nat), WfN rs → (∀ r ∈ rs, 1 ≤ r.c) → n + rs.length ≤ 10000 → (namedR rs = true → rdA n (splitL 10 (textB rs)) = .ok rs) ∧ (namedR rs = false → ∃ m, rdA n (splitL 10 (textB rs)) = .bad m)
  | [], n, _, _, _ => ⟨fun _ => rfl, fun h => by cases h⟩
  | r :: rs, n, hw, hc, hn => by
    have hr := readA_back r (fun x hx => hw x (by rw [List.mem_singleton.1 hx]; simp)) (hc r (by simp))
    simp only [List.length_cons] at hn
    obtain ⟨i1, i2⟩ := rdA_back rs (n + 1) (fun x hx => hw x (by simp [hx])) (fun x hx => hc x (by simp [hx])) (by omega)
    rw [split_text]
    have hne := splitL_ne 10 (textB rs)
    have hall : namedR (r :: rs) = (decide (1 ≤ r.k ∧ r.k ≤ 5) && namedR rs) := rfl
    generalize splitL 10 (textB rs) = ps at hne i1 i2 ⊢
    cases ps with
    | nil => exact absurd rfl hne
    | cons q t =>
      simp only [rdA]
      rw [hr, hall]
      by_cases hk : 1 ≤ r.k ∧ r.k ≤ 5
      · rw [if_pos hk]
        simp only []
        rw [if_neg (by omega)]
        simp only [decide_true, hk, Bool.true_and, and_self]
        refine ⟨fun h => by rw [i1 h], fun h => ?_⟩
        obtain ⟨m, hm⟩ := i2 h
        exact ⟨m, by rw [hm]⟩
      · rw [if_neg hk]
        simp only [hk, decide_false, Bool.false_and]
        exact ⟨fun h => (by cases h), fun _ => ⟨n, rfl⟩⟩
/-! ### Cut -/
theorem cut_split (s : List UInt8) : (Lib.cut s [10]).2.2 = false → splitL 10 s = [s] ∧ Lib.cut s [10] = (s, [], false) := by
  intro h
  unfold Lib.cut at h ⊢
  split at h
  · cases h
  · rename_i hi
    rw [if_neg hi]
    refine ⟨splitL_no 10 s fun hm => ?_, rfl⟩
    apply hi
    clear h hi
    induction s with
    | nil => simp at hm
    | cons b r ih =>
      by_cases hb : b = 10
      · subst hb; rw [index_eq]; omega
      · rw [index_ne _ _ _ hb]
        have := ih (by rcases List.mem_cons.1 hm with q | q; · exact absurd q.symm hb
                       · exact q)
        split
        · rename_i q; have q2 := beq_iff_eq.1 q; omega
        · omega
theorem cut_yes : ∀ (s : List UInt8), (Lib.cut s [10]).2.2 = true → splitL 10 s = (Lib.cut s [10]).1 :: splitL 10 (Lib.cut s [10]).2.1 ∧ (Lib.cut s [10]).2.1.length < s.length
  | [], h => by simp [Lib.cut, Lib.index] at h
  | b :: r, h => by
    by_cases hb : b = 10
    · subst hb
      have e : Lib.cut (10 :: r) [10] = ([], r, true) := by unfold Lib.cut; rw [index_eq]; rfl
      rw [e]
      simp [splitL]
    · unfold Lib.cut at h ⊢
      rw [index_ne _ _ _ hb] at h ⊢
      by_cases hq : Lib.index r [10] = -1
      · rw [hq] at h; simp at h
      · have hge : -1 ≤ Lib.index r [10] := by rw [Lib.index_one]; exact Lib.indexByte_ge _ _
        obtain ⟨i, hi⟩ : ∃ i : Nat, Lib.index r [10] = (i : Int) := ⟨(Lib.index r [10]).toNat, by omega⟩
        have e1 : (Lib.index r [10] == -1) = false := by simpa using hq
        rw [e1]
        simp only [Bool.false_eq_true, if_false]
        rw [hi]
        rw [if_pos (by omega)]
        have e2 : ((i : Int) + 1).toNat = i + 1 := by omega
        rw [e2]
        have hc : Lib.cut r [10] = (r.take i, r.drop (i + 1), true) := by
          unfold Lib.cut
          rw [hi, if_pos (by omega), Int.toNat_natCast]
          rfl
        obtain ⟨i1, i2⟩ := cut_yes r (by rw [hc])
        rw [hc] at i1 i2
        simp only at i1 i2
        refine ⟨?_, ?_⟩
        · rw [splitL, if_neg hb, i1]
          rfl
        · simp only [List.length_cons, List.length_nil] at i2 ⊢
          rw [show i + 1 + (0 + 1) = (i + 1) + 1 by omega, List.drop_succ_cons]
          omega
end Go.Proofs.YtcophjjjkonpjaaDoor

/- record.number. -/
import Derived.Test.YtkbgcmfldfbcgaaDoorRc
import Derived.Shelf.Strings.SlTrimAscii
namespace Go.Proofs.YtkbgcmfldfbcgaaDoor
open Go.RowKit
set_option maxRecDepth 100000
set_option linter.unusedSimpArgs false
set_option linter.unusedVariables false
def digS : ByteArray := ⟨#[48, 49, 50, 51, 52, 53, 54, 55, 56, 57]⟩
theorem in_dig (b : UInt8) : digS.data.toList.contains b = isD b := by
  have : ∀ k : Fin 256, digS.data.toList.contains (UInt8.ofNat k.val) = isD (UInt8.ofNat k.val) := by decide +kernel
  have h := this ⟨b.toNat, b.toNat_lt⟩
  simpa using h
theorem dropW_nil {p : UInt8 → Bool} : ∀ {l : List UInt8}, l.dropWhile p = [] ↔ l.all p = true := by
  intro l
  induction l with
  | nil => simp
  | cons b r ih =>
    by_cases h : p b = true
    · rw [List.dropWhile_cons_of_pos h, ih]; simp [h]
    · rw [List.dropWhile_cons_of_neg h]; simp [h]
theorem trim_dig (l : List UInt8) : Lib.trimS l digS.data.toList = [] ↔ l.all isD = true := by
  have hp : (fun b => digS.data.toList.contains b) = isD := funext in_dig
  unfold Lib.trimS Lib.trimLeftS Lib.trimRightS
  simp only [hp]
  constructor
  · intro h
    rw [dropW_nil] at h
    rw [List.all_reverse] at h
    by_cases ha : l.all isD = true
    · exact ha
    · exfalso
      have h1 : (l.reverse.dropWhile isD) ≠ [] := by
        intro q
        rw [dropW_nil, List.all_reverse] at q
        exact ha q
      cases hd : l.reverse.dropWhile isD with
      | nil => exact h1 hd
      | cons b r =>
        have : isD b = false := by
          have := List.head?_dropWhile_not isD l.reverse
          rw [hd] at this
          simpa using this
        rw [hd, List.all_cons, this] at h
        cases h
  · intro h
    have : l.reverse.dropWhile isD = [] := by rw [dropW_nil, List.all_reverse]; exact h
    rw [this]; rfl
theorem decFrom_val : ∀ (l : List UInt8) (acc : Nat), l.all isD = true → Lib.decFrom acc l = some (l.foldl (fun v b => v * 10 + (b.toNat - 48)) acc) := by
  intro l
  induction l with
  | nil => intro acc _; rfl
  | cons b r ih =>
    intro acc h
    rw [List.all_cons, Bool.and_eq_true] at h
    have hb := h.1
    simp only [isD, decide_eq_true_eq] at hb
    have hv : Lib.digitVal b = some (b.toNat - 48) := by
      unfold Lib.digitVal
      first | (rw [if_pos hb]) | (simp [hb])
    rw [Lib.decFrom, hv]
    exact ih _ h.2
theorem atoi_val (l : List UInt8) (h0 : l ≠ []) (h : l.all isD = true) : Lib.atoi l = some ((valD l : Nat) : Int) := by
  cases l with
  | nil => exact absurd rfl h0
  | cons b r =>
    have hb : isD b = true := by rw [List.all_cons, Bool.and_eq_true] at h; exact h.1
    simp only [isD, decide_eq_true_eq] at hb
    have n45 : (b == 45) = false := by rw [beq_eq_false_iff_ne]; rintro rfl; exact absurd hb.1 (by decide)
    have n43 : (b == 43) = false := by rw [beq_eq_false_iff_ne]; rintro rfl; exact absurd hb.1 (by decide)
    rw [Lib.atoi, n45, n43]
    simp only [Bool.false_eq_true, if_false, Lib.decNat]
    rw [decFrom_val _ _ h]
    rfl
theorem Trim_c (s : ByteArray) (hs : s.size ≤ 2000) (w : World) : Calls Tryd.prog 30 #[.string s, .string digS] w fun e w' => e = .returned (.string ⟨(Lib.trimS s.data.toList digS.data.toList).toArray⟩) ∧ Below w.heap.size w w' :=
  Any.strings_Trim_laid Tryd.lays160 (by kernel_rfl) s digS w (by omega) (by decide) (Go.Proofs.ascii_of_all (by decide))
def NumR (s : ByteArray) (n e : Int) : Prop := (∃ k : Nat, numR s.data.toList = some k ∧ n = (k : Int) ∧ e = 0) ∨ (numR s.data.toList = none ∧ e = 7)
def NumE (s : ByteArray) (x : Ending) : Prop := ∃ n e : Int, x = .returned (.tuple #[.int .i64 n, .int .i64 e]) ∧ NumR s n e
theorem numR_no {l : List UInt8} (h : ¬ (l ≠ [] ∧ l.head? ≠ some 48 ∧ l.all isD = true ∧ l.length ≤ 9 ∧ valD l ≤ 16777216)) : numR l = none := by
  unfold numR; rw [if_neg h]
theorem recNum_c (s : ByteArray) (hs : s.size ≤ 2000) (w : World) : Calls Tryd.prog 14 #[.string s] w fun x w' => NumE s x ∧ Below w.heap.size w w' := by
  have hlen : s.data.toList.length = s.size := Array.length_toList
  have hT := fun w => Trim_c s hs w
  have hD : digS = ⟨#[48, 49, 50, 51, 52, 53, 54, 55, 56, 57]⟩ := rfl
  by_cases h0 : s = ⟨#[]⟩
  · subst h0
    go_enter Tryd.func14, Tryd.ntmps14
    go_wp2_with fail
    exact bodyPost_ret (v := .tuple #[.int .i64 0, .int .i64 7]) (by simp [results, Tryd.results14, go_sem]) rfl ⟨⟨0, 7, rfl, .inr ⟨numR_no (by simp), rfl⟩⟩, Below.refl _ _⟩
  have h1 : 0 < s.size := by
    rcases Nat.eq_zero_or_pos s.size with q | q
    · exact absurd (ByteArray.ext (Array.eq_empty_of_size_eq_zero q)) h0
    · exact q
  have r0 : (0 : Int) < (s.size : Int) := by omega
  have hd0 : s.data.toList.head? = some s[0] := by
    rw [List.head?_eq_getElem?, List.getElem?_eq_getElem (by omega)]
    simp
    rfl
  have hne : s.data.toList ≠ [] := by intro q; rw [q] at hlen; simp at hlen; omega
  have b0 : ¬ s.toList = [] := by rw [ByteArray.toList_eq]; exact hne
  have b1 : s.toList.isEmpty = false := by rw [List.isEmpty_eq_false_iff]; exact b0
  by_cases h48 : s[0] = 48
  · have e48 : ((s[0].toNat : Nat) : Int) = 48 := by rw [h48]; rfl
    have hno : numR s.data.toList = none := numR_no (fun q => q.2.1 (by rw [hd0, h48]))
    clear h48
    go_enter Tryd.func14, Tryd.ntmps14
    go_wp2_with fail
    exact bodyPost_ret (v := .tuple #[.int .i64 0, .int .i64 7]) (by simp [results, Tryd.results14, go_sem]) rfl ⟨⟨0, 7, rfl, .inr ⟨hno, rfl⟩⟩, Below.refl _ _⟩
  have e48 : ¬ ((s[0].toNat : Nat) : Int) = 48 := fun q => h48 (by rw [← UInt8.toNat_inj]; exact Int.ofNat_inj.1 q)
  have f48 : (((s[0].toNat : Nat) : Int) == 48) = false := by rw [beq_eq_false_iff_ne]; exact e48
  by_cases hall : s.data.toList.all isD = true
  case neg =>
    have hno : numR s.data.toList = none := numR_no (fun q => hall q.2.2.1)
    have hne2 : Lib.trimS s.data.toList digS.data.toList ≠ [] := fun q => hall ((trim_dig _).1 q)
    generalize Lib.trimS s.data.toList digS.data.toList = T at hT hne2
    rw [hD] at hT
    have bT : ¬ (⟨T.toArray⟩ : ByteArray).toList = [] := by
      rw [ByteArray.toList_eq]; simpa using hne2
    have cT : (⟨T.toArray⟩ : ByteArray).toList.isEmpty = false := by rw [List.isEmpty_eq_false_iff]; exact bT
    generalize (⟨T.toArray⟩ : ByteArray) = T2 at hT bT cT
    go_enter Tryd.func14, Tryd.ntmps14
    go_wp2_with (go_at_call 30; refine (hT _).mono ?_; rintro e w5 ⟨rfl, hb⟩)
    exact bodyPost_ret (v := .tuple #[.int .i64 0, .int .i64 7]) (by simp [results, Tryd.results14, go_sem]) rfl ⟨⟨0, 7, rfl, .inr ⟨hno, rfl⟩⟩, hb⟩
  rw [(trim_dig _).2 hall, hD] at hT
  by_cases h9 : s.size ≤ 9
  case neg =>
    have hno : numR s.data.toList = none := numR_no (fun q => h9 (by omega))
    have q9 : 9 < (s.size : Int) := by omega
    have d9 : decide (9 < (s.size : Int)) = true := by simp; omega
    go_enter Tryd.func14, Tryd.ntmps14
    go_wp2_with (go_at_call 30; refine (hT _).mono ?_; rintro e w5 ⟨rfl, hb⟩)
    exact bodyPost_ret (v := .tuple #[.int .i64 0, .int .i64 7]) (by simp [results, Tryd.results14, go_sem]) rfl ⟨⟨0, 7, rfl, .inr ⟨hno, rfl⟩⟩, hb⟩
  have hA := fun w => (Tryd.strconv_Atoi s _ (by omega) (atoi_val _ hne hall) w).mono (R' := fun e w' => e = .returned (.tuple #[.int .i64 ((valD s.data.toList : Nat) : Int), .nilIface]) ∧ Below w.heap.size w w') (by rintro e w' ⟨rfl, t, rfl⟩; exact ⟨rfl, Lib.bytesWorld_below _ _ _⟩)
  have hI := fun w => Iter_c ((valD s.data.toList : Nat) : Int) w
  have hR : NumR s ((valD s.data.toList : Nat) : Int) (eo (inside 1 ((valD s.data.toList : Nat) : Int) 16777216) 7) := by
    have h1v := (canon _ hne hall (by rw [hd0]; simpa using h48)).2
    by_cases hb : valD s.data.toList ≤ 16777216
    · refine .inl ⟨_, ?_, rfl, ?_⟩
      · unfold numR; rw [if_pos ⟨hne, by rw [hd0]; simpa using h48, hall, by omega, hb⟩]
      · have : inside 1 ((valD s.data.toList : Nat) : Int) 16777216 = true := by simp only [inside, decide_eq_true_eq]; omega
        rw [this]; rfl
    · refine .inr ⟨numR_no (fun q => hb q.2.2.2.2), ?_⟩
      have : inside 1 ((valD s.data.toList : Nat) : Int) 16777216 = false := by simp only [inside, decide_eq_false_iff_not]; omega
      rw [this]; rfl
  generalize ((valD s.data.toList : Nat) : Int) = V at hA hI hR
  generalize eo (inside 1 V 16777216) 7 = E at hI hR
  have q9 : ¬ 9 < (s.size : Int) := by omega
  have d9 : decide (9 < (s.size : Int)) = false := by simp; omega
  clear hall hne hd0 hlen
  go_enter Tryd.func14, Tryd.ntmps14
  go_wp2_with (first | (go_at_call 30; refine (hT _).mono ?_; rintro e w5 ⟨rfl, hb⟩) | (go_at_call 31; refine (hA _).mono ?_; rintro e w6 ⟨rfl, hb6⟩) | (go_at_call 20; refine (hI _).mono ?_; rintro e w7 ⟨rfl, rfl⟩))
  exact bodyPost_ret (v := .tuple #[.int .i64 V, .int .i64 E]) (by simp [results, Tryd.results14, go_sem]) rfl ⟨⟨V, E, rfl, hR⟩, bl_call hb6 hb⟩
end Go.Proofs.YtkbgcmfldfbcgaaDoor

/- The reference of law 26: Error, digits, iter. -/
import Derived.Test.YtkbgcmfldfbcgaaGreatDoorPm
import Derived.Test.YtkbgcmfldfbcgaaGreatDoorSp7
namespace Go.Proofs.YtkbgcmfldfbcgaaGreatDoor
open Go.RowKit Go.Lib
set_option maxRecDepth 100000
set_option linter.unusedSimpArgs false
set_option linter.unusedVariables false
theorem proN_some (n : Int) (h : 1 ≤ n ∧ n ≤ 5) : (proN n).toList.isEmpty = false ∧ ¬ (proN n).toList = [] := by
  have : n = 1 ∨ n = 2 ∨ n = 3 ∨ n = 4 ∨ n = 5 := by omega
  rcases this with rfl | rfl | rfl | rfl | rfl <;> (rw [ByteArray.toList_eq]; decide)
theorem proN_none (n : Int) (h : ¬ (1 ≤ n ∧ n ≤ 5)) : proN n = ⟨#[]⟩ := by
  unfold proN
  rw [if_neg (by omega), if_neg (by omega), if_neg (by omega), if_neg (by omega), if_neg (by omega)]
set_option maxHeartbeats 1000000 in
theorem rErr_c (r : Rcd) (w : World) : Calls Tryz.prog 9 #[.agg #[.int .i64 r.p, .int .i64 r.n, .string r.a, .string r.b, .string r.c]] w fun x w' => x = .returned (.int .i64 (chkR r)) ∧ Below w.heap.size w w' := by
  have hN := fun w => rName_c r.p w
  have hI := fun w => rIter_c r.n w
  have hS := fun w => rSalt_c r.a w
  have hc : chkR r = (if ¬ (1 ≤ r.p ∧ r.p ≤ 5) then 9 else if ¬ (1 ≤ r.n ∧ r.n ≤ 16777216) then 7 else if ¬ (1 ≤ r.a.size ∧ r.a.size ≤ 64) then 6 else if r.b.size ≠ 32 then 4 else if r.c.size ≠ 32 then 4 else 0) := rfl
  obtain ⟨rp, rn, ra, rb, rc⟩ := r
  simp only at hN hI hS hc ⊢
  generalize chkR _ = E at hc ⊢
  by_cases h1 : 1 ≤ rp ∧ rp ≤ 5
  · obtain ⟨p1, p2⟩ := proN_some rp h1
    rw [if_neg (by simp [h1])] at hc
    generalize proN rp = P at hN p1 p2
    by_cases h2 : 1 ≤ rn ∧ rn ≤ 16777216
    · have hi : inside 1 rn 16777216 = true := by simp [inside, h2]
      rw [hi] at hI
      rw [if_neg (by simp [h2])] at hc
      by_cases h3 : 1 ≤ ra.size ∧ ra.size ≤ 64
      · have hs : inside 1 (ra.size : Int) 64 = true := by simp [inside]; omega
        rw [hs] at hS
        rw [if_neg (by simp [h3])] at hc
        by_cases h4 : rb.size = 32
        · rw [if_neg (by simp [h4])] at hc
          have d4 : ((rb.size : Int) != 32) = false := by simp; omega
          have e4 : (rb.size : Int) = 32 := by omega
          by_cases h5 : rc.size = 32
          · rw [if_neg (by simp [h5])] at hc
            have d5 : ((rc.size : Int) != 32) = false := by simp; omega
            have e5 : (rc.size : Int) = 32 := by omega
            clear h1 h2 h3 h4 h5 hs hi
            subst hc
            go_enter Tryz.func9, Tryz.ntmps9
            go_wp2_with (first | (go_at_call 19; refine (hN _).mono ?_; rintro e w' ⟨rfl, rfl⟩) | (go_at_call 28; refine (hI _).mono ?_; rintro e w' ⟨rfl, rfl⟩) | (go_at_call 22; refine (hS _).mono ?_; rintro e w' ⟨rfl, rfl⟩))
            exact bodyPost_ret (v := .int .i64 0) (by simp [results, Tryz.results9, go_sem]) rfl ⟨rfl, by (repeat (first | exact Below.refl _ _ | (refine bl_alloc ?_ _) | (refine bl_drewN ?_ _) | (refine bl_drew ?_) | (refine bl_call (by assumption) ?_) | (refine bl_set _ _ (by simp <;> omega) ?_) | assumption))⟩
          · rw [if_pos (by simp [h5])] at hc
            have d5 : ((rc.size : Int) != 32) = true := by simp; omega
            have e5 : ¬ (rc.size : Int) = 32 := by omega
            clear h1 h2 h3 h4 h5 hs hi
            subst hc
            go_enter Tryz.func9, Tryz.ntmps9
            go_wp2_with (first | (go_at_call 19; refine (hN _).mono ?_; rintro e w' ⟨rfl, rfl⟩) | (go_at_call 28; refine (hI _).mono ?_; rintro e w' ⟨rfl, rfl⟩) | (go_at_call 22; refine (hS _).mono ?_; rintro e w' ⟨rfl, rfl⟩))
            exact bodyPost_ret (v := .int .i64 4) (by simp [results, Tryz.results9, go_sem]) rfl ⟨rfl, by (repeat (first | exact Below.refl _ _ | (refine bl_alloc ?_ _) | (refine bl_drewN ?_ _) | (refine bl_drew ?_) | (refine bl_call (by assumption) ?_) | (refine bl_set _ _ (by simp <;> omega) ?_) | assumption))⟩
        · rw [if_pos (by simp [h4])] at hc
          have d4 : ((rb.size : Int) != 32) = true := by simp; omega
          have e4 : ¬ (rb.size : Int) = 32 := by omega
          clear h1 h2 h3 h4 hs hi
          subst hc
          go_enter Tryz.func9, Tryz.ntmps9
          go_wp2_with (first | (go_at_call 19; refine (hN _).mono ?_; rintro e w' ⟨rfl, rfl⟩) | (go_at_call 28; refine (hI _).mono ?_; rintro e w' ⟨rfl, rfl⟩) | (go_at_call 22; refine (hS _).mono ?_; rintro e w' ⟨rfl, rfl⟩))
          exact bodyPost_ret (v := .int .i64 4) (by simp [results, Tryz.results9, go_sem]) rfl ⟨rfl, by (repeat (first | exact Below.refl _ _ | (refine bl_alloc ?_ _) | (refine bl_drewN ?_ _) | (refine bl_drew ?_) | (refine bl_call (by assumption) ?_) | (refine bl_set _ _ (by simp <;> omega) ?_) | assumption))⟩
      · have hs : inside 1 (ra.size : Int) 64 = false := by simp only [inside, decide_eq_false_iff_not]; omega
        rw [hs] at hS
        rw [if_pos h3] at hc
        clear h1 h2 h3 hs hi
        subst hc
        go_enter Tryz.func9, Tryz.ntmps9
        go_wp2_with (first | (go_at_call 19; refine (hN _).mono ?_; rintro e w' ⟨rfl, rfl⟩) | (go_at_call 28; refine (hI _).mono ?_; rintro e w' ⟨rfl, rfl⟩) | (go_at_call 22; refine (hS _).mono ?_; rintro e w' ⟨rfl, rfl⟩))
        exact bodyPost_ret (v := .int .i64 6) (by simp [results, Tryz.results9, go_sem]) rfl ⟨rfl, by (repeat (first | exact Below.refl _ _ | (refine bl_alloc ?_ _) | (refine bl_drewN ?_ _) | (refine bl_drew ?_) | (refine bl_call (by assumption) ?_) | (refine bl_set _ _ (by simp <;> omega) ?_) | assumption))⟩
    · have hi : inside 1 rn 16777216 = false := by simp only [inside, decide_eq_false_iff_not]; exact h2
      rw [hi] at hI
      rw [if_pos h2] at hc
      clear h1 h2 hi
      subst hc
      go_enter Tryz.func9, Tryz.ntmps9
      go_wp2_with (first | (go_at_call 19; refine (hN _).mono ?_; rintro e w' ⟨rfl, rfl⟩) | (go_at_call 28; refine (hI _).mono ?_; rintro e w' ⟨rfl, rfl⟩))
      exact bodyPost_ret (v := .int .i64 7) (by simp [results, Tryz.results9, go_sem]) rfl ⟨rfl, by (repeat (first | exact Below.refl _ _ | (refine bl_alloc ?_ _) | (refine bl_drewN ?_ _) | (refine bl_drew ?_) | (refine bl_call (by assumption) ?_) | (refine bl_set _ _ (by simp <;> omega) ?_) | assumption))⟩
  · have hp := proN_none rp h1
    rw [hp] at hN
    rw [if_pos h1] at hc
    clear h1 hp
    subst hc
    go_enter Tryz.func9, Tryz.ntmps9
    go_wp2_with (first | (go_at_call 19; refine (hN _).mono ?_; rintro e w' ⟨rfl, rfl⟩))
    exact bodyPost_ret (v := .int .i64 9) (by simp [results, Tryz.results9, go_sem]) rfl ⟨rfl, by (repeat (first | exact Below.refl _ _ | (refine bl_alloc ?_ _) | (refine bl_drewN ?_ _) | (refine bl_drew ?_) | (refine bl_call (by assumption) ?_) | (refine bl_set _ _ (by simp <;> omega) ?_) | assumption))⟩
/-! ### digits -/
def ddN (m : Nat) : List UInt8 := if m = 0 then [] else decDigits m
theorem ddN_step (m : Nat) (h : 1 ≤ m) : ddN m = ddN (m / 10) ++ [UInt8.ofNat (48 + m % 10)] := by
  unfold ddN
  rw [if_neg (by omega), decDigits]
  by_cases h10 : m < 10
  · rw [dif_pos h10, if_pos (by omega), Nat.mod_eq_of_lt h10]; rfl
  · rw [dif_neg h10, if_neg (by omega)]
theorem ddN_len : ∀ n m : Nat, m < 10 ^ n → (ddN m).length ≤ n
  | 0, m, h => by
    have : m = 0 := by simpa using h
    subst this; simp [ddN]
  | n + 1, m, h => by
    by_cases h0 : m = 0
    · subst h0; simp [ddN]
    · rw [ddN_step m (by omega), List.length_append]
      have := ddN_len n (m / 10) (by rw [Nat.pow_succ] at h; omega)
      simp; omega
def digB : ByteArray := ⟨#[48, 49, 50, 51, 52, 53, 54, 55, 56, 57]⟩
theorem run_digit (d : Nat) (h : d < 10) (w : World) : (Instr.slice 9 (.string digB) (some (.int .i64 (d : Int))) (some (.int .i64 ((d : Int) + 1))) none).run Tryz.prog w = .ok (.string ⟨#[UInt8.ofNat (48 + d)]⟩) w := by
  have hs : d < digB.size := h
  rw [run_one digB d hs w]
  have : ∀ k : Fin 10, digB[k.val]'k.isLt = UInt8.ofNat (48 + k.val) := by decide
  have t : digB[d]'hs = UInt8.ofNat (48 + d) := this ⟨d, h⟩
  rw [t]
theorem run_add_pre (b : UInt8) (p : List UInt8) (h : p.length ≤ 100000) (w : World) : (Op.stringOp .add ⟨#[b]⟩ ⟨p.toArray⟩).run Tryz.prog w = .ok (.string ⟨(b :: p).toArray⟩) w :=
  run_string_add_lists w [b] p (by simp) (by omega)
set_option maxHeartbeats 2000000 in
theorem digits_c (N : Nat) (hN : N ≤ 100000000) (w : World) : Calls Tryz.prog 29 #[.int .i64 (N : Int)] w fun x w' => x = .returned (.string ⟨(ddN N).toArray⟩) ∧ w' = w := by
  have hL : (ddN N).length ≤ 9 := ddN_len 9 N (by omega)
  have hst := fun m h => ddN_step m h
  have h0 : ddN 0 = [] := rfl
  obtain ⟨D, hD⟩ : ∃ D, D = ddN N := ⟨_, rfl⟩
  rw [← hD] at hL ⊢
  have hD0 : D = ddN N ++ [] := by rw [hD]; simp
  clear hD
  go_enter Tryz.func29, Tryz.ntmps29
  go_wp2_with fail
  go_loopw [0, 3] (fun i v wr => ∃ m S, m ≤ N ∧ i = .int .i64 ((m : Nat) : Int) ∧ v = .string ⟨(S : List UInt8).toArray⟩ ∧ D = ddN m ++ S ∧ wr = w) (fun i _ _ => (RowKit.intOf i).toNat)
  case atStart => exact ⟨N, [], by omega, rfl, rfl, hD0, rfl⟩
  case round =>
    obtain ⟨m, S, hm, rfl, rfl, hS, rfl⟩ := hrel
    have hSl : S.length ≤ 9 := by rw [hS, List.length_append] at hL; omega
    by_cases hlt : 0 < m
    · have hlt' : (0 : Int) < (m : Int) := by omega
      rw [hst m hlt] at hS
      obtain ⟨q, hq⟩ : ∃ q, q = m / 10 := ⟨_, rfl⟩
      obtain ⟨d, hd⟩ : ∃ d, d = m % 10 := ⟨_, rfl⟩
      have e1' : (m : Int) % 10 = (d : Int) := by omega
      have e2' : (m : Int) / 10 = (q : Int) := by omega
      rw [← hq, ← hd] at hS
      have hmd : q < m := by omega
      have hmN : q ≤ N := by omega
      have hdm := Lib.hid hd
      have hd : d < 10 := by omega
      have hdig : ∀ W : World, (Instr.slice 9 (.string ⟨#[48, 49, 50, 51, 52, 53, 54, 55, 56, 57]⟩) (some (.int .i64 ((m : Int) % 10))) (some (.int .i64 ((m : Int) % 10 + 1))) none).run Tryz.prog W = .ok (.string ⟨#[UInt8.ofNat (48 + d)]⟩) W := by rw [e1']; exact fun W => run_digit d hd W
      have hadd := fun W => run_add_pre (UInt8.ofNat (48 + d)) S (by omega) W
      replace hS := Lib.hid hS
      have pn : (0 : Int) ≤ (m : Int) := by omega
      have hd' : (d : Int) < 10 := by omega
      clear hlt hm hq hst h0 hD0 hL
      replace e1' := Lib.hid e1'
      replace e2' := Lib.hid e2'
      go_wp2_with fail
      have e3 : wrap64 (q : Int) = (q : Int) := IntWalk.wrap64_in _ (by omega)
      have e4 : (⟨#[48 + UInt8.ofNat (m % 10)]⟩ ++ ⟨S.toArray⟩ : ByteArray) = ⟨(UInt8.ofNat (48 + d) :: S).toArray⟩ := by
        rw [← hdm.out, show 48 + UInt8.ofNat d = UInt8.ofNat (48 + d) from by apply UInt8.toNat_inj.1; simp [UInt8.toNat_add, UInt8.toNat_ofNat']]
        apply ByteArray.ext; apply Array.ext'; simp
      rw [e2'.out]
      go_roundw
      case measure => rw [e3]; simp [RowKit.intOf] <;> omega
      exact ⟨q, _, hmN, congrArg (Value.int .i64) e3, congrArg Value.string e4, by rw [hS.out, List.append_assoc]; rfl, trivial⟩
    · obtain rfl : m = 0 := by omega
      have hlt' : ¬ (0 : Int) < ((0 : Nat) : Int) := by omega
      rw [h0, List.nil_append] at hS
      replace hS := Lib.hid hS
      replace hD0 := Lib.hid hD0
      go_wp2_with fail
      rw [← hS.out]
      exact bodyPost_ret (v := .string ⟨D.toArray⟩) (by simp [results, Tryz.results29, go_sem]) rfl ⟨rfl, rfl⟩
theorem ddN_dec (m : Nat) (h : 1 ≤ m) : ddN m = decDigits m := by unfold ddN; rw [if_neg (by omega)]
/-! ### iter -/
theorem valD_take (l : List UInt8) (k : Nat) (h : k < l.length) : valD (l.take (k + 1)) = valD (l.take k) * 10 + (l[k].toNat - 48) := by
  rw [take_snoc l k h, valD_snoc]
theorem valD_lt : ∀ l : List UInt8, l.all isD = true → valD l < 10 ^ l.length := by
  refine rev_ind ?_ ?_
  · intro _; decide
  · intro l b ih h
    rw [List.all_append, Bool.and_eq_true] at h
    have h1 := ih h.1
    have hb : isD b = true := by simpa using h.2
    simp only [isD, decide_eq_true_eq] at hb
    rw [valD_snoc, List.length_append, Nat.pow_add]
    simp only [List.length_cons, List.length_nil, Nat.zero_add, Nat.pow_one]
    omega
theorem valD_ge : ∀ l : List UInt8, l.all isD = true → l ≠ [] → l.head? ≠ some 48 → 10 ^ (l.length - 1) ≤ valD l := by
  refine rev_ind ?_ ?_
  · intro _ h; exact absurd rfl h
  · intro l b ih h _ hh
    rw [List.all_append, Bool.and_eq_true] at h
    have hb : isD b = true := by simpa using h.2
    cases l with
    | nil =>
      have h48 : b ≠ 48 := fun e => hh (by simp [e])
      have h9 : b.toNat ≠ 48 := fun e => h48 (by rw [← UInt8.toNat_inj]; exact e)
      simp only [isD, decide_eq_true_eq] at hb
      have e : valD ([] ++ [b]) = b.toNat - 48 := by simp [valD]
      rw [e]
      simp; omega
    | cons x r =>
      have hx : (x :: r).head? ≠ some 48 := by simpa using hh
      have i1 := ih h.1 (by simp) hx
      rw [valD_snoc, List.length_append]
      simp only [List.length_cons, List.length_nil] at i1 ⊢
      have e1 : r.length + 1 - 1 = r.length := by omega
      have e2 : r.length + 1 + (0 + 1) - 1 = r.length + 1 := by omega
      rw [e1] at i1
      rw [e2, Nat.pow_succ]
      omega
/-- What iter answers. -/
def itR (l : List UInt8) : Int := match numR l with
  | some n => (n : Int)
  | none => 0
theorem itR_no (l : List UInt8) (h : l = [] ∨ l.head? = some 48 ∨ l.all isD = false ∨ 8 < l.length ∨ ¬ (1 ≤ valD l ∧ valD l ≤ 16777216)) : itR l = 0 := by
  unfold itR
  cases hn : numR l with
  | none => rfl
  | some n =>
    exfalso
    unfold numR at hn
    split at hn
    · rename_i hc
      obtain ⟨c1, c2, c3, c4, c5⟩ := hc
      have hp := (canon l c1 c3 c2).2
      rcases h with h | h | h | h | h
      · exact c1 h
      · exact c2 h
      · rw [h] at c3; cases c3
      · have := valD_ge l c3 c1 c2
        have h9 : 10 ^ 8 ≤ 10 ^ (l.length - 1) := Nat.pow_le_pow_right (by decide) (by omega)
        omega
      · exact h ⟨hp, c5⟩
    · cases hn
theorem itR_yes (l : List UInt8) (h1 : l ≠ []) (h2 : l.head? ≠ some 48) (h3 : l.all isD = true) (h4 : l.length ≤ 8) (h5 : 1 ≤ valD l ∧ valD l ≤ 16777216) : itR l = (valD l : Int) := by
  unfold itR numR
  rw [if_pos ⟨h1, h2, h3, by omega, h5.2⟩]
theorem all_bad (l : List UInt8) (k : Nat) (h : k < l.length) (hb : isD l[k] = false) : l.all isD = false := by
  rw [List.all_eq_false]
  exact ⟨_, List.getElem_mem h, by rw [hb]; decide⟩
set_option maxHeartbeats 4000000 in
theorem iter_c (s : ByteArray) (w : World) : Calls Tryz.prog 20 #[.string s] w fun x w' => x = .returned (.int .i64 (itR s.data.toList)) ∧ w' = w := by
  have hl : s.data.toList.length = s.size := Array.length_toList
  have hI := fun n w => rIter_c n w
  by_cases h0 : s.size = 0
  · have hz : itR s.data.toList = 0 := itR_no _ (.inl (List.length_eq_zero_iff.1 (by omega)))
    rw [hz]
    have d0 : ((s.size : Int) == 0) = true := beq_iff_eq.2 (by omega)
    have d0' : (s.size : Int) = 0 := by omega
    clear hl h0 hz
    go_enter Tryz.func20, Tryz.ntmps20
    go_wp2_with fail
    exact bodyPost_ret (v := .int .i64 0) (by simp [results, Tryz.results20, go_sem]) rfl ⟨rfl, rfl⟩
  by_cases h8 : 8 < s.size
  · have hz : itR s.data.toList = 0 := itR_no _ (.inr (.inr (.inr (.inl (by omega)))))
    rw [hz]
    have d0 : ((s.size : Int) == 0) = false := beq_eq_false_iff_ne.2 (by omega)
    have d0' : ¬ (s.size : Int) = 0 := by omega
    have d8 : (8 : Int) < (s.size : Int) := by omega
    clear hl h0 hz h8
    go_enter Tryz.func20, Tryz.ntmps20
    go_wp2_with fail
    exact bodyPost_ret (v := .int .i64 0) (by simp [results, Tryz.results20, go_sem]) rfl ⟨rfl, rfl⟩
  have d0 : ((s.size : Int) == 0) = false := beq_eq_false_iff_ne.2 (by omega)
  have d0' : ¬ (s.size : Int) = 0 := by omega
  have d8 : ¬ (8 : Int) < (s.size : Int) := by omega
  have hp : 0 < s.size := by omega
  have hpI : (0 : Int) < (s.size : Int) := by omega
  have hh : s.data.toList.head? = some (s[0]'hp) := by
    rw [List.head?_eq_getElem?, List.getElem?_eq_getElem (by omega)]; rfl
  by_cases h48 : s[0]'hp = 48
  · have hz : itR s.data.toList = 0 := itR_no _ (.inr (.inl (by rw [hh, h48])))
    rw [hz]
    have q0 : (((s[0]'hp).toNat : Int) == 48) = true := by rw [h48]; rfl
    have q0' : ((s[0]'hp).toNat : Int) = 48 := by rw [h48]; rfl
    clear hl h0 hz h8 hh
    go_enter Tryz.func20, Tryz.ntmps20
    go_wp2_with fail
    exact bodyPost_ret (v := .int .i64 0) (by simp [results, Tryz.results20, go_sem]) rfl ⟨rfl, rfl⟩
  have q0 : (((s[0]'hp).toNat : Int) == 48) = false := beq_eq_false_iff_ne.2 (by intro q; exact h48 (UInt8.toNat_inj.1 (by rw [show (48 : UInt8).toNat = 48 from rfl]; omega)))
  have q0' : ¬ ((s[0]'hp).toNat : Int) = 48 := beq_eq_false_iff_ne.1 q0
  have hh2 : s.data.toList.head? ≠ some 48 := by rw [hh]; intro q; exact h48 (Option.some.inj q)
  have hne : s.data.toList ≠ [] := by intro q; rw [q] at hl; simp at hl; omega
  have hl8 : s.data.toList.length ≤ 8 := by omega
  replace hl := Lib.hid hl
  clear h48 hh h0 h8
  replace hh2 := Lib.hid hh2
  replace hne := Lib.hid hne
  replace hl8 := Lib.hid hl8
  go_enter Tryz.func20, Tryz.ntmps20
  go_wp2_with fail
  have hv0 : valD (s.data.toList.take 0) = 0 := rfl
  go_loopw [4, 3] (fun i v wr => ∃ k n, k ≤ s.size ∧ i = .int .i64 ((k : Nat) : Int) ∧ v = .int .i64 ((n : Nat) : Int) ∧ n = valD (s.data.toList.take k) ∧ (s.data.toList.take k).all isD = true ∧ wr = w) (fun i _ _ => s.size - (RowKit.intOf i).toNat)
  case atStart => exact ⟨0, 0, by omega, rfl, rfl, hv0.symm, rfl, rfl⟩
  case round =>
    obtain ⟨k, n, hk, rfl, rfl, hn, hall, rfl⟩ := hrel
    clear hv0
    have pn : (0 : Int) ≤ (k : Int) := by omega
    by_cases hlt : k < s.size
    · have hlt' : (k : Int) < (s.size : Int) := by omega
      have hts : s.data.toList.take (k + 1) = s.data.toList.take k ++ [s[k]] := take_snoc s.data.toList k (by rw [hl.out]; exact hlt)
      have hb0 : s[k].toNat < 256 := s[k].toNat_lt
      by_cases hc1 : s[k].toNat < 48
      · have hbad : itR s.data.toList = 0 := itR_no _ (.inr (.inr (.inl (all_bad _ k (by rw [hl.out]; exact hlt) (show isD s[k] = false by simp only [isD, decide_eq_false_iff_not]; omega)))))
        replace hbad := Lib.hid hbad
        have c1 : (s[k].toNat : Int) < 48 := by omega
        clear hts hn hall
        go_wp2_with fail
        exact bodyPost_ret (v := .int .i64 0) (by simp [results, Tryz.results20, go_sem]) rfl ⟨by rw [hbad.out], rfl⟩
      have c1 : ¬ (s[k].toNat : Int) < 48 := by omega
      by_cases hc2 : 57 < s[k].toNat
      · have hbad : itR s.data.toList = 0 := itR_no _ (.inr (.inr (.inl (all_bad _ k (by rw [hl.out]; exact hlt) (show isD s[k] = false by simp only [isD, decide_eq_false_iff_not]; omega)))))
        replace hbad := Lib.hid hbad
        have c2 : 57 < (s[k].toNat : Int) := by omega
        clear hts hn hall
        go_wp2_with fail
        exact bodyPost_ret (v := .int .i64 0) (by simp [results, Tryz.results20, go_sem]) rfl ⟨by rw [hbad.out], rfl⟩
      have c2 : ¬ 57 < (s[k].toNat : Int) := by omega
      have hstep : valD (s.data.toList.take (k + 1)) = n * 10 + (s[k].toNat - 48) := by rw [hts, valD_snoc, hn]
      have hall2 : (s.data.toList.take (k + 1)).all isD = true := by
        rw [hts, List.all_append, hall]; simp [isD]; omega
      have hnb : n < 100000000 := by
        have h1 := valD_lt _ hall
        rw [← hn] at h1
        have h2 : (s.data.toList.take k).length ≤ 8 := by rw [List.length_take]; have := hl8.out; omega
        have h3 : 10 ^ (s.data.toList.take k).length ≤ 10 ^ 8 := Nat.pow_le_pow_right (by decide) h2
        omega
      have hnI : (n : Int) < 100000000 := by omega
      have hn0 : (0 : Int) ≤ (n : Int) := by omega
      replace hstep := Lib.hid hstep
      replace hall2 := Lib.hid hall2
      clear hts hn hall hc1 hc2
      go_wp2_with fail
      go_roundw
      case measure => simp [RowKit.intOf] <;> omega
      exact ⟨k + 1, n * 10 + (s[k].toNat - 48), by omega, congrArg (Value.int .i64) (by omega), congrArg (Value.int .i64) (by omega), hstep.out.symm, hall2.out, trivial⟩
    · obtain rfl : k = s.size := by omega
      have hlt' : ¬ (s.size : Int) < (s.size : Int) := by omega
      rw [List.take_of_length_le (by rw [hl.out]; exact Nat.le_refl _)] at hn hall
      by_cases hin : 1 ≤ n ∧ n ≤ 16777216
      · have hi := fun w => hI (n : Int) w
        rw [show inside 1 (n : Int) 16777216 = true by simp [inside]; omega] at hi
        have hy := Lib.hid (itR_yes _ hne.out hh2.out hall hl8.out (by rw [← hn]; exact hin))
        rw [← hn] at hy
        clear hI hn hall
        go_wp2_with (go_at_call 28; refine (hi _).mono ?_; rintro e w' ⟨rfl, rfl⟩)
        exact bodyPost_ret (v := .int .i64 (n : Int)) (by simp [results, Tryz.results20, go_sem]) rfl ⟨by rw [hy.out], rfl⟩
      · have hi := fun w => hI (n : Int) w
        rw [show inside 1 (n : Int) 16777216 = false by simp only [inside, decide_eq_false_iff_not]; omega] at hi
        have hy := Lib.hid (itR_no s.data.toList (.inr (.inr (.inr (.inr (by rw [← hn]; exact hin))))))
        clear hI hn hall
        go_wp2_with (go_at_call 28; refine (hi _).mono ?_; rintro e w' ⟨rfl, rfl⟩)
        exact bodyPost_ret (v := .int .i64 0) (by simp [results, Tryz.results20, go_sem]) rfl ⟨by rw [hy.out], rfl⟩
end Go.Proofs.YtkbgcmfldfbcgaaGreatDoor

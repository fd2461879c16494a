/- Reference 44: kind, number. -/
import Derived.Test.YtcophjjjkonpjaaDoorUb
import Derived.Test.YtcophjjjkonpjaaDoorSp7
namespace Go.Proofs.YtcophjjjkonpjaaDoor
open Go.RowKit
set_option maxRecDepth 100000
set_option linter.unusedSimpArgs false
set_option linter.unusedVariables false
theorem ne_list {x b : ByteArray} (h : ¬ x = b) : (x.toList == b.data.toList) = false ∧ ¬ x.toList = b.data.toList := by
  have h2 : ¬ x.toList = b.data.toList := by
    rw [ByteArray.toList_eq]
    intro q
    exact h (ByteArray.ext (Array.ext' q))
  exact ⟨beq_eq_false_iff_ne.2 h2, h2⟩
theorem rkind_c (s : ByteArray) (w : World) : Calls Tryd.prog 20 #[.string s] w fun x w' => x = .returned (.int .i64 (kindA s.data.toList : Int)) ∧ w' = w := by
  have hx : ∀ b : ByteArray, s.data.toList = b.data.toList ↔ s = b := fun b => ⟨fun q => ByteArray.ext (Array.ext' q), fun q => by rw [q]⟩
  unfold kindA
  simp only [hx]
  clear hx
  by_cases h1 : s = nm1
  · rw [if_pos h1]
    subst h1
    unfold nm1
    go_enter Tryd.func20, Tryd.ntmps20
    go_wp2_with fail
    exact bodyPost_ret (v := .int .i64 1) (by simp [results, Tryd.results20, go_sem]) rfl ⟨rfl, rfl⟩
  obtain ⟨a1, b1⟩ := ne_list h1
  by_cases h2 : s = nm2
  · rw [if_neg h1]; rw [if_pos h2]
    subst h2
    unfold nm2
    clear h1 a1 b1
    go_enter Tryd.func20, Tryd.ntmps20
    go_wp2_with fail
    exact bodyPost_ret (v := .int .i64 2) (by simp [results, Tryd.results20, go_sem]) rfl ⟨rfl, rfl⟩
  obtain ⟨a2, b2⟩ := ne_list h2
  by_cases h3 : s = nm3
  · rw [if_neg h1]; rw [if_neg h2]; rw [if_pos h3]
    subst h3
    unfold nm3
    clear h1 a1 b1 h2 a2 b2
    go_enter Tryd.func20, Tryd.ntmps20
    go_wp2_with fail
    exact bodyPost_ret (v := .int .i64 3) (by simp [results, Tryd.results20, go_sem]) rfl ⟨rfl, rfl⟩
  obtain ⟨a3, b3⟩ := ne_list h3
  by_cases h4 : s = nm4
  · rw [if_neg h1]; rw [if_neg h2]; rw [if_neg h3]; rw [if_pos h4]
    subst h4
    unfold nm4
    clear h1 a1 b1 h2 a2 b2 h3 a3 b3
    go_enter Tryd.func20, Tryd.ntmps20
    go_wp2_with fail
    exact bodyPost_ret (v := .int .i64 4) (by simp [results, Tryd.results20, go_sem]) rfl ⟨rfl, rfl⟩
  obtain ⟨a4, b4⟩ := ne_list h4
  by_cases h5 : s = nm5
  · rw [if_neg h1]; rw [if_neg h2]; rw [if_neg h3]; rw [if_neg h4]; rw [if_pos h5]
    subst h5
    unfold nm5
    clear h1 a1 b1 h2 a2 b2 h3 a3 b3 h4 a4 b4
    go_enter Tryd.func20, Tryd.ntmps20
    go_wp2_with fail
    exact bodyPost_ret (v := .int .i64 5) (by simp [results, Tryd.results20, go_sem]) rfl ⟨rfl, rfl⟩
  obtain ⟨a5, b5⟩ := ne_list h5
  rw [if_neg h1, if_neg h2, if_neg h3, if_neg h4, if_neg h5]
  clear h1 h2 h3 h4 h5
  unfold nm1 at a1 b1
  unfold nm2 at a2 b2
  unfold nm3 at a3 b3
  unfold nm4 at a4 b4
  unfold nm5 at a5 b5
  simp only at a1 b1 a2 b2 a3 b3 a4 b4 a5 b5
  go_enter Tryd.func20, Tryd.ntmps20
  go_wp2_with fail
  exact bodyPost_ret (v := .int .i64 0) (by simp [results, Tryd.results20, go_sem]) rfl ⟨rfl, rfl⟩
def refG (sg : Bool) (r : List UInt8) : Option Int := if r ≠ [] ∧ r.length ≤ 19 ∧ ¬ (r.head? = some 48 ∧ (sg = true ∨ 1 < r.length)) ∧ r.all isD = true ∧ valD r ≤ (if sg = true then 9223372036854775808 else 9223372036854775807) then some (if sg = true then -(valD r : Int) else (valD r : Int)) else none
theorem refN_neg (r : List UInt8) : refN (45 :: r) = refG true r := by
  unfold refN refG
  simp only [if_true, true_or, and_true]
theorem refN_pos (l : List UInt8) (h : l.head? ≠ some 45) : refN l = refG false l := by
  cases l with
  | nil => rfl
  | cons c r =>
    have hc : ¬ c = 45 := fun q => h (by rw [q]; rfl)
    unfold refN refG
    simp only [Bool.false_eq_true, if_false, false_or]
    rw [if_neg hc]
    congr 1
    apply propext
    constructor
    · rintro ⟨h1, h2, h3, h4⟩
      refine ⟨by simp, h1, ?_, h3, h4⟩
      rintro ⟨q1, q2⟩
      have q3 : c = 48 := by simpa using q1
      rw [h2 q3] at q2
      simp at q2
    · rintro ⟨_, h1, h2, h3, h4⟩
      refine ⟨h1, fun q => ?_, h3, h4⟩
      cases r with
      | nil => rfl
      | cons x t => exact absurd ⟨by rw [q]; rfl, by simp⟩ h2
theorem refG_none {sg : Bool} {r : List UInt8} (h : r = [] ∨ 19 < r.length ∨ (r.head? = some 48 ∧ (sg = true ∨ 1 < r.length)) ∨ r.all isD = false ∨ (if sg = true then 9223372036854775808 else 9223372036854775807) < valD r) : refG sg r = none := by
  unfold refG
  rw [if_neg]
  rintro ⟨h1, h2, h3, h4, h5⟩
  rcases h with h | h | h | h | h
  · exact h1 h
  · omega
  · exact h3 h
  · rw [h] at h4; cases h4
  · omega
theorem valD_lt' : ∀ l : List UInt8, l.all isD = true → valD l < 10 ^ l.length := by
  refine rev_ind ?_ ?_
  · intro _; decide
  · intro l b ih h
    rw [List.all_append, Bool.and_eq_true] at h
    have h1 := ih h.1
    have hb : isD b = true := by simpa using h.2
    simp only [isD, decide_eq_true_eq] at hb
    rw [valD_snoc, List.length_append, Nat.pow_add]
    simp only [List.length_cons, List.length_nil, Nat.zero_add, Nat.pow_one]
    omega
theorem all_bad' (l : List UInt8) (k : Nat) (h : k < l.length) (hb : isD l[k] = false) : l.all isD = false := by
  rw [List.all_eq_false]
  exact ⟨_, List.getElem_mem h, by rw [hb]; decide⟩
def NumQ (o : Option Int) (x : Ending) : Prop := ∃ n b, x = .returned (.tuple #[.int .i64 n, .bool b]) ∧ ((b = true ∧ o = some n) ∨ (b = false ∧ o = none))
theorem NumQ_no {o : Option Int} (h : o = none) : NumQ o (.returned (.tuple #[.int .i64 0, .bool false])) := ⟨0, false, rfl, .inr ⟨rfl, h⟩⟩
theorem rnum_empty (w : World) : Calls Tryd.prog 21 #[.string ⟨#[]⟩] w fun x w' => NumQ (refG false []) x ∧ w' = w := by
  go_enter Tryd.func21, Tryd.ntmps21
  go_wp2_with fail
  exact bodyPost_ret (v := .tuple #[.int .i64 0, .bool false]) (by simp [results, Tryd.results21, go_sem]) rfl ⟨NumQ_no rfl, rfl⟩
theorem rnum_zero (w : World) : Calls Tryd.prog 21 #[.string ⟨#[48]⟩] w fun x w' => NumQ (refG false [48]) x ∧ w' = w := by
  have hz : refG false [48] = some 0 := by decide
  rw [hz]
  go_enter Tryd.func21, Tryd.ntmps21
  go_wp2_with fail
  refine wp_loop_rounds 2 ?_
  rw [rounds_succ]
  go_wp2_with fail
  rw [rounds_succ]
  go_wp2_with fail
  exact bodyPost_ret (v := .tuple #[.int .i64 0, .bool true]) (by simp [results, Tryd.results21, go_sem]) rfl ⟨⟨0, true, rfl, .inl ⟨rfl, rfl⟩⟩, rfl⟩
set_option maxHeartbeats 4000000 in
theorem rnum_pos (s : ByteArray) (hs : s.size ≤ 100000) (hp : 0 < s.size) (h45 : ¬ (s[0]'hp) = 45) (hone : ¬ (s[0]'hp = 48 ∧ s.size = 1)) (r : List UInt8) (hr : r = s.data.toList.drop 0) (w : World) : Calls Tryd.prog 21 #[.string s] w fun x w' => NumQ (refG false r) x ∧ w' = w := by
  have hl : s.data.toList.length = s.size := Array.length_toList
  have hrl : r.length = s.size - 0 := by rw [hr, List.length_drop, hl]
  have hpI : (0 : Int) < (s.size : Int) := by omega
  have q0 : (((s[0]'hp).toNat : Int) == 45) = false := beq_eq_false_iff_ne.2 (by intro q; exact h45 (UInt8.toNat_inj.1 (by rw [show (45 : UInt8).toNat = 45 from rfl]; omega)))
  have q0' : ¬ ((s[0]'hp).toNat : Int) = 45 := beq_eq_false_iff_ne.1 q0
  clear h45
  have q1 : ((0 : Int) == (s.size : Int)) = false := beq_eq_false_iff_ne.2 (by omega)
  have q1' : ¬ (0 : Int) = (s.size : Int) := by omega
  have q1'' : ¬ (s.size : Int) = 0 := by omega
  by_cases c2 : 19 < s.size - 0
  · have hno := Lib.hid (refG_none (sg := false) (r := r) (.inr (.inl (by omega))))
    have q2 : 19 < (s.size : Int) := by omega
    clear hr hrl hl hone
    go_enter Tryd.func21, Tryd.ntmps21
    go_wp2_with fail
    exact bodyPost_ret (v := .tuple #[.int .i64 0, .bool false]) (by simp [results, Tryd.results21, go_sem]) rfl ⟨NumQ_no hno.out, rfl⟩
  have q2 : ¬ 19 < (s.size : Int) := by omega
  have hi : 0 < s.size := by omega
  have hiI : (0 : Int) < (s.size : Int) := by omega
  have hh : r.head? = some (s[0]'hi) := by
    rw [hr, List.head?_eq_getElem?, List.getElem?_drop, List.getElem?_eq_getElem (by omega)]; rfl
  by_cases c3 : s[0]'hi = 48
  · have h1 : 1 < s.size := by
      rcases Nat.lt_or_ge 1 s.size with q | q
      · exact q
      · exact absurd ⟨c3, by omega⟩ hone
    have hno := Lib.hid (refG_none (sg := false) (r := r) (.inr (.inr (.inl ⟨by rw [hh, c3], .inr (by omega)⟩))))
    have q3 : (((s[0]'hi).toNat : Int) == 48) = true := by rw [c3]; rfl
    have q3' : ((s[0]'hi).toNat : Int) = 48 := by rw [c3]; rfl
    have q4 : 1 < (s.size : Int) := by omega
    clear hr hrl hl hh hone
    go_enter Tryd.func21, Tryd.ntmps21
    go_wp2_with fail
    exact bodyPost_ret (v := .tuple #[.int .i64 0, .bool false]) (by simp [results, Tryd.results21, go_sem]) rfl ⟨NumQ_no hno.out, rfl⟩
  have q3 : (((s[0]'hi).toNat : Int) == 48) = false := beq_eq_false_iff_ne.2 (by intro q; exact c3 (UInt8.toNat_inj.1 (by rw [show (48 : UInt8).toNat = 48 from rfl]; omega)))
  have q3' : ¬ ((s[0]'hi).toNat : Int) = 48 := beq_eq_false_iff_ne.1 q3
  have hh2 : r.head? ≠ some 48 := by rw [hh]; intro q; exact c3 (Option.some.inj q)
  have hne : r ≠ [] := by intro q; rw [q] at hrl; simp at hrl; omega
  have hr19 : r.length ≤ 19 := by omega
  have hrk : ∀ k (hk : k < s.size) (h1 : 0 ≤ k), ∃ h2 : k - 0 < r.length, r[k - 0]'h2 = s[k] := fun k hk h1 => by
    refine ⟨by omega, ?_⟩
    have : r[k - 0]? = some s[k] := by
      rw [hr, List.getElem?_drop, show 0 + (k - 0) = k by omega, List.getElem?_eq_getElem (by omega)]; rfl
    exact (List.getElem?_eq_some_iff.1 this).2
  replace hrl := Lib.hid hrl
  replace hh2 := Lib.hid hh2
  replace hne := Lib.hid hne
  replace hr19 := Lib.hid hr19
  replace hrk := Lib.hid hrk
  clear c2 c3 hh hr hl hone
  go_enter Tryd.func21, Tryd.ntmps21
  go_wp2_with fail
  have hv0 : valD (r.take 0) = 0 := rfl
  go_loopw [7, 6] (fun i v wr => ∃ k n, 0 ≤ k ∧ k ≤ s.size ∧ i = .int .i64 ((k : Nat) : Int) ∧ v = .int .u64 ((n : Nat) : Int) ∧ n = valD (r.take (k - 0)) ∧ (r.take (k - 0)).all isD = true ∧ wr = w) (fun i _ _ => s.size - (RowKit.intOf i).toNat)
  case atStart => exact ⟨0, 0, by omega, by omega, rfl, rfl, hv0.symm, rfl, rfl⟩
  case round =>
    obtain ⟨k, n, hk0, hk, rfl, rfl, hn, hall, rfl⟩ := hrel
    clear hv0
    have pn : (0 : Int) ≤ (k : Int) := by omega
    have pn0 : (0 : Int) ≤ (k : Int) := by omega
    by_cases hlt : k < s.size
    · have hlt' : (k : Int) < (s.size : Int) := by omega
      obtain ⟨hk2, hrk2⟩ := hrk.out k hlt hk0
      have hts : r.take (k + 1 - 0) = r.take (k - 0) ++ [s[k]] := by
        rw [show k + 1 - 0 = (k - 0) + 1 by omega, take_snoc r _ hk2, hrk2]
      have hb0 : s[k].toNat < 256 := s[k].toNat_lt
      by_cases hc1 : s[k].toNat < 48
      · have hbad := Lib.hid (refG_none (sg := false) (r := r) (.inr (.inr (.inr (.inl (all_bad' r (k - 0) hk2 (by rw [hrk2]; simp only [isD, decide_eq_false_iff_not]; omega)))))))
        have c1 : (s[k].toNat : Int) < 48 := by omega
        clear hts hn hall hrk2 hk2
        go_wp2_with fail
        exact bodyPost_ret (v := .tuple #[.int .i64 0, .bool false]) (by simp [results, Tryd.results21, go_sem]) rfl ⟨NumQ_no hbad.out, rfl⟩
      have c1 : ¬ (s[k].toNat : Int) < 48 := by omega
      by_cases hc2 : 57 < s[k].toNat
      · have hbad := Lib.hid (refG_none (sg := false) (r := r) (.inr (.inr (.inr (.inl (all_bad' r (k - 0) hk2 (by rw [hrk2]; simp only [isD, decide_eq_false_iff_not]; omega)))))))
        have c2 : 57 < (s[k].toNat : Int) := by omega
        clear hts hn hall hrk2 hk2
        go_wp2_with fail
        exact bodyPost_ret (v := .tuple #[.int .i64 0, .bool false]) (by simp [results, Tryd.results21, go_sem]) rfl ⟨NumQ_no hbad.out, rfl⟩
      have c2 : ¬ 57 < (s[k].toNat : Int) := by omega
      have hstep : valD (r.take (k + 1 - 0)) = n * 10 + (s[k].toNat - 48) := by rw [hts, valD_snoc, hn]
      have hall2 : (r.take (k + 1 - 0)).all isD = true := by
        rw [hts, List.all_append, hall]; simp [isD]; omega
      have hnb : n < 1000000000000000000 := by
        have h1 := valD_lt' _ hall
        rw [← hn] at h1
        have h2 : (r.take (k - 0)).length ≤ 18 := by rw [List.length_take]; have := hr19.out; omega
        have h3 : 10 ^ (r.take (k - 0)).length ≤ 10 ^ 18 := Nat.pow_le_pow_right (by decide) h2
        omega
      have hnI : (n : Int) < 1000000000000000000 := by omega
      have hn0 : (0 : Int) ≤ (n : Int) := by omega
      replace hstep := Lib.hid hstep
      replace hall2 := Lib.hid hall2
      clear hts hn hall hc1 hc2 hrk2 hk2
      go_wp2_with fail
      go_roundw
      case measure => simp [RowKit.intOf] <;> omega
      exact ⟨k + 1, n * 10 + (s[k].toNat - 48), by omega, by omega, congrArg (Value.int .i64) (by omega), congrArg (Value.int .u64) (by omega), hstep.out.symm, hall2.out, trivial⟩
    · obtain rfl : k = s.size := by omega
      have hlt' : ¬ (s.size : Int) < (s.size : Int) := by omega
      have htk : r.take (s.size - 0) = r := List.take_of_length_le (by rw [hrl.out]; exact Nat.le_refl _)
      rw [htk] at hn hall
      have hnb : n < 10000000000000000000 := by
        have h1 := valD_lt' _ hall
        rw [← hn] at h1
        have h3 : 10 ^ r.length ≤ 10 ^ 19 := Nat.pow_le_pow_right (by decide) hr19.out
        omega
      by_cases hbig : 9223372036854775807 < n
      · have hno := Lib.hid (refG_none (sg := false) (r := r) (.inr (.inr (.inr (.inr (by rw [← hn]; exact hbig))))))
        have gI : 9223372036854775807 < (n : Int) := by omega
        clear hn hall htk
        go_wp2_with fail
        exact bodyPost_ret (v := .tuple #[.int .i64 0, .bool false]) (by simp [results, Tryd.results21, go_sem]) rfl ⟨NumQ_no hno.out, rfl⟩
      have gI : ¬ 9223372036854775807 < (n : Int) := by omega
      have hyes : refG false r = some (n : Int) := by
        unfold refG
        rw [if_pos ⟨hne.out, hr19.out, fun q => hh2.out q.1, hall, by rw [← hn]; show n ≤ 9223372036854775807; omega⟩, ← hn]
        rfl
      replace hyes := Lib.hid hyes
      have hn0 : (0 : Int) ≤ (n : Int) := by omega
      clear hn hall htk
      go_wp2_with fail
      exact bodyPost_ret (v := .tuple #[.int .i64 (n : Int), .bool true]) (by simp [results, Tryd.results21, go_sem]) rfl ⟨⟨(n : Int), true, rfl, .inl ⟨rfl, hyes.out⟩⟩, rfl⟩
set_option maxHeartbeats 4000000 in
theorem rnum_neg (s : ByteArray) (hs : s.size ≤ 100000) (hp : 0 < s.size) (h45 : (s[0]'hp) = 45) (r : List UInt8) (hr : r = s.data.toList.drop 1) (w : World) : Calls Tryd.prog 21 #[.string s] w fun x w' => NumQ (refG true r) x ∧ w' = w := by
  have hl : s.data.toList.length = s.size := Array.length_toList
  have hrl : r.length = s.size - 1 := by rw [hr, List.length_drop, hl]
  have hpI : (0 : Int) < (s.size : Int) := by omega
  have q0 : (((s[0]'hp).toNat : Int) == 45) = true := by rw [h45]; rfl
  have q0' : ((s[0]'hp).toNat : Int) = 45 := by rw [h45]; rfl
  clear h45
  by_cases c1 : s.size = 1
  · have hno := Lib.hid (refG_none (sg := true) (r := r) (.inl (List.length_eq_zero_iff.1 (by omega))))
    have q1 : ((1 : Int) == (s.size : Int)) = true := beq_iff_eq.2 (by omega)
    have q1' : (s.size : Int) = 1 := by omega
    clear hr hrl hl c1
    go_enter Tryd.func21, Tryd.ntmps21
    go_wp2_with fail
    exact bodyPost_ret (v := .tuple #[.int .i64 0, .bool false]) (by simp [results, Tryd.results21, go_sem]) rfl ⟨NumQ_no hno.out, rfl⟩
  have q1 : ((1 : Int) == (s.size : Int)) = false := beq_eq_false_iff_ne.2 (by omega)
  have q1' : ¬ (1 : Int) = (s.size : Int) := by omega
  have q1'' : ¬ (s.size : Int) = 1 := by omega
  by_cases c2 : 19 < s.size - 1
  · have hno := Lib.hid (refG_none (sg := true) (r := r) (.inr (.inl (by omega))))
    have q2 : 19 < (s.size : Int) - 1 := by omega
    clear hr hrl hl
    go_enter Tryd.func21, Tryd.ntmps21
    go_wp2_with fail
    exact bodyPost_ret (v := .tuple #[.int .i64 0, .bool false]) (by simp [results, Tryd.results21, go_sem]) rfl ⟨NumQ_no hno.out, rfl⟩
  have q2 : ¬ 19 < (s.size : Int) - 1 := by omega
  have hi : 1 < s.size := by omega
  have hiI : (1 : Int) < (s.size : Int) := by omega
  have hh : r.head? = some (s[1]'hi) := by
    rw [hr, List.head?_eq_getElem?, List.getElem?_drop, List.getElem?_eq_getElem (by omega)]; rfl
  by_cases c3 : s[1]'hi = 48
  · have hno := Lib.hid (refG_none (sg := true) (r := r) (.inr (.inr (.inl ⟨by rw [hh, c3], .inl rfl⟩))))
    have q3 : (((s[1]'hi).toNat : Int) == 48) = true := by rw [c3]; rfl
    have q3' : ((s[1]'hi).toNat : Int) = 48 := by rw [c3]; rfl
    clear hr hrl hl hh
    go_enter Tryd.func21, Tryd.ntmps21
    go_wp2_with fail
    exact bodyPost_ret (v := .tuple #[.int .i64 0, .bool false]) (by simp [results, Tryd.results21, go_sem]) rfl ⟨NumQ_no hno.out, rfl⟩
  have q3 : (((s[1]'hi).toNat : Int) == 48) = false := beq_eq_false_iff_ne.2 (by intro q; exact c3 (UInt8.toNat_inj.1 (by rw [show (48 : UInt8).toNat = 48 from rfl]; omega)))
  have q3' : ¬ ((s[1]'hi).toNat : Int) = 48 := beq_eq_false_iff_ne.1 q3
  have hh2 : r.head? ≠ some 48 := by rw [hh]; intro q; exact c3 (Option.some.inj q)
  have hne : r ≠ [] := by intro q; rw [q] at hrl; simp at hrl; omega
  have hr19 : r.length ≤ 19 := by omega
  have hrk : ∀ k (hk : k < s.size) (h1 : 1 ≤ k), ∃ h2 : k - 1 < r.length, r[k - 1]'h2 = s[k] := fun k hk h1 => by
    refine ⟨by omega, ?_⟩
    have : r[k - 1]? = some s[k] := by
      rw [hr, List.getElem?_drop, show 1 + (k - 1) = k by omega, List.getElem?_eq_getElem (by omega)]; rfl
    exact (List.getElem?_eq_some_iff.1 this).2
  replace hrl := Lib.hid hrl
  replace hh2 := Lib.hid hh2
  replace hne := Lib.hid hne
  replace hr19 := Lib.hid hr19
  replace hrk := Lib.hid hrk
  clear c2 c3 hh hr hl
  go_enter Tryd.func21, Tryd.ntmps21
  go_wp2_with fail
  have hv0 : valD (r.take 0) = 0 := rfl
  go_loopw [7, 6] (fun i v wr => ∃ k n, 1 ≤ k ∧ k ≤ s.size ∧ i = .int .i64 ((k : Nat) : Int) ∧ v = .int .u64 ((n : Nat) : Int) ∧ n = valD (r.take (k - 1)) ∧ (r.take (k - 1)).all isD = true ∧ wr = w) (fun i _ _ => s.size - (RowKit.intOf i).toNat)
  case atStart => exact ⟨1, 0, by omega, by omega, rfl, rfl, hv0.symm, rfl, rfl⟩
  case round =>
    obtain ⟨k, n, hk0, hk, rfl, rfl, hn, hall, rfl⟩ := hrel
    clear hv0
    have pn : (1 : Int) ≤ (k : Int) := by omega
    have pn0 : (0 : Int) ≤ (k : Int) := by omega
    by_cases hlt : k < s.size
    · have hlt' : (k : Int) < (s.size : Int) := by omega
      obtain ⟨hk2, hrk2⟩ := hrk.out k hlt hk0
      have hts : r.take (k + 1 - 1) = r.take (k - 1) ++ [s[k]] := by
        rw [show k + 1 - 1 = (k - 1) + 1 by omega, take_snoc r _ hk2, hrk2]
      have hb0 : s[k].toNat < 256 := s[k].toNat_lt
      by_cases hc1 : s[k].toNat < 48
      · have hbad := Lib.hid (refG_none (sg := true) (r := r) (.inr (.inr (.inr (.inl (all_bad' r (k - 1) hk2 (by rw [hrk2]; simp only [isD, decide_eq_false_iff_not]; omega)))))))
        have c1 : (s[k].toNat : Int) < 48 := by omega
        clear hts hn hall hrk2 hk2
        go_wp2_with fail
        exact bodyPost_ret (v := .tuple #[.int .i64 0, .bool false]) (by simp [results, Tryd.results21, go_sem]) rfl ⟨NumQ_no hbad.out, rfl⟩
      have c1 : ¬ (s[k].toNat : Int) < 48 := by omega
      by_cases hc2 : 57 < s[k].toNat
      · have hbad := Lib.hid (refG_none (sg := true) (r := r) (.inr (.inr (.inr (.inl (all_bad' r (k - 1) hk2 (by rw [hrk2]; simp only [isD, decide_eq_false_iff_not]; omega)))))))
        have c2 : 57 < (s[k].toNat : Int) := by omega
        clear hts hn hall hrk2 hk2
        go_wp2_with fail
        exact bodyPost_ret (v := .tuple #[.int .i64 0, .bool false]) (by simp [results, Tryd.results21, go_sem]) rfl ⟨NumQ_no hbad.out, rfl⟩
      have c2 : ¬ 57 < (s[k].toNat : Int) := by omega
      have hstep : valD (r.take (k + 1 - 1)) = n * 10 + (s[k].toNat - 48) := by rw [hts, valD_snoc, hn]
      have hall2 : (r.take (k + 1 - 1)).all isD = true := by
        rw [hts, List.all_append, hall]; simp [isD]; omega
      have hnb : n < 1000000000000000000 := by
        have h1 := valD_lt' _ hall
        rw [← hn] at h1
        have h2 : (r.take (k - 1)).length ≤ 18 := by rw [List.length_take]; have := hr19.out; omega
        have h3 : 10 ^ (r.take (k - 1)).length ≤ 10 ^ 18 := Nat.pow_le_pow_right (by decide) h2
        omega
      have hnI : (n : Int) < 1000000000000000000 := by omega
      have hn0 : (0 : Int) ≤ (n : Int) := by omega
      replace hstep := Lib.hid hstep
      replace hall2 := Lib.hid hall2
      clear hts hn hall hc1 hc2 hrk2 hk2
      go_wp2_with fail
      go_roundw
      case measure => simp [RowKit.intOf] <;> omega
      exact ⟨k + 1, n * 10 + (s[k].toNat - 48), by omega, by omega, congrArg (Value.int .i64) (by omega), congrArg (Value.int .u64) (by omega), hstep.out.symm, hall2.out, trivial⟩
    · obtain rfl : k = s.size := by omega
      have hlt' : ¬ (s.size : Int) < (s.size : Int) := by omega
      have htk : r.take (s.size - 1) = r := List.take_of_length_le (by rw [hrl.out]; exact Nat.le_refl _)
      rw [htk] at hn hall
      have hnb : n < 10000000000000000000 := by
        have h1 := valD_lt' _ hall
        rw [← hn] at h1
        have h3 : 10 ^ r.length ≤ 10 ^ 19 := Nat.pow_le_pow_right (by decide) hr19.out
        omega
      by_cases hbig : 9223372036854775808 < n
      · have hno := Lib.hid (refG_none (sg := true) (r := r) (.inr (.inr (.inr (.inr (by rw [← hn]; exact hbig))))))
        have gI : 9223372036854775808 < (n : Int) := by omega
        clear hn hall htk
        go_wp2_with fail
        exact bodyPost_ret (v := .tuple #[.int .i64 0, .bool false]) (by simp [results, Tryd.results21, go_sem]) rfl ⟨NumQ_no hno.out, rfl⟩
      have gI : ¬ 9223372036854775808 < (n : Int) := by omega
      have hyes : refG true r = some (-(n : Int)) := by
        unfold refG
        rw [if_pos ⟨hne.out, hr19.out, fun q => hh2.out q.1, hall, by rw [← hn]; show n ≤ 9223372036854775808; omega⟩, ← hn]
        rfl
      replace hyes := Lib.hid hyes
      have hn0 : (0 : Int) ≤ (n : Int) := by omega
      have hn1 : 1 ≤ n := by
        have := (canon r hne.out hall hh2.out).2
        omega
      clear hn hall htk
      go_wp2_with fail
      have hw : wrap64 (IntKind.u64.wrap (-(n : Int))) = -(n : Int) := by
        rw [IntKind.wrap_u64]
        unfold wrap64
        omega
      exact bodyPost_ret (v := .tuple #[.int .i64 (-(n : Int)), .bool true]) (by simp [results, Tryd.results21, go_sem, hw]) rfl ⟨⟨-(n : Int), true, rfl, .inl ⟨rfl, hyes.out⟩⟩, rfl⟩
theorem rnumber_c (s : ByteArray) (hs : s.size ≤ 100000) (w : World) : Calls Tryd.prog 21 #[.string s] w fun x w' => NumE s.data.toList x ∧ w' = w := by
  have e : ∀ x, NumQ (refN s.data.toList) x → NumE s.data.toList x := fun x h => by
    rw [numA_ref] at h
    exact h
  have hl : s.data.toList.length = s.size := Array.length_toList
  by_cases h0 : s.size = 0
  · obtain rfl : s = ⟨#[]⟩ := ByteArray.ext (Array.eq_empty_of_size_eq_zero h0)
    exact (rnum_empty w).mono fun x w' h => ⟨e x h.1, h.2⟩
  have hp : 0 < s.size := by omega
  have hc : s.data.toList = s[0]'hp :: s.data.toList.drop 1 := by
    have h := List.drop_eq_getElem_cons (l := s.data.toList) (i := 0) (by omega)
    rw [List.drop_zero] at h
    exact h
  by_cases h45 : s[0]'hp = 45
  · have e2 : refN s.data.toList = refG true (s.data.toList.drop 1) := by
      conv => lhs; rw [hc, h45]
      exact refN_neg _
    rw [e2] at e
    exact (rnum_neg s hs hp h45 _ rfl w).mono fun x w' h => ⟨e x h.1, h.2⟩
  · have e2 : refN s.data.toList = refG false s.data.toList := refN_pos _ (by rw [hc]; intro q; exact h45 (Option.some.inj q))
    rw [e2] at e
    by_cases h48 : s[0]'hp = 48 ∧ s.size = 1
    · obtain rfl : s = ⟨#[48]⟩ := by
        apply ByteArray.ext
        apply Array.ext'
        rw [hc, h48.1, List.drop_eq_nil_of_le (by omega)]
      exact (rnum_zero w).mono fun x w' h => ⟨e x h.1, h.2⟩
    · exact (rnum_pos s hs hp h45 h48 s.data.toList rfl w).mono fun x w' h => ⟨e x h.1, h.2⟩
end Go.Proofs.YtcophjjjkonpjaaDoor

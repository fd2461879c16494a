/- record: sum, First, Named, check. -/
import Derived.Test.YtkbgcmfldfbcgaaDoorPm
import Derived.Test.YtkbgcmfldfbcgaaDoorShelf
import Derived.BigQuiet
namespace Go.Proofs.YtkbgcmfldfbcgaaDoor
open Go.RowKit
set_option maxRecDepth 100000
set_option linter.unusedSimpArgs false
set_option linter.unusedVariables false
def sumE (s : ByteArray) : Int := if s.size ≠ 32 then 4 else 0
theorem sum_c (s : ByteArray) (w : World) : Calls Tryd.prog 17 #[.string s] w fun x w' => x = .returned (.int .i64 (sumE s)) ∧ w' = w := by
  go_enter Tryd.func17, Tryd.ntmps17
  by_cases h : s.size = 32
  · have h2 : (s.size : Int) = 32 := by omega
    go_wp2
    go_ret
    exact ⟨by simp [sumE, h], rfl⟩
  · have h2 : ¬ (s.size : Int) = 32 := by omega
    go_wp2
    go_ret
    exact ⟨by simp [sumE, h], rfl⟩
/-- The first error. -/
def firstE (a b c d e : Int) : Int := if a ≠ 0 then a else if b ≠ 0 then b else if c ≠ 0 then c else if d ≠ 0 then d else e
theorem First_c (a b c d e : Int) (g : Nat) (w : World) (hk : w.heap[g]? = some (.cells #[.int .i64 a, .int .i64 b, .int .i64 c, .int .i64 d, .int .i64 e] 26 (0, 0))) : Calls Tryd.prog 18 #[.slice (some ⟨g, 0, none⟩) 5 5] w fun x w' => x = .returned (.int .i64 (firstE a b c d e)) ∧ w' = w := by
  have c0 := blk_cell hk 0
  have c1 := blk_cell hk 1
  have c2 := blk_cell hk 2
  have c3 := blk_cell hk 3
  have c4 := blk_cell hk 4
  simp only [List.getElem?_toArray, List.getElem?_cons_zero, List.getElem?_cons_succ] at c0 c1 c2 c3 c4
  clear hk
  go_enter Tryd.func18, Tryd.ntmps18
  go_wp2_with fail
  refine wp_loop_rounds 6 ?_
  rw [rounds_succ]
  by_cases h0 : a = 0
  case neg => go_wp2; go_ret; exact ⟨by simp [firstE, h0], rfl⟩
  subst h0
  go_wp2
  rw [rounds_succ]
  by_cases h1 : b = 0
  case neg => go_wp2; go_ret; exact ⟨by simp [firstE, h1], rfl⟩
  subst h1
  go_wp2
  rw [rounds_succ]
  by_cases h2 : c = 0
  case neg => go_wp2; go_ret; exact ⟨by simp [firstE, h2], rfl⟩
  subst h2
  go_wp2
  rw [rounds_succ]
  by_cases h3 : d = 0
  case neg => go_wp2; go_ret; exact ⟨by simp [firstE, h3], rfl⟩
  subst h3
  go_wp2
  rw [rounds_succ]
  by_cases h4 : e = 0
  case neg => go_wp2; go_ret; exact ⟨by simp [firstE, h4], rfl⟩
  subst h4
  go_wp2
  rw [rounds_succ]
  go_wp2
  go_ret
  exact ⟨by simp [firstE], rfl⟩
def nmE (s : ByteArray) : Int := if proI s = 0 then 9 else 0
theorem Named_c (s : ByteArray) (w : World) : Calls Tryd.prog 13 #[.string s] w fun x w' => x = .returned (.tuple #[.int .i64 (proI s), .int .i64 (nmE s)]) ∧ Below w.heap.size w w' := by
  have hI := fun (w : World) (g : Nat) (hk : w.heap[g]? = some (.cells #[.string pn1, .string pn2, .string pn3, .string pn4, .string pn5] 9 (0, 0))) => Tryd.slices_Index_string g 0 5 5 [pn1, pn2, pn3, pn4, pn5] s w (by decide) (by decide) (fun j hj => by
    have := blk_cell hk j
    match j, hj with
    | 0, _ => simpa using this
    | 1, _ => simpa using this
    | 2, _ => simpa using this
    | 3, _ => simpa using this
    | 4, _ => simpa using this)
  have hv : Lib.idxOfS ([pn1, pn2, pn3, pn4, pn5].take 5) s = (proI s : Int) - 1 := by
    unfold proI
    simp only [List.take_succ_cons, List.take_zero, Lib.idxOfS, Lib.idxFromS]
    simp only [eq_comm (a := s), beq_iff_eq]
    repeat' split
    all_goals first | rfl | contradiction | simp_all
  rw [hv] at hI
  by_cases h : proI s = 0
  · rw [h] at hI
    have e9 : nmE s = 9 := by simp [nmE, h]
    rw [e9, h]
    go_enter Tryd.func13, Tryd.ntmps13
    go_wp2_with (first | (go_at_call 24; refine (pnames_c _).mono ?_; rintro e w1 ⟨rfl, hk, hb⟩) | (go_at_call 29; refine (hI _ _ hk).mono ?_; rintro e w2 ⟨rfl, rfl⟩))
    exact bodyPost_ret (v := .tuple #[.int .i64 0, .int .i64 9]) (by simp [results, Tryd.results13, go_sem]) rfl ⟨rfl, hb⟩
  · obtain ⟨m, hm⟩ : ∃ m : Nat, proI s = m + 1 := ⟨proI s - 1, by omega⟩
    have hm5 := (proN_I s h).2
    have e0 : nmE s = 0 := by simp [nmE, h]
    rw [hm, show ((m + 1 : Nat) : Int) - 1 = (m : Int) by omega] at hI
    rw [e0, hm]
    have q0 : ¬ (m : Int) < 0 := by omega
    have q1 : IntKind.i64.wrap ((m : Int) + 1) = ((m + 1 : Nat) : Int) := by rw [IntWalk.i64_in _ (by omega)]; omega
    clear h hm hv
    go_enter Tryd.func13, Tryd.ntmps13
    go_wp2_with (first | (go_at_call 24; refine (pnames_c _).mono ?_; rintro e w1 ⟨rfl, hk, hb⟩) | (go_at_call 29; refine (hI _ _ hk).mono ?_; rintro e w2 ⟨rfl, rfl⟩))
    exact bodyPost_ret (v := .tuple #[.int .i64 ((m + 1 : Nat) : Int), .int .i64 0]) (by simp [results, Tryd.results13, go_sem]) rfl ⟨rfl, hb⟩
end Go.Proofs.YtkbgcmfldfbcgaaDoor

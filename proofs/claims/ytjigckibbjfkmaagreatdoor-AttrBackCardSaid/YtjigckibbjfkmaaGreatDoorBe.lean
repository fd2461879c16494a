/- Contracts of the base64 reference: sign, number, bits. -/
import Derived.Test.YtjigckibbjfkmaaGreatDoorBc
namespace Go.Proofs.YtjigckibbjfkmaaGreatDoor
open Go.RowKit Go.Lib
set_option maxRecDepth 100000
set_option linter.unusedSimpArgs false
set_option linter.unusedVariables false
theorem sg_a (n : Nat) (h : n < 26) : 65 + n = (sg n).toNat := by
  have : ∀ x : Fin 26, 65 + x.val = (sg x.val).toNat := by decide +kernel
  exact this ⟨n, h⟩
theorem sg_b (n : Nat) (h1 : 26 ≤ n) (h : n < 52) : 97 + n - 26 = (sg n).toNat := by
  have : ∀ x : Fin 52, 26 ≤ x.val → 97 + x.val - 26 = (sg x.val).toNat := by decide +kernel
  exact this ⟨n, h⟩ h1
theorem sg_c (n : Nat) (h1 : 52 ≤ n) (h : n < 62) : 48 + n - 52 = (sg n).toNat := by
  have : ∀ x : Fin 62, 52 ≤ x.val → 48 + x.val - 52 = (sg x.val).toNat := by decide +kernel
  exact this ⟨n, h⟩ h1
theorem sign_c (n : Nat) (hn : n < 64) (w : World) : Calls Tryz.prog 54 #[.int .i64 (n : Int)] w fun e w' => e = .returned (.int .u8 ((sg n).toNat : Int)) ∧ w' = w := by
  rcases Nat.lt_or_ge n 26 with h1 | h1
  · have q1 : (n : Int) < 26 := by omega
    have e := sg_a n h1
    have e2 : ((sg n).toNat : Int) = 65 + (n : Int) := by omega
    rw [e2]
    go_enter Tryz.func54, Tryz.ntmps54
    go_wp2
    exact bodyPost_ret (v := .int .u8 (65 + (n : Int))) (by simp [results, Tryz.results54, go_sem]) rfl ⟨rfl, rfl⟩
  rcases Nat.lt_or_ge n 52 with h2 | h2
  · have q1 : ¬ (n : Int) < 26 := by omega
    have q2 : (n : Int) < 52 := by omega
    have e := sg_b n h1 h2
    have e2 : ((sg n).toNat : Int) = 97 + (n : Int) - 26 := by omega
    rw [e2]
    go_enter Tryz.func54, Tryz.ntmps54
    go_wp2
    exact bodyPost_ret (v := .int .u8 (97 + (n : Int) - 26)) (by simp [results, Tryz.results54, go_sem]) rfl ⟨rfl, rfl⟩
  rcases Nat.lt_or_ge n 62 with h3 | h3
  · have q1 : ¬ (n : Int) < 26 := by omega
    have q2 : ¬ (n : Int) < 52 := by omega
    have q3 : (n : Int) < 62 := by omega
    have e := sg_c n h2 h3
    have e2 : ((sg n).toNat : Int) = 48 + (n : Int) - 52 := by omega
    rw [e2]
    go_enter Tryz.func54, Tryz.ntmps54
    go_wp2
    exact bodyPost_ret (v := .int .u8 (48 + (n : Int) - 52)) (by simp [results, Tryz.results54, go_sem]) rfl ⟨rfl, rfl⟩
  · obtain rfl | rfl : n = 62 ∨ n = 63 := by omega
    · go_enter Tryz.func54, Tryz.ntmps54
      go_wp2
      exact bodyPost_ret (v := .int .u8 43) (by simp [results, Tryz.results54, go_sem]) rfl ⟨rfl, rfl⟩
    · go_enter Tryz.func54, Tryz.ntmps54
      go_wp2
      exact bodyPost_ret (v := .int .u8 47) (by simp [results, Tryz.results54, go_sem]) rfl ⟨rfl, rfl⟩
/-- A sign's number, below 0 if it is none. -/
def ixR (c : UInt8) : Int := match un c with
  | some n => (n : Int)
  | none => -1
theorem un_first (c : UInt8) (k : Nat) (hk : k < 64) (h : sg k = c) : un c = some k := by rw [← h]; exact un_sg k hk
set_option maxHeartbeats 2000000 in
theorem number_c (c : UInt8) (w : World) : Calls Tryz.prog 59 #[.int .u8 (c.toNat : Int)] w fun e w' => e = .returned (.int .i64 (ixR c)) ∧ w' = w := by
  have hSg := fun (n : Nat) (hn : n < 64) (w : World) => sign_c n hn w
  replace hSg := Lib.hid hSg
  go_enter Tryz.func59, Tryz.ntmps59
  go_wp2_with fail
  go_loop [3] (fun i => ∃ k : Nat, k ≤ 64 ∧ i = .int .i64 (k : Int) ∧ ∀ j, j < k → sg j ≠ c) (fun i => 64 - (RowKit.intOf i).toNat)
  case atStart => exact ⟨0, by omega, rfl, fun j h => absurd h (by omega)⟩
  case round =>
    obtain ⟨k, hk, rfl, hno⟩ := hrel
    replace hno := Lib.hid hno
    have pn : (0 : Int) ≤ (k : Int) := by omega
    by_cases hlt : k < 64
    · have hlt' : (k : Int) < 64 := by omega
      have hs := hSg.out k hlt
      by_cases hc : sg k = c
      · have hx : ixR c = (k : Int) := by simp [ixR, un_first c k hlt hc]
        have hq : (((sg k).toNat : Int) == (c.toNat : Int)) = true := by rw [hc]; simp
        go_wp2_with (go_at_call 54; refine (hs _).mono ?_; rintro e w1 ⟨rfl, rfl⟩)
        exact bodyPost_ret (v := .int .i64 (k : Int)) (by simp [results, Tryz.results59, go_sem]) rfl ⟨by rw [hx], rfl⟩
      · have hne : (sg k).toNat ≠ c.toNat := fun e => hc (UInt8.toNat_inj.1 e)
        have hq : (((sg k).toNat : Int) == (c.toNat : Int)) = false := by simp; omega
        clear hne
        go_wp2_with (go_at_call 54; refine (hs _).mono ?_; rintro e w1 ⟨rfl, rfl⟩)
        go_round
        case rel => exact ⟨k + 1, by omega, congrArg (Value.int .i64) (by omega), fun j hj => by
          rcases Nat.lt_or_ge j k with h | h
          · exact hno.out j h
          · obtain rfl : j = k := by omega
            exact hc⟩
        case measure => simp [RowKit.intOf] <;> omega
    · obtain rfl : k = 64 := by omega
      have hlt' : ¬ ((64 : Nat) : Int) < 64 := by omega
      have hx : ixR c = -1 := by
        unfold ixR
        cases hu : un c with
        | none => rfl
        | some n =>
          obtain ⟨h1, h2⟩ := sg_un c n hu
          exact absurd h1 (hno.out n h2)
      go_wp2_with fail
      exact bodyPost_ret (v := .int .i64 (-1)) (by simp [results, Tryz.results59, go_sem]) rfl ⟨by first | rfl | rw [hx], rfl⟩
def iv (n : Nat) : Value := .int .i64 (n : Int)
theorem bits8_iv (b : UInt8) : (bits8 b).map iv = [.int .i64 ((b.toNat : Int) / 128 % 2), .int .i64 ((b.toNat : Int) / 64 % 2), .int .i64 ((b.toNat : Int) / 32 % 2), .int .i64 ((b.toNat : Int) / 16 % 2), .int .i64 ((b.toNat : Int) / 8 % 2), .int .i64 ((b.toNat : Int) / 4 % 2), .int .i64 ((b.toNat : Int) / 2 % 2), .int .i64 ((b.toNat : Int) % 2)] := by
  simp [bits8, iv]
theorem bitsL_take (l : List UInt8) (k : Nat) (h : k < l.length) : bitsL (l.take (k + 1)) = bitsL (l.take k) ++ bits8 l[k] := by
  rw [List.take_succ_eq_append_getElem h]; simp only [bitsL, List.flatMap_append, List.flatMap_cons, List.flatMap_nil, List.append_nil]
theorem bitsL_length (l : List UInt8) : (bitsL l).length = 8 * l.length := by
  induction l with
  | nil => rfl
  | cons a l ih =>
    have e : bitsL (a :: l) = bits8 a ++ bitsL l := by simp [bitsL]
    rw [e, List.length_append, ih, List.length_cons]; simp [bits8]; omega
/-- A row of ints that is the call's own. -/
def OwnI (w : World) (base : Nat) (sv : Value) (n : Nat) (l : List Nat) : Prop := w.ownsRow base 3 1 sv n (l.map iv)
theorem own_form {w : World} {base : Nat} {e : TypeId} {size : Nat} {sv : Value} {n : Nat} {xs : List Value} (h : w.ownsRow base e size sv n xs) : ∃ ao cap, sv = .slice ao n cap := by
  rcases h.2 with ⟨rfl, rfl⟩ | ⟨g, cap, _, rfl, _⟩
  · exact ⟨none, 0, rfl⟩
  · exact ⟨_, cap, rfl⟩
/-- An owned row's cell. -/
theorem own_at {w : World} {base : Nat} {e : TypeId} {sv : Value} {n : Nat} {xs : List Value} (h : w.ownsRow base e 1 sv n xs) {i : Nat} {v : Value} (hi : xs[i]? = some v) : ∃ g cap, sv = .slice (some ⟨g, 0, none⟩) n cap ∧ w.cell? ⟨g, i, none⟩ = some v := by
  rcases h.2 with ⟨rfl, rfl⟩ | ⟨g, cap, cur, rfl, _, hk, _, _, _, ht⟩
  · have := h.1
    have hlt : i < xs.length := (List.getElem?_eq_some_iff.1 hi).1
    omega
  · refine ⟨g, cap, rfl, ?_⟩
    rw [← ht] at hi
    have h2 : cur.toList[i]? = some v := by
      rw [List.getElem?_take] at hi
      split at hi
      · exact hi
      · cases hi
    simp [World.cell?, hk]
    simpa using h2
set_option maxHeartbeats 8000000 in
theorem bits_c (s : ByteArray) (hs : s.size ≤ 4000) (w : World) : Calls Tryz.prog 53 #[.string s] w fun e w' => ∃ ao cap, e = .returned (.slice ao (8 * s.size) cap) ∧ w'.ownsRow w.heap.size 3 1 (.slice ao (8 * s.size) cap) (8 * s.size) ((bitsL s.data.toList).map iv) ∧ Below w.heap.size w w' := by
  have hl : s.data.toList.length = s.size := Array.length_toList
  replace hl := Lib.hid hl
  go_enter Tryz.func53, Tryz.ntmps53
  go_wp2_with fail
  have hO0 : w.ownsRow w.heap.size 3 1 (.slice none 0 0) 0 ((bitsL (s.data.toList.take 0)).map iv) := World.ownsRow_nil _ _ _ _
  go_loopw [4, 3] (fun i sv wr => ∃ k : Nat, k ≤ s.size ∧ i = .int .i64 (k : Int) ∧ Below w.heap.size w wr ∧ wr.ownsRow w.heap.size 3 1 sv (8 * k) ((bitsL (s.data.toList.take k)).map iv)) (fun i _ _ => s.size - (RowKit.intOf i).toNat)
  case atStart => exact ⟨0, by omega, rfl, Below.refl _ _, hO0⟩
  case round =>
    clear hO0
    obtain ⟨k, hk, rfl, HB, HO⟩ := hrel
    have pn : (0 : Int) ≤ (k : Int) := by omega
    by_cases hlt : k < s.size
    · have hlt' : (k : Int) < (s.size : Int) := by omega
      have hb0 : s[k].toNat < 256 := s[k].toNat_lt
      have hb1 : (s[k].toNat : Int) < 256 := by omega
      have hst := bitsL_take s.data.toList k (by rw [hl.out]; exact hlt)
      have he : s.data.toList[k]'(by rw [hl.out]; exact hlt) = s[k] := rfl
      rw [he] at hst
      replace hst := Lib.hid hst
      clear he
      go_wp2_with fail
      refine wp_loop_rounds 9 ?_
      rw [rounds_succ]
      go_wp2_with (refine wpList_app1 rfl _ _ 67 rfl w.heap.size 3 (.int .i64 0) 8 Tryz.underlying67 (by kernel_rfl) rfl (by decide) _ _ _ rfl (ownsRow_block HO fun g hg => heap_alloc_old _ _ (ownsRow_lt HO hg).2) _ 1 _ rfl (blk_cell (blk_new _ _) 0) rfl (by omega) (by have := HB.size; simp; omega) ?_; intro g4 cap4 w4 HO4 hg4 hsv4 hlt4; replace HB := grown_below (bl_alloc HB _) hg4 (by have := HB.size; simp; omega) (fun g hg => (ownsRow_lt HO hg).1); replace HO := HO4; clear hg4 HO4 hsv4 hlt4)
      rw [rounds_succ]
      go_wp2_with (refine wpList_app1 rfl _ _ 67 rfl w.heap.size 3 (.int .i64 0) 8 Tryz.underlying67 (by kernel_rfl) rfl (by decide) _ _ _ rfl (ownsRow_block HO fun g hg => heap_alloc_old _ _ (ownsRow_lt HO hg).2) _ 1 _ rfl (blk_cell (blk_new _ _) 0) rfl (by omega) (by have := HB.size; simp; omega) ?_; intro g4 cap4 w4 HO4 hg4 hsv4 hlt4; replace HB := grown_below (bl_alloc HB _) hg4 (by have := HB.size; simp; omega) (fun g hg => (ownsRow_lt HO hg).1); replace HO := HO4; clear hg4 HO4 hsv4 hlt4)
      rw [rounds_succ]
      go_wp2_with (refine wpList_app1 rfl _ _ 67 rfl w.heap.size 3 (.int .i64 0) 8 Tryz.underlying67 (by kernel_rfl) rfl (by decide) _ _ _ rfl (ownsRow_block HO fun g hg => heap_alloc_old _ _ (ownsRow_lt HO hg).2) _ 1 _ rfl (blk_cell (blk_new _ _) 0) rfl (by omega) (by have := HB.size; simp; omega) ?_; intro g4 cap4 w4 HO4 hg4 hsv4 hlt4; replace HB := grown_below (bl_alloc HB _) hg4 (by have := HB.size; simp; omega) (fun g hg => (ownsRow_lt HO hg).1); replace HO := HO4; clear hg4 HO4 hsv4 hlt4)
      rw [rounds_succ]
      go_wp2_with (refine wpList_app1 rfl _ _ 67 rfl w.heap.size 3 (.int .i64 0) 8 Tryz.underlying67 (by kernel_rfl) rfl (by decide) _ _ _ rfl (ownsRow_block HO fun g hg => heap_alloc_old _ _ (ownsRow_lt HO hg).2) _ 1 _ rfl (blk_cell (blk_new _ _) 0) rfl (by omega) (by have := HB.size; simp; omega) ?_; intro g4 cap4 w4 HO4 hg4 hsv4 hlt4; replace HB := grown_below (bl_alloc HB _) hg4 (by have := HB.size; simp; omega) (fun g hg => (ownsRow_lt HO hg).1); replace HO := HO4; clear hg4 HO4 hsv4 hlt4)
      rw [rounds_succ]
      go_wp2_with (refine wpList_app1 rfl _ _ 67 rfl w.heap.size 3 (.int .i64 0) 8 Tryz.underlying67 (by kernel_rfl) rfl (by decide) _ _ _ rfl (ownsRow_block HO fun g hg => heap_alloc_old _ _ (ownsRow_lt HO hg).2) _ 1 _ rfl (blk_cell (blk_new _ _) 0) rfl (by omega) (by have := HB.size; simp; omega) ?_; intro g4 cap4 w4 HO4 hg4 hsv4 hlt4; replace HB := grown_below (bl_alloc HB _) hg4 (by have := HB.size; simp; omega) (fun g hg => (ownsRow_lt HO hg).1); replace HO := HO4; clear hg4 HO4 hsv4 hlt4)
      rw [rounds_succ]
      go_wp2_with (refine wpList_app1 rfl _ _ 67 rfl w.heap.size 3 (.int .i64 0) 8 Tryz.underlying67 (by kernel_rfl) rfl (by decide) _ _ _ rfl (ownsRow_block HO fun g hg => heap_alloc_old _ _ (ownsRow_lt HO hg).2) _ 1 _ rfl (blk_cell (blk_new _ _) 0) rfl (by omega) (by have := HB.size; simp; omega) ?_; intro g4 cap4 w4 HO4 hg4 hsv4 hlt4; replace HB := grown_below (bl_alloc HB _) hg4 (by have := HB.size; simp; omega) (fun g hg => (ownsRow_lt HO hg).1); replace HO := HO4; clear hg4 HO4 hsv4 hlt4)
      rw [rounds_succ]
      go_wp2_with (refine wpList_app1 rfl _ _ 67 rfl w.heap.size 3 (.int .i64 0) 8 Tryz.underlying67 (by kernel_rfl) rfl (by decide) _ _ _ rfl (ownsRow_block HO fun g hg => heap_alloc_old _ _ (ownsRow_lt HO hg).2) _ 1 _ rfl (blk_cell (blk_new _ _) 0) rfl (by omega) (by have := HB.size; simp; omega) ?_; intro g4 cap4 w4 HO4 hg4 hsv4 hlt4; replace HB := grown_below (bl_alloc HB _) hg4 (by have := HB.size; simp; omega) (fun g hg => (ownsRow_lt HO hg).1); replace HO := HO4; clear hg4 HO4 hsv4 hlt4)
      rw [rounds_succ]
      go_wp2_with (refine wpList_app1 rfl _ _ 67 rfl w.heap.size 3 (.int .i64 0) 8 Tryz.underlying67 (by kernel_rfl) rfl (by decide) _ _ _ rfl (ownsRow_block HO fun g hg => heap_alloc_old _ _ (ownsRow_lt HO hg).2) _ 1 _ rfl (blk_cell (blk_new _ _) 0) rfl (by omega) (by have := HB.size; simp; omega) ?_; intro g4 cap4 w4 HO4 hg4 hsv4 hlt4; replace HB := grown_below (bl_alloc HB _) hg4 (by have := HB.size; simp; omega) (fun g hg => (ownsRow_lt HO hg).1); replace HO := HO4; clear hg4 HO4 hsv4 hlt4)
      rw [rounds_succ]
      go_wp2_with fail
      refine ⟨⟨k + 1, by omega, congrArg (Value.int .i64) (by omega), HB, ?_⟩, by simp [RowKit.intOf] <;> omega⟩
      rw [hst.out, List.map_append, bits8_iv, show 8 * (k + 1) = 8 * k + 1 + 1 + 1 + 1 + 1 + 1 + 1 + 1 by omega]
      simpa using HO
    · obtain rfl : k = s.size := by omega
      have hlt' : ¬ (s.size : Int) < (s.size : Int) := by omega
      rw [List.take_of_length_le (by rw [hl.out]; exact Nat.le_refl _)] at HO
      obtain ⟨ao, cap, rfl⟩ := own_form HO
      go_wp2_with fail
      exact bodyPost_ret (v := .slice ao (8 * s.size) cap) (by simp [results, Tryz.results53, go_sem]) rfl ⟨ao, cap, rfl, HO, HB⟩
end Go.Proofs.YtjigckibbjfkmaaGreatDoor

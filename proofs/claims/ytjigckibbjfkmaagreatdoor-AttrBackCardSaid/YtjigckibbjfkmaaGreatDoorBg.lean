/- The contract of base64.Decode. -/
import Derived.Test.YtjigckibbjfkmaaGreatDoorBd
namespace Go.Proofs.YtjigckibbjfkmaaGreatDoor
open Go.RowKit Go.Lib
set_option maxRecDepth 100000
set_option linter.unusedSimpArgs false
set_option linter.unusedVariables false
theorem list4 (S : ByteArray) (h : S.size = 4) : S.data.toList = [S[0]'(by omega), S[1]'(by omega), S[2]'(by omega), S[3]'(by omega)] := by
  have h0 := list_at S 0 (by omega)
  have h1 := list_at S 1 (by omega)
  have h2 := list_at S 2 (by omega)
  have h3 := list_at S 3 (by omega)
  rw [@List.drop_eq_nil_of_le UInt8 S.data.toList (3 + 1) (by rw [Array.length_toList]; exact Nat.le_of_eq h)] at h3
  rw [h3] at h2
  rw [h2] at h1
  rw [List.drop_zero, h1] at h0
  exact h0
theorem quads_c (S : ByteArray) (h4 : S.size = 4) (last : Bool) (w : World) : Calls Tryz.prog 97 #[.string S, .bool last] w fun e w' => e = .returned (qv (if last then lastN (S[0]'(by omega)) (S[1]'(by omega)) (S[2]'(by omega)) (S[3]'(by omega)) else 3) (S[0]'(by omega)) (S[1]'(by omega)) (S[2]'(by omega)) (S[3]'(by omega))) ∧ w' = w := by
  cases last with
  | false => exact quads3f_c S h4 w
  | true =>
    have hL := list4 S h4
    obtain ⟨a, ha⟩ : ∃ a, a = S[0]'(by omega) := ⟨_, rfl⟩
    obtain ⟨b, hb⟩ : ∃ a, a = S[1]'(by omega) := ⟨_, rfl⟩
    obtain ⟨c, hc⟩ : ∃ a, a = S[2]'(by omega) := ⟨_, rfl⟩
    obtain ⟨d, hd⟩ : ∃ a, a = S[3]'(by omega) := ⟨_, rfl⟩
    rw [← ha, ← hb, ← hc, ← hd] at hL
    simp only [if_true]
    rw [← ha, ← hb, ← hc, ← hd]
    by_cases k3 : d = 61
    · by_cases k2 : c = 61
      · by_cases k1 : b = 61
        · have e : lastN a b c d = 0 := by simp [lastN, k1, k2, k3]
          rw [e]
          refine quads0_c S h4 ?_ w
          rw [hL, k1, k2, k3]
          by_cases k0 : a = 61
          · rw [k0]; decide
          · simp [trimRightB, k0]
        · have e : lastN a b c d = 1 := by simp [lastN, k1, k2, k3]
          rw [e]
          have := quads1t_c S h4 (by rw [hL, k2, k3]; simp [trimRightB, k1]) w
          rw [← ha, ← hb, ← hc, ← hd] at this
          exact this
      · have e : lastN a b c d = 2 := by simp [lastN, k2, k3]
        rw [e]
        have := quads2t_c S h4 (by rw [hL, k3]; simp [trimRightB, k2]) w
        rw [← ha, ← hb, ← hc, ← hd] at this
        exact this
    · have e : lastN a b c d = 3 := by simp [lastN, k3]
      rw [e]
      have := quads3t_c S h4 (by rw [hL]; simp [trimRightB, k3]) w
      rw [← ha, ← hb, ← hc, ← hd] at this
      exact this
/-- What the next four signs are. -/
def step (n : Nat) (a b c d : UInt8) : Option Nat := if n = 0 then none else quadN n a b c d
theorem dec_step (a b c d : UInt8) (r : List UInt8) (last : Bool) (hl : last = true ↔ r = []) : decL (a :: b :: c :: d :: r) = (match step (if last then lastN a b c d else 3) a b c d with | some v => (decL r).map (outN (if last then lastN a b c d else 3) v ++ ·) | none => none) := by
  cases r with
  | nil =>
    obtain rfl : last = true := hl.2 rfl
    simp only [if_true, decL, step]
    split
    · rfl
    · cases quadN (lastN a b c d) a b c d <;> simp
  | cons x l =>
    have : last = false := by
      cases last with
      | false => rfl
      | true => have := hl.1 rfl; cases this
    subst this
    rw [decL]
    · simp only [step, if_neg (show ¬ (3 = 0) by decide), Bool.false_eq_true, if_false]
      cases quadN 3 a b c d with
      | none => rfl
      | some v => cases decL (x :: l) <;> rfl
    · intro q; cases q
theorem dec_mod (l : List UInt8) (h : l.length % 4 ≠ 0) : decL l = none := by
  cases hd : decL l with
  | none => rfl
  | some t =>
    have := enc_dec l t hd
    rw [← this, encL_length] at h
    omega
theorem lastN_le (a b c d : UInt8) : lastN a b c d ≤ 3 := by
  unfold lastN
  split
  · split
    · split <;> omega
    · omega
  · omega
theorem step_n (n : Nat) (a b c d : UInt8) (v : Nat) (h : step n a b c d = some v) : n ≠ 0 := by
  intro e
  rw [e] at h
  simp [step] at h
theorem step_lt (n : Nat) (a b c d : UInt8) (v : Nat) (h : step n a b c d = some v) : v < 16777216 := by
  have k0 := step_n n a b c d v h
  simp only [step, if_neg k0, quadN] at h
  cases hx : un a with
  | none => simp [hx] at h
  | some x =>
    cases hy : un b with
    | none => simp [hx, hy] at h
    | some y =>
      simp only [hx, hy] at h
      have l0 := (sg_un a x hx).2
      have l1 := (sg_un b y hy).2
      split at h
      · split at h
        · cases h; omega
        · cases h
      · cases hz : un c with
        | none => simp [hz] at h
        | some z =>
          simp only [hz] at h
          have l2 := (sg_un c z hz).2
          split at h
          · split at h
            · cases h; omega
            · cases h
          · cases hu : un d with
            | none => simp [hu] at h
            | some u =>
              simp only [hu] at h
              have l3 := (sg_un d u hu).2
              cases h; omega
theorem b16 (v : Nat) (h : v < 16777216) : ((UInt8.ofNat (v / 65536)).toNat : Int) = (v : Int) / 65536 := by rw [UInt8.toNat_ofNat']; omega
theorem b8 (v : Nat) : ((UInt8.ofNat (v / 256)).toNat : Int) = (v : Int) / 256 % 256 := by rw [UInt8.toNat_ofNat']; omega
theorem b0 (v : Nat) : ((UInt8.ofNat v).toNat : Int) = (v : Int) % 256 := by rw [UInt8.toNat_ofNat']; omega
theorem qv_step (n : Nat) (a b c d : UInt8) : qv n a b c d = (match step n a b c d with | some v => .tuple #[.int .i64 (v : Int), .int .i64 (n : Int)] | none => .tuple #[.int .i64 0, .int .i64 0]) := rfl
def dres : Option (List UInt8) → Value
  | some t => .tuple #[.string ⟨t.toArray⟩, .int .i64 0]
  | none => .tuple #[.string ⟨#[]⟩, .int .i64 5]
theorem ext_at (s : ByteArray) (q j : Nat) (h : 4 * q + 4 ≤ s.size) (hj : j < 4) (h2 : j < (s.extract (4 * q) (4 * q + 4)).size) : (s.extract (4 * q) (4 * q + 4))[j] = s[4 * q + j]'(by omega) := by
  simp [ByteArray.getElem_extract]
theorem sl_c (s : ByteArray) (q : Nat) (h : 4 * q + 4 ≤ s.size) (w : World) : (Instr.slice 9 (.string s) (some (.int .i64 (4 * (q : Int)))) (some (.int .i64 (4 * (q : Int) + 4))) none).run Tryz.prog w = .ok (.string (s.extract (4 * q) (4 * q + 4))) w := by
  have := run_slice_string (P := Tryz.prog) w 9 s .i64 .i64 (4 * (q : Int)) (4 * (q : Int) + 4) Tryz.underlying9 (by omega) (by omega) (by omega)
  rw [this]
  congr 2
theorem byte_bv (x : Nat) : IntKind.u8.wrap (x : Int) = ((UInt8.ofNat x).toNat : Int) := by
  rw [IntKind.wrap_u8', UInt8.toNat_ofNat']; omega
set_option maxHeartbeats 8000000 in
theorem Decode_c (s : ByteArray) (hs : s.size ≤ 2000) (w : World) : Calls Tryz.prog 82 #[.string s] w fun e w' => e = .returned (dres (decL s.data.toList)) ∧ Below w.heap.size w w' := by
  have hlen : s.data.toList.length = s.size := Array.length_toList
  by_cases hm : s.size % 4 = 0
  case neg =>
    have hd := dec_mod s.data.toList (by rw [hlen]; exact hm)
    rw [hd]
    have hq : ((s.size : Int) % 4 != 0) = true := by simp; omega
    have hq2 : (s.size : Int) % 4 ≠ 0 := by omega
    clear hlen hm hd
    go_enter Tryz.func82, Tryz.ntmps82
    go_wp2_with fail
    exact bodyPost_ret (v := .tuple #[.string ⟨#[]⟩, .int .i64 5]) (by simp [results, Tryz.results82, go_sem]) rfl ⟨rfl, by (repeat (first | exact Below.refl _ _ | (refine bl_alloc ?_ _) | (refine bl_drewN ?_ _) | (refine bl_drew ?_) | (refine bl_call (by assumption) ?_) | (refine bl_set _ _ (by simp <;> omega) ?_) | assumption))⟩
  have hq : ((s.size : Int) % 4 != 0) = false := by simp; omega
  have hq2 : (s.size : Int) % 4 = 0 := by omega
  have hcap : (s.size : Int) / 4 * 3 = ((s.size / 4 * 3 : Nat) : Int) := by omega
  have hcap2 : s.size / 4 * 3 ≤ 1000000 := by omega
  replace hcap := Lib.hid hcap
  have hz0 : (s.size : Int) ≤ 2000 := by omega
  replace hm := Lib.hid hm
  replace hlen := Lib.hid hlen
  go_enter Tryz.func82, Tryz.ntmps82
  go_upto_region 4 with (refine wpList_make0 rfl _ _ 49 rfl w.heap.size 5 (.int .u8 0) 1 Tryz.underlying49 (by kernel_rfl) (by decide) _ (s.size / 4 * 3) rfl rfl hcap.out hcap2 (Nat.le_refl _) ?_; intro w1 HO hg)
  have HB : Below w.heap.size w w1 := (Below.refl _ _).grown hg (Nat.le_refl _) (by simp)
  clear hg
  have hst0 : decL s.data.toList = (decL (s.data.toList.drop (4 * 0))).map (([] : List UInt8) ++ ·) := by simp
  go_wp2_with fail
  go_loopw [5, 4] (fun i sv wr => ∃ q acc, 4 * q ≤ s.size ∧ i = .int .i64 ((4 * q : Nat) : Int) ∧ acc.length ≤ 3 * q ∧ decL s.data.toList = (decL (s.data.toList.drop (4 * q))).map (acc ++ ·) ∧ Below w.heap.size w wr ∧ wr.ownsRow w.heap.size 5 1 sv acc.length (acc.map bv)) (fun i _ _ => s.size - (RowKit.intOf i).toNat)
  case atStart => exact ⟨0, [], by omega, rfl, by simp, hst0, HB, HO⟩
  case round =>
    clear HB HO hst0
    obtain ⟨q, acc, hk, rfl, hal, hch, HB, HO⟩ := hrel
    replace hch := Lib.hid hch
    by_cases hlt : 4 * q < s.size
    · have hlt' : (4 : Int) * (q : Int) < (s.size : Int) := by omega
      have hlt3 : ((4 * q : Nat) : Int) < (s.size : Int) := by omega
      have h44 : 4 * q + 4 ≤ s.size := by have := hm.out; omega
      have h44' : (4 : Int) * (q : Int) + 4 ≤ (s.size : Int) := by omega
      have h45' : (4 : Int) * (q : Int) ≤ (4 : Int) * (q : Int) + 4 := by omega
      obtain ⟨last, hlast⟩ : ∃ last : Bool, last = decide (4 * q + 4 = s.size) := ⟨_, rfl⟩
      have hli : ((4 : Int) * (q : Int) + 4 == (s.size : Int)) = last := by
        rw [hlast]
        by_cases e : 4 * q + 4 = s.size
        · rw [decide_eq_true e]; simp; omega
        · rw [decide_eq_false e]; simp; omega
      have hT4 : (s.extract (4 * q) (4 * q + 4)).size = 4 := by rw [ByteArray.size_extract]; omega
      have hsl := fun w => sl_c s q h44 w
      have hQ := fun w => quads_c (s.extract (4 * q) (4 * q + 4)) hT4 last w
      have hdr : s.data.toList.drop (4 * q) = (s.extract (4 * q) (4 * q + 4))[0]'(by omega) :: (s.extract (4 * q) (4 * q + 4))[1]'(by omega) :: (s.extract (4 * q) (4 * q + 4))[2]'(by omega) :: (s.extract (4 * q) (4 * q + 4))[3]'(by omega) :: s.data.toList.drop (4 * (q + 1)) := by
        rw [ext_at s q 0 h44 (by decide), ext_at s q 1 h44 (by decide), ext_at s q 2 h44 (by decide), ext_at s q 3 h44 (by decide)]
        rw [list_at s (4 * q) (by omega), list_at s (4 * q + 1) (by omega), list_at s (4 * q + 1 + 1) (by omega), list_at s (4 * q + 1 + 1 + 1) (by omega)]
        rfl
      have hll : last = true ↔ s.data.toList.drop (4 * (q + 1)) = [] := by
        rw [hlast, decide_eq_true_iff, List.drop_eq_nil_iff, hlen.out]
        constructor <;> intro h <;> omega
      have hds := dec_step ((s.extract (4 * q) (4 * q + 4))[0]'(by omega)) ((s.extract (4 * q) (4 * q + 4))[1]'(by omega)) ((s.extract (4 * q) (4 * q + 4))[2]'(by omega)) ((s.extract (4 * q) (4 * q + 4))[3]'(by omega)) _ last hll
      rw [← hdr] at hds
      clear hdr hll
      simp only [qv_step] at hQ
      generalize (s.extract (4 * q) (4 * q + 4))[0]'(by omega) = a at hds hQ
      generalize (s.extract (4 * q) (4 * q + 4))[1]'(by omega) = b at hds hQ
      generalize (s.extract (4 * q) (4 * q + 4))[2]'(by omega) = c at hds hQ
      generalize (s.extract (4 * q) (4 * q + 4))[3]'(by omega) = d at hds hQ
      have hn3 : (if last then lastN a b c d else 3) ≤ 3 := by
        split
        · exact lastN_le a b c d
        · omega
      generalize (if last then lastN a b c d else 3) = n at hds hQ hn3
      clear hlast
      cases hst : step n a b c d with
      | none =>
        rw [hst] at hds
        simp only [hst] at hQ
        have hfin : decL s.data.toList = none := by rw [hch.out, hds]; rfl
        clear hds hst hn3 hT4
        go_wp2_with (go_at_call 97; refine (hQ _).mono ?_; rintro e w1 ⟨rfl, rfl⟩)
        exact bodyPost_ret (v := .tuple #[.string ⟨#[]⟩, .int .i64 5]) (by simp [results, Tryz.results82, go_sem]) rfl ⟨by rw [hfin]; rfl, HB⟩
      | some v =>
        rw [hst] at hds
        simp only [hst] at hQ
        have hn0 := step_n n a b c d v hst
        have hvl := step_lt n a b c d v hst
        have hvi : (v : Int) < 16777216 := by omega
        clear hst hT4
        have hnext : decL s.data.toList = (decL (s.data.toList.drop (4 * (q + 1)))).map (acc ++ outN n v ++ ·) := by
          rw [hch.out, hds]
          cases decL (s.data.toList.drop (4 * (q + 1))) <;> simp
        clear hds
        replace hnext := Lib.hid hnext
        rcases (show n = 1 ∨ n = 2 ∨ n = 3 by omega) with rfl | rfl | rfl
        focus
          rw [out1] at hnext
          go_upto_region 11 with (go_at_call 97; refine (hQ _).mono ?_; rintro e w1 ⟨rfl, rfl⟩)
          refine wp_loop_rounds 2 ?_
          rw [rounds_succ]
          go_wp2_with (refine wpList_app1 rfl _ _ 49 rfl w.heap.size 5 (.int .u8 0) 1 Tryz.underlying49 (by kernel_rfl) rfl (by decide) _ _ _ rfl (ownsRow_block HO fun g hg => heap_alloc_old _ _ (ownsRow_lt HO hg).2) _ 1 _ rfl (blk_cell (blk_new _ _) 0) rfl (by omega) (by have := HB.size; simp; omega) ?_; intro g4 cap4 w4 HO4 hg4 hsv4 hlt4; replace HB := grown_below (bl_alloc HB _) hg4 (by have := HB.size; simp; omega) (fun g hg => (ownsRow_lt HO hg).1); replace HO := HO4; clear hg4 HO4 hsv4 hlt4)
          rw [rounds_succ]
          go_wp2_with (refine wpList_app1 rfl _ _ 49 rfl w.heap.size 5 (.int .u8 0) 1 Tryz.underlying49 (by kernel_rfl) rfl (by decide) _ _ _ rfl (ownsRow_block HO fun g hg => heap_alloc_old _ _ (ownsRow_lt HO hg).2) _ 1 _ rfl (blk_cell (blk_new _ _) 0) rfl (by omega) (by have := HB.size; simp; omega) ?_; intro g4 cap4 w4 HO4 hg4 hsv4 hlt4; replace HB := grown_below (bl_alloc HB _) hg4 (by have := HB.size; simp; omega) (fun g hg => (ownsRow_lt HO hg).1); replace HO := HO4; clear hg4 HO4 hsv4 hlt4)
          refine ⟨⟨q + 1, acc ++ [UInt8.ofNat (v / 65536)], by omega, congrArg (Value.int .i64) (by omega), by simp; omega, hnext.out, HB, ?_⟩, by simp [RowKit.intOf] <;> omega⟩
          rw [List.length_append, List.map_append]
          simp only [List.map_cons, List.map_nil, bv, b16 v hvl, b8 v, b0 v]
          simpa using HO
        focus
          rw [out2] at hnext
          go_upto_region 11 with (go_at_call 97; refine (hQ _).mono ?_; rintro e w1 ⟨rfl, rfl⟩)
          refine wp_loop_rounds 3 ?_
          rw [rounds_succ]
          go_wp2_with (refine wpList_app1 rfl _ _ 49 rfl w.heap.size 5 (.int .u8 0) 1 Tryz.underlying49 (by kernel_rfl) rfl (by decide) _ _ _ rfl (ownsRow_block HO fun g hg => heap_alloc_old _ _ (ownsRow_lt HO hg).2) _ 1 _ rfl (blk_cell (blk_new _ _) 0) rfl (by omega) (by have := HB.size; simp; omega) ?_; intro g4 cap4 w4 HO4 hg4 hsv4 hlt4; replace HB := grown_below (bl_alloc HB _) hg4 (by have := HB.size; simp; omega) (fun g hg => (ownsRow_lt HO hg).1); replace HO := HO4; clear hg4 HO4 hsv4 hlt4)
          rw [rounds_succ]
          go_wp2_with (refine wpList_app1 rfl _ _ 49 rfl w.heap.size 5 (.int .u8 0) 1 Tryz.underlying49 (by kernel_rfl) rfl (by decide) _ _ _ rfl (ownsRow_block HO fun g hg => heap_alloc_old _ _ (ownsRow_lt HO hg).2) _ 1 _ rfl (blk_cell (blk_new _ _) 0) rfl (by omega) (by have := HB.size; simp; omega) ?_; intro g4 cap4 w4 HO4 hg4 hsv4 hlt4; replace HB := grown_below (bl_alloc HB _) hg4 (by have := HB.size; simp; omega) (fun g hg => (ownsRow_lt HO hg).1); replace HO := HO4; clear hg4 HO4 hsv4 hlt4)
          rw [rounds_succ]
          go_wp2_with (refine wpList_app1 rfl _ _ 49 rfl w.heap.size 5 (.int .u8 0) 1 Tryz.underlying49 (by kernel_rfl) rfl (by decide) _ _ _ rfl (ownsRow_block HO fun g hg => heap_alloc_old _ _ (ownsRow_lt HO hg).2) _ 1 _ rfl (blk_cell (blk_new _ _) 0) rfl (by omega) (by have := HB.size; simp; omega) ?_; intro g4 cap4 w4 HO4 hg4 hsv4 hlt4; replace HB := grown_below (bl_alloc HB _) hg4 (by have := HB.size; simp; omega) (fun g hg => (ownsRow_lt HO hg).1); replace HO := HO4; clear hg4 HO4 hsv4 hlt4)
          refine ⟨⟨q + 1, acc ++ [UInt8.ofNat (v / 65536), UInt8.ofNat (v / 256)], by omega, congrArg (Value.int .i64) (by omega), by simp; omega, hnext.out, HB, ?_⟩, by simp [RowKit.intOf] <;> omega⟩
          rw [List.length_append, List.map_append]
          simp only [List.map_cons, List.map_nil, bv, b16 v hvl, b8 v, b0 v]
          simpa using HO
        focus
          rw [out3] at hnext
          go_upto_region 11 with (go_at_call 97; refine (hQ _).mono ?_; rintro e w1 ⟨rfl, rfl⟩)
          refine wp_loop_rounds 4 ?_
          rw [rounds_succ]
          go_wp2_with (refine wpList_app1 rfl _ _ 49 rfl w.heap.size 5 (.int .u8 0) 1 Tryz.underlying49 (by kernel_rfl) rfl (by decide) _ _ _ rfl (ownsRow_block HO fun g hg => heap_alloc_old _ _ (ownsRow_lt HO hg).2) _ 1 _ rfl (blk_cell (blk_new _ _) 0) rfl (by omega) (by have := HB.size; simp; omega) ?_; intro g4 cap4 w4 HO4 hg4 hsv4 hlt4; replace HB := grown_below (bl_alloc HB _) hg4 (by have := HB.size; simp; omega) (fun g hg => (ownsRow_lt HO hg).1); replace HO := HO4; clear hg4 HO4 hsv4 hlt4)
          rw [rounds_succ]
          go_wp2_with (refine wpList_app1 rfl _ _ 49 rfl w.heap.size 5 (.int .u8 0) 1 Tryz.underlying49 (by kernel_rfl) rfl (by decide) _ _ _ rfl (ownsRow_block HO fun g hg => heap_alloc_old _ _ (ownsRow_lt HO hg).2) _ 1 _ rfl (blk_cell (blk_new _ _) 0) rfl (by omega) (by have := HB.size; simp; omega) ?_; intro g4 cap4 w4 HO4 hg4 hsv4 hlt4; replace HB := grown_below (bl_alloc HB _) hg4 (by have := HB.size; simp; omega) (fun g hg => (ownsRow_lt HO hg).1); replace HO := HO4; clear hg4 HO4 hsv4 hlt4)
          rw [rounds_succ]
          go_wp2_with (refine wpList_app1 rfl _ _ 49 rfl w.heap.size 5 (.int .u8 0) 1 Tryz.underlying49 (by kernel_rfl) rfl (by decide) _ _ _ rfl (ownsRow_block HO fun g hg => heap_alloc_old _ _ (ownsRow_lt HO hg).2) _ 1 _ rfl (blk_cell (blk_new _ _) 0) rfl (by omega) (by have := HB.size; simp; omega) ?_; intro g4 cap4 w4 HO4 hg4 hsv4 hlt4; replace HB := grown_below (bl_alloc HB _) hg4 (by have := HB.size; simp; omega) (fun g hg => (ownsRow_lt HO hg).1); replace HO := HO4; clear hg4 HO4 hsv4 hlt4)
          rw [rounds_succ]
          go_wp2_with (refine wpList_app1 rfl _ _ 49 rfl w.heap.size 5 (.int .u8 0) 1 Tryz.underlying49 (by kernel_rfl) rfl (by decide) _ _ _ rfl (ownsRow_block HO fun g hg => heap_alloc_old _ _ (ownsRow_lt HO hg).2) _ 1 _ rfl (blk_cell (blk_new _ _) 0) rfl (by omega) (by have := HB.size; simp; omega) ?_; intro g4 cap4 w4 HO4 hg4 hsv4 hlt4; replace HB := grown_below (bl_alloc HB _) hg4 (by have := HB.size; simp; omega) (fun g hg => (ownsRow_lt HO hg).1); replace HO := HO4; clear hg4 HO4 hsv4 hlt4)
          refine ⟨⟨q + 1, acc ++ [UInt8.ofNat (v / 65536), UInt8.ofNat (v / 256), UInt8.ofNat v], by omega, congrArg (Value.int .i64) (by omega), by simp; omega, hnext.out, HB, ?_⟩, by simp [RowKit.intOf] <;> omega⟩
          rw [List.length_append, List.map_append]
          simp only [List.map_cons, List.map_nil, bv, b16 v hvl, b8 v, b0 v]
          simpa using HO
    · have h4q : 4 * q = s.size := by omega
      have hnil : s.data.toList.drop (4 * q) = [] := List.drop_eq_nil_of_le (by rw [hlen.out]; exact Nat.le_of_eq h4q.symm)
      have hfin : decL s.data.toList = some acc := by
        rw [hch.out, hnil]; simp [decL]
      have hlt' : ¬ (4 : Int) * (q : Int) < (s.size : Int) := by omega
      have hlt3 : ¬ ((4 * q : Nat) : Int) < (s.size : Int) := by omega
      have rk := RowB.owns rfl HO
      clear hnil h4q
      go_wp2_with (refine wpList_convBS rfl rfl rfl rk ?_)
      exact bodyPost_ret (v := .tuple #[.string ⟨acc.toArray⟩, .int .i64 0]) (by simp [results, Tryz.results82, go_sem]) rfl ⟨rfl, HB⟩
end Go.Proofs.YtjigckibbjfkmaaGreatDoor


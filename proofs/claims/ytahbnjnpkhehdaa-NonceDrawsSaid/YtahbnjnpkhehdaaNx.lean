/- Draws from a seed: Nonce and Below of the reference. -/
import Derived.Test.YtahbnjnpkhehdaaNw
import Derived.Laws.Strings2
namespace Go.Proofs.Ytahbnjnpkhehdaa
open Go.RowKit Go.Lib
set_option maxRecDepth 100000
set_option linter.unusedSimpArgs false
set_option linter.unusedVariables false
attribute [local go_sem] evR_tmp evR_const evR_global evR_func
theorem sign_sub (b : UInt8) (n : Nat) (h : n = b.toNat % 64) : signsB.extract n (n + 1) = ⟨#[signOf b]⟩ := by
  subst h
  have hx : ∀ x : Fin 64, (signsB.extract x.val (x.val + 1)).data = #[signsB.data.toList.getD x.val 0] := by decide +kernel
  have := hx ⟨b.toNat % 64, Nat.mod_lt _ (by decide)⟩
  exact ByteArray.ext this
theorem run_sign (b : UInt8) (w : World) : (Instr.slice 9 (.string signsB) (some (.int .i64 ((b.toNat : Int) % 64))) (some (.int .i64 ((b.toNat : Int) % 64 + 1))) none).run Try.prog w = .ok (.string ⟨#[signOf b]⟩) w := by
  have h64 : (b.toNat % 64) < 64 := Nat.mod_lt _ (by decide)
  have hsz : signsB.size = 64 := by decide +kernel
  have := run_slice_string (P := Try.prog) w 9 signsB .i64 .i64 ((b.toNat : Int) % 64) ((b.toNat : Int) % 64 + 1) Try.underlying9 (by omega) (by omega) (by rw [hsz]; omega)
  rw [this, show ((b.toNat : Int) % 64).toNat = b.toNat % 64 by omega, show ((b.toNat : Int) % 64 + 1).toNat = b.toNat % 64 + 1 by omega, sign_sub b _ rfl]
theorem signs_snoc (B : List UInt8) (k : Nat) (h : k < B.length) : (ByteArray.mk (signsOf (B.take k)).toArray) ++ ⟨#[signOf B[k]]⟩ = ⟨(signsOf (B.take (k + 1))).toArray⟩ := by
  apply ByteArray.ext
  rw [List.take_succ_eq_append_getElem h]
  simp only [signsOf, ByteArray.data_append, List.map_append, List.map_cons, List.map_nil]
  simp
/-- A row of bytes at a place that is known. -/
def RowAt (w : World) (g off : Nat) (bs : List UInt8) : Prop := ∀ k (h : k < bs.length), w.cell? ⟨g, off + k, none⟩ = some (bv bs[k])
theorem RowB.at {w : World} {sv : Value} {bs : List UInt8} (h : RowB w sv bs) (hn : 0 < bs.length) : ∃ g off cap, sv = .slice (some ⟨g, off, none⟩) bs.length cap ∧ RowAt w g off bs := by
  obtain ⟨ao, cap, rfl, _, h3⟩ := h
  obtain ⟨g, off, rfl, _⟩ := h3 0 hn
  refine ⟨g, off, cap, rfl, fun k hk => ?_⟩
  obtain ⟨g2, off2, e, h4⟩ := h3 k hk
  cases e
  exact h4
set_option maxHeartbeats 4000000 in
theorem rNonce_c (g : Nat) (seed : ByteArray) (hs : seed.size ≤ 400000) (c : Nat) (hc : c < 900000000) (n : Int) (w : World) (hk : w.heap[g]? = some (.cells (srcR seed c) 28 (0, 0))) : Calls Try.prog 11 #[.pointer (some ⟨g, 0, none⟩), .int .i64 n] w fun e w' => e = .returned (.string ⟨(signsOf (drawB seed.data.toList c (clampN n))).toArray⟩) ∧ w'.heap[g]? = some (.cells (srcR seed (c + drawsOf (clampN n))) 28 (0, 0)) ∧ Turned g w w' := by
  have hB := rBytes34_c g seed hs c hc n w hk
  unfold RefDrawn at hB
  have hl := drawB_length seed.data.toList c (clampN n)
  have hm1 := clampN_le n
  generalize drawB seed.data.toList c (clampN n) = B at hB hl ⊢
  obtain ⟨m, hm⟩ : ∃ m, m = clampN n := ⟨_, rfl⟩
  rw [← hm] at hB hl hm1 ⊢
  replace hm := Lib.hid hm
  generalize drawsOf m = d at hB ⊢
  replace hl := Lib.hid hl
  by_cases hm0 : m = 0
  · obtain rfl : B = [] := List.eq_nil_of_length_eq_zero (by rw [hl.out]; exact hm0)
    subst hm0
    go_enter Try.func11, Try.ntmps11
    go_wp2_with (go_at_call 9; refine hB.mono ?_; rintro e w1 ⟨sv, rfl, ⟨ao, cap, rfl, hno, hcc⟩, kg, hT⟩)
    clear hno hcc
    go_loop [5, 7] (fun s i => s = .string ⟨#[]⟩ ∧ i = .int .i64 0) (fun _ _ => 0)
    case atStart => exact ⟨rfl, rfl⟩
    case round =>
      obtain ⟨rfl, rfl⟩ := hrel
      go_wp2_with fail
      exact bodyPost_ret (v := .string ⟨#[]⟩) (by simp [results, Try.results11, go_sem]) rfl ⟨rfl, kg, hT⟩
  · go_enter Try.func11, Try.ntmps11
    go_upto_region 3 with (go_at_call 9; refine hB.mono ?_; rintro e w1 ⟨sv, rfl, hR, kg, hT⟩; obtain ⟨g3, off, cap, rfl, hC⟩ := hR.at (by rw [hl.out]; omega); rw [hl.out])
    replace hC := Lib.hid hC
    go_wp2_with fail
    go_loop [5, 7] (fun s i => ∃ k : Nat, k ≤ m ∧ i = .int .i64 (k : Int) ∧ s = .string ⟨(signsOf (B.take k)).toArray⟩) (fun _ i => m - (intOf i).toNat)
    case atStart => exact ⟨0, by omega, rfl, rfl⟩
    case round =>
      obtain ⟨k, hkm, rfl, rfl⟩ := hrel
      have pn : (0 : Int) ≤ (k : Int) := by omega
      by_cases hlt : k < m
      · have hlt' : (k : Int) < (m : Int) := by omega
        have hkB : k < B.length := by rw [hl.out]; exact hlt
        have c1 : w1.cell? ⟨g3, off + k, none⟩ = some (.int .u8 (B[k].toNat : Int)) := hC.out k hkB
        have hsn := Lib.hid (signs_snoc B k hkB)
        generalize B[k] = b at c1 hsn
        have hb : (b.toNat : Int) < 256 := by have := b.toNat_lt; omega
        have hb2 : b.toNat < 256 := b.toNat_lt
        have hsub := fun w1 => run_sign b w1
        unfold signsB at hsub
        have hlt64 : (b.toNat % 64) < 64 := Nat.mod_lt _ (by decide)
        have hsl : (signsOf (List.take k B)).length ≤ 1024 := by simp only [signsOf, List.length_map, List.length_take]; omega
        go_wp2_with fail
        go_round
        case measure => simp [intOf] <;> omega
        exact ⟨k + 1, by omega, congrArg (Value.int .i64) (by omega), congrArg Value.string hsn.out⟩
      · obtain rfl : k = m := by omega
        have hlt' : ¬ (k : Int) < (k : Int) := by omega
        rw [List.take_of_length_le (by rw [hl.out]; exact Nat.le_refl _)]
        go_wp2_with fail
        exact bodyPost_ret (v := .string ⟨(signsOf B).toArray⟩) (by simp [results, Try.results11, go_sem]) rfl ⟨rfl, kg, hT⟩
theorem beV_cons (a : UInt8) (l : List UInt8) : beV (a :: l) = a.toNat * 256 ^ l.length + beV l := by
  have h : ∀ (l : List UInt8) (v : Nat), l.foldl (fun v b => v * 256 + b.toNat) v = v * 256 ^ l.length + l.foldl (fun v b => v * 256 + b.toNat) 0 := by
    intro l
    induction l with
    | nil => intro v; simp
    | cons x l ih =>
      intro v
      rw [List.foldl_cons, List.foldl_cons, ih (v * 256 + x.toNat), ih (0 * 256 + x.toNat), List.length_cons, Nat.pow_succ]
      have : v * (256 ^ l.length * 256) = v * 256 * 256 ^ l.length := by rw [Nat.mul_assoc, Nat.mul_comm 256]
      rw [this, Nat.add_mul, Nat.zero_mul, Nat.zero_add]; omega
  unfold beV
  rw [List.foldl_cons, h l]; simp
/-- The first k bytes as a number, without the first bit. -/
def beT (l : List UInt8) (k : Nat) : Nat := beV (l.take k) % (128 * 256 ^ (k - 1))
theorem beT_one (l : List UInt8) (h : 0 < l.length) : beT l 1 = l[0].toNat % 128 := by
  unfold beT
  rw [List.take_succ_eq_append_getElem h, beV_snoc]; simp [beV]
theorem beT_next (l : List UInt8) (k : Nat) (h0 : 1 ≤ k) (h : k < l.length) : beT l (k + 1) = beT l k * 256 + l[k].toNat := by
  unfold beT
  rw [beV_take l k h, show k + 1 - 1 = (k - 1) + 1 by omega, Nat.pow_succ, ← Nat.mul_assoc]
  have hb := l[k].toNat_lt
  have hp : 0 < 128 * 256 ^ (k - 1) := by have := Nat.pow_pos (n := k - 1) (show 0 < 256 by decide); omega
  generalize 128 * 256 ^ (k - 1) = M at hp ⊢
  generalize beV (l.take k) = V
  have e := Nat.div_add_mod V M
  have hm := Nat.mod_lt V hp
  rw [show V * 256 + l[k].toNat = (V % M * 256 + l[k].toNat) + (M * 256) * (V / M) by rw [Nat.mul_assoc M 256, Nat.mul_comm 256, ← Nat.mul_assoc M]; omega]
  rw [Nat.add_mul_mod_self_left, Nat.mod_eq_of_lt (by omega)]
theorem beT_lt (l : List UInt8) (k : Nat) : beT l k < 128 * 256 ^ (k - 1) := Nat.mod_lt _ (by have := Nat.pow_pos (n := k - 1) (show 0 < 256 by decide); omega)
set_option maxHeartbeats 4000000 in
theorem rBelow_c (g : Nat) (seed : ByteArray) (hs : seed.size ≤ 400000) (c : Nat) (hc : c < 900000000) (n : Int) (hn1 : 1 ≤ n) (hn2 : n ≤ 9223372036854775807) (w : World) (hk : w.heap[g]? = some (.cells (srcR seed c) 28 (0, 0))) : Calls Try.prog 12 #[.pointer (some ⟨g, 0, none⟩), .int .i64 n] w fun e w' => e = .returned (.int .i64 (((beV (drawB seed.data.toList c 8) % 9223372036854775808 : Nat) : Int) % n)) ∧ w'.heap[g]? = some (.cells (srcR seed (c + 1)) 28 (0, 0)) ∧ Turned g w w' := by
  have hB := rBytes34_c g seed hs c hc 8 w hk
  unfold RefDrawn at hB
  have hl := drawB_length seed.data.toList c 8
  rw [show clampN 8 = 8 from rfl, show drawsOf 8 = 1 from rfl] at hB
  generalize drawB seed.data.toList c 8 = B at hB hl ⊢
  have h0B : 0 < B.length := by omega
  have hfin : beV B % 9223372036854775808 = beT B 8 := by unfold beT; rw [List.take_of_length_le (by omega)]
  rw [hfin]
  have h1B := beT_one B h0B
  replace hl := Lib.hid hl
  replace h1B := Lib.hid h1B
  clear hfin
  go_enter Try.func12, Try.ntmps12
  go_upto_region 2 with (go_at_call 9; refine hB.mono ?_; rintro e w1 ⟨sv, rfl, hR, kg, hT⟩; obtain ⟨g3, off, cap, rfl, hC⟩ := hR.at (by rw [hl.out]; omega); rw [hl.out])
  have c0 : w1.cell? ⟨g3, off, none⟩ = some (.int .u8 (B[0].toNat : Int)) := hC 0 h0B
  replace hC := Lib.hid hC
  have hb0 := B[0].toNat_lt
  go_upto_region 3 with fail
  clear hb0
  go_wp2_with fail
  rw [show (B[0].toNat : Int) % 128 = ((beT B 1 : Nat) : Int) by rw [h1B.out]; omega]
  go_loop [6, 7] (fun v i => ∃ k : Nat, 1 ≤ k ∧ k ≤ 8 ∧ i = .int .i64 (k : Int) ∧ v = .int .u64 ((beT B k : Nat) : Int)) (fun _ i => 8 - (intOf i).toNat)
  case atStart => exact ⟨1, by omega, by omega, rfl, rfl⟩
  case round =>
    obtain ⟨k, hk1, hk8, rfl, rfl⟩ := hrel
    have pn : (0 : Int) ≤ (k : Int) := by omega
    by_cases hlt : k < 8
    · have hlt' : (k : Int) < 8 := by omega
      have hkB : k < B.length := by rw [hl.out]; exact hlt
      have hN2 : beT B k < 128 * 256 ^ 6 := Nat.lt_of_lt_of_le (beT_lt B k) (Nat.mul_le_mul_left _ (Nat.pow_le_pow_right (by omega) (by omega)))
      have hsn := Lib.hid (beT_next B k hk1 hkB)
      generalize beT B k = N at hN2 hsn ⊢
      have hN3 : N < 36028797018963968 := hN2
      clear hN2
      have c1 : w1.cell? ⟨g3, off + k, none⟩ = some (.int .u8 (B[k].toNat : Int)) := hC.out k hkB
      have hb := B[k].toNat_lt
      go_wp2_with fail
      go_round
      case measure => simp [intOf] <;> omega
      exact ⟨k + 1, by omega, by omega, congrArg (Value.int .i64) (by omega), congrArg (Value.int .u64) (by rw [hsn.out]; omega)⟩
    · obtain rfl : k = 8 := by omega
      have hlt' : ¬ ((8 : Nat) : Int) < 8 := by omega
      have hV := beT_lt B 8
      obtain ⟨V, hVe⟩ : ∃ V, V = beT B 8 := ⟨_, rfl⟩
      rw [← hVe] at hV ⊢
      have hV2 : V < 9223372036854775808 := hV
      clear hV
      have hq : wrap64 ((V : Int) % n) = (V : Int) % n := by
        have h0 := Int.emod_nonneg (V : Int) (show n ≠ 0 by omega)
        have h1 := Int.emod_lt_of_pos (V : Int) (show 0 < n by omega)
        exact IntWalk.wrap64_in _ ⟨by omega, by omega⟩
      replace hq := Lib.hid hq
      replace hVe := Lib.hid hVe
      go_wp2_with fail
      exact bodyPost_ret (v := .int .i64 (wrap64 ((V : Int) % n))) (by simp [results, Try.results12, go_sem]) rfl ⟨by rw [hq.out, hVe.out], kg, hT⟩
end Go.Proofs.Ytahbnjnpkhehdaa

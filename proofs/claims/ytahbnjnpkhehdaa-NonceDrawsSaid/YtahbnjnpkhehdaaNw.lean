/- Draws from a seed: Below of nonce.Source. -/
import Derived.Test.YtahbnjnpkhehdaaNv
import Derived.Laws.Bits64b
namespace Go.Proofs.Ytahbnjnpkhehdaa
open Go.RowKit Go.Lib
set_option maxRecDepth 100000
set_option linter.unusedSimpArgs false
set_option linter.unusedVariables false
attribute [local go_sem] evR_tmp evR_const evR_global evR_func
/-- Bytes as a number, the greatest first. -/
def beV (l : List UInt8) : Nat := l.foldl (fun v b => v * 256 + b.toNat) 0
theorem beV_snoc (l : List UInt8) (b : UInt8) : beV (l ++ [b]) = beV l * 256 + b.toNat := by simp [beV]
theorem beV_lt (l : List UInt8) : beV l < 256 ^ l.length := by
  generalize hn : l.length = n
  induction n generalizing l with
  | zero => obtain rfl := List.eq_nil_of_length_eq_zero hn; simp [beV]
  | succ n ih =>
    have h2 := ih l.dropLast (by rw [List.length_dropLast, hn]; rfl)
    have hne : l ≠ [] := by intro q; rw [q] at hn; cases hn
    rw [← List.dropLast_concat_getLast hne, beV_snoc]
    have := (l.getLast hne).toNat_lt
    rw [Nat.pow_succ]
    omega
theorem beV_take (l : List UInt8) (k : Nat) (h : k < l.length) : beV (l.take (k + 1)) = beV (l.take k) * 256 + l[k].toNat := by
  rw [List.take_succ_eq_append_getElem h, beV_snoc]
theorem or8 (N b : Nat) (hN : N < 72057594037927936) (hb : b < 256) : bits .or .u64 ((N : Int) * 256) (b : Int) = ((N * 256 + b : Nat) : Int) := by
  rw [show (N : Int) * 256 = ((N * 256 : Nat) : Int) by omega, bits_or_u64_nat _ _ (by omega) (by omega)]
  congr 1
  have h := Nat.shiftLeft_add_eq_or_of_lt (i := 8) (b := b) (by simpa using hb) N
  rw [Nat.shiftLeft_eq] at h
  exact h.symm
theorem RowB.cells0 {w : World} {g n cap : Nat} {bs : List UInt8} (h : RowB w (.slice (some ⟨g, 0, none⟩) n cap) bs) (k : Nat) (hk : k < bs.length) : w.cell? ⟨g, k, none⟩ = some (.int .u8 (bs[k].toNat : Int)) := by
  obtain ⟨ao, cp, e1, _, h3⟩ := h
  obtain ⟨gg, off, e2, h4⟩ := h3 k hk
  rw [e2] at e1
  simp only [Value.slice.injEq, Option.some.injEq, Addr.mk.injEq] at e1
  obtain ⟨⟨rfl, rfl, _⟩, _⟩ := e1
  rw [Nat.zero_add] at h4
  exact h4
theorem below_val (V : Nat) (n : Int) (hn1 : 1 ≤ n) (hn2 : n ≤ 9223372036854775807) : wrap64 ((IntKind.u64.wrap ((V : Int) * 2) / 2).tmod n) = ((V % 9223372036854775808 : Nat) : Int) % n := by
  have e : IntKind.u64.wrap ((V : Int) * 2) / 2 = ((V % 9223372036854775808 : Nat) : Int) := by rw [IntKind.wrap_u64]; omega
  rw [e, Int.tmod_eq_emod_of_nonneg (by omega)]
  have h0 := Int.emod_nonneg ((V % 9223372036854775808 : Nat) : Int) (show n ≠ 0 by omega)
  have h1 := Int.emod_lt_of_pos ((V % 9223372036854775808 : Nat) : Int) (show 0 < n by omega)
  exact IntWalk.wrap64_in _ ⟨by omega, by omega⟩
/-- A number below n of eight bytes. -/
def belowN (l : List UInt8) (n : Int) : Int := if n < 1 then 0 else ((beV l % 9223372036854775808 : Nat) : Int) % n
set_option maxHeartbeats 4000000 in
theorem nBelow_c (g : Nat) (seed : ByteArray) (hs : seed.size ≤ 400000) (c : Nat) (hc : c < 900000000) (n : Int) (hn1 : 1 ≤ n) (hn2 : n ≤ 9223372036854775807) (w : World) (hk : w.heap[g]? = some (.cells (srcC seed c) 46 (0, 0))) : Calls Try.prog 13 #[.pointer (some ⟨g, 0, none⟩), .int .i64 n] w fun e w' => e = .returned (.int .i64 (((beV (drawB seed.data.toList c 8) % 9223372036854775808 : Nat) : Int) % n)) ∧ w'.heap[g]? = some (.cells (srcC seed (c + 1)) 46 (0, 0)) ∧ Turned g w w' := by
  have hg := blk_lt hk
  have hB := nBytes_c g seed hs c hc 8 w hk
  have hl := drawB_length seed.data.toList c 8
  rw [show clampN 8 = 8 from rfl, show drawsOf 8 = 1 from rfl] at hB
  generalize drawB seed.data.toList c 8 = B at hB hl ⊢
  have hBs : (ByteArray.mk B.toArray).size = 8 := by simp [ByteArray.size, hl]
  replace hl := Lib.hid hl
  have hn0 : ¬ n < 1 := by omega
  go_enter Try.func13, Try.ntmps13
  go_upto_region 4 with fail
  go_upto_region 5 with (first | (go_at_call 8; refine hB.mono ?_; rintro e w1 ⟨rfl, kg, hT⟩) | (refine wpList_convSB rfl rfl rfl Try.underlying9 Try.underlying32 Try.underlying5 ?_; intro cap w2 hR hb2 hlt2))
  rw [hBs] at hR
  have hC := Lib.hid hR.cells0
  clear hR
  have kg2 := grow_blk hb2 kg
  have hT2 := hT.then hb2
  clear kg hT
  go_loop [5, 18] (fun v i => ∃ k : Nat, k ≤ 8 ∧ i = .int .i64 (k : Int) ∧ v = .int .u64 ((beV (B.take k) : Nat) : Int)) (fun _ i => 8 - (intOf i).toNat)
  case atStart => exact ⟨0, by omega, rfl, rfl⟩
  case round =>
    obtain ⟨k, hk8, rfl, rfl⟩ := hrel
    have pn : (0 : Int) ≤ (k : Int) := by omega
    by_cases hlt : k < 8
    · have hlt' : (k : Int) < 8 := by omega
      have hkB : k < B.length := by rw [hl.out]; exact hlt
      have hN := beV_lt (B.take k)
      have hN2 : beV (B.take k) < 256 ^ 7 := Nat.lt_of_lt_of_le hN (Nat.pow_le_pow_right (by omega) (by rw [List.length_take]; omega))
      clear hN
      have hsn := beV_take B k hkB
      generalize beV (B.take k) = N at hN2 hsn ⊢
      replace hsn := Lib.hid hsn
      have hN3 : N < 72057594037927936 := hN2
      clear hN2
      have c1 : w2.cell? ⟨w1.heap.size, k, none⟩ = some (.int .u8 (B[k].toNat : Int)) := by
        exact hC.out k hkB
      have hb := B[k].toNat_lt
      have ho := or8 N B[k].toNat hN3 hb
      go_wp2_with fail
      go_round
      case measure => simp [intOf] <;> omega
      exact ⟨k + 1, by omega, congrArg (Value.int .i64) (by omega), congrArg (Value.int .u64) (by rw [hsn.out]; omega)⟩
    · obtain rfl : k = 8 := by omega
      have hlt' : ¬ ((8 : Nat) : Int) < 8 := by omega
      rw [List.take_of_length_le (by rw [hl.out]; exact Nat.le_refl _)]
      have hV := beV_lt B
      rw [hl.out] at hV
      obtain ⟨V, hVe⟩ : ∃ V, V = beV B := ⟨_, rfl⟩
      rw [← hVe] at hV ⊢
      have hV2 : V < 18446744073709551616 := hV
      have hq := Lib.hid (below_val V n hn1 hn2)
      replace hVe := Lib.hid hVe
      clear hV
      go_wp2_with fail
      refine bodyPost_ret (v := .int .i64 (wrap64 ((IntKind.u64.wrap ((V : Int) * 2) / 2).tmod n))) (by simp [results, Try.results13, go_sem]) rfl ⟨by rw [hq.out, hVe.out]; simp, kg2, hT2⟩
end Go.Proofs.Ytahbnjnpkhehdaa

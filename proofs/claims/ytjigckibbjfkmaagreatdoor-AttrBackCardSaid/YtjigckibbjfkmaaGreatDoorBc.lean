/- The contract of base64.Encode. -/
import Derived.Test.YtjigckibbjfkmaaGreatDoorBb
import Derived.Test.YtjigckibbjfkmaaGreatDoorBp
import Derived.Test.YtjigckibbjfkmaaGreatDoorShelf
import Derived.LoopN
import Derived.Laws.Strings2
namespace Go.Proofs.YtjigckibbjfkmaaGreatDoor
open Go.RowKit Go.Lib
set_option maxRecDepth 100000
set_option linter.unusedSimpArgs false
set_option linter.unusedVariables false
theorem and63i (n : Int) : bits .and .i64 n 63 = n % 64 := and_pow n 6 (by decide)
theorem or8i (N b : Nat) (hN : N < 36028797018963968) (hb : b < 256) : bits .or .i64 ((N : Int) * 256) (b : Int) = ((N * 256 + b : Nat) : Int) := by
  have h := Nat.shiftLeft_add_eq_or_of_lt (i := 8) (b := b) (by simpa using hb) N
  rw [Nat.shiftLeft_eq] at h
  have e : (BitVec.ofInt 64 ((N : Int) * 256) ||| BitVec.ofInt 64 (b : Int)).toNat = N * 256 + b := by
    have h1 : (BitVec.ofInt 64 ((N : Int) * 256)).toNat = N * 256 := by rw [BitVec.toNat_ofInt]; omega
    have h2 : (BitVec.ofInt 64 (b : Int)).toNat = b := by rw [BitVec.toNat_ofInt]; omega
    rw [BitVec.toNat_or, h1, h2]
    exact h.symm
  show IntKind.i64.wrap ((BitVec.ofInt 64 ((N : Int) * 256) ||| BitVec.ofInt 64 (b : Int)).toNat : Nat) = _
  rw [e, IntKind.wrap_i64]
  omega
theorem or0i (b : Nat) (hb : b < 256) : bits .or .i64 0 (b : Int) = (b : Int) := by
  have := or8i 0 b (by decide) hb
  simpa using this
theorem or1i (a b : Nat) (ha : a < 256) (hb : b < 256) : bits .or .i64 ((a : Int) * 256) (b : Int) = (a : Int) * 256 + (b : Int) := by rw [or8i _ _ (by omega) hb]; omega
theorem or2i (a b c : Nat) (ha : a < 256) (hb : b < 256) (hc : c < 256) : bits .or .i64 (((a : Int) * 256 + (b : Int)) * 256) (c : Int) = ((a : Int) * 256 + (b : Int)) * 256 + (c : Int) := by
  have e : ((a : Int) * 256 + (b : Int)) * 256 = ((a * 256 + b : Nat) : Int) * 256 := by omega
  rw [e, or8i _ _ (by omega) hc]; omega
theorem val1 (a V : Nat) (h : V = a * 256 * 256) : (a : Int) * 256 * 256 = (V : Int) := by omega
theorem val2 (a b V : Nat) (h : V = (a * 256 + b) * 256) : ((a : Int) * 256 + (b : Int)) * 256 = (V : Int) := by omega
theorem val3 (a b c V : Nat) (h : V = (a * 256 + b) * 256 + c) : ((a : Int) * 256 + (b : Int)) * 256 + (c : Int) = (V : Int) := by omega
def sgB : ByteArray := ⟨sgT.toArray⟩
def strN : Value → Nat
  | .string s => s.size
  | _ => 0
theorem sg_get (m : Nat) (h : m < sgB.size) : sgB[m]'h = sg m := by
  have hs : sgB.size = 64 := by decide +kernel
  have hx : ∀ x : Fin 64, sgT[x.val]? = some (sg x.val) := by decide +kernel
  have h2 := hx ⟨m, by omega⟩
  rw [List.getElem?_eq_getElem (show m < sgT.length from h)] at h2
  exact Option.some.inj h2
theorem run_sgn (m : Nat) (h : m < 64) (w : World) : (Instr.index 9 (.string sgB) (.int .i64 (m : Int))).run Tryz.prog w = .ok (.int .u8 ((sg m).toNat : Int)) w := by
  have hs : sgB.size = 64 := by decide +kernel
  have hlt : m < sgB.size := by rw [hs]; exact h
  have h' : (m : Int) < 64 := by omega
  have : (Instr.index 9 (.string sgB) (.int .i64 (m : Int))).run Tryz.prog w = .ok (.int .u8 ((sgB[m]'hlt).toNat : Int)) w := by
    go_simp
  rw [this, sg_get]
theorem WriteEq_c (B b : Nat) (bs : List UInt8) (w : World) (h : BuiltB B b bs w) (hn : bs.length ≤ 1000000) (hB : B ≤ w.heap.size) : Calls Tryz.prog 69 #[.pointer (some ⟨b, 0, none⟩), .int .u8 61] w fun e w' => e = .returned .nilIface ∧ BuiltB B b (bs ++ [61]) w' ∧ Below B w w' := WriteByte_c B b bs 61 w h hn hB
theorem drop_toList (S : ByteArray) (n : Nat) : (S.extract n S.size).data.toList = S.data.toList.drop n := by
  rw [ByteArray.data_extract, Array.toList_extract]
  rw [List.extract_eq_take_drop, List.take_of_length_le (by rw [List.length_drop, Array.length_toList]; exact Nat.le_refl _)]
theorem list_at (S : ByteArray) (k : Nat) (h : k < S.size) : S.data.toList.drop k = S[k] :: S.data.toList.drop (k + 1) := by
  have hl : k < S.data.toList.length := by rw [Array.length_toList]; exact h
  rw [List.drop_eq_getElem_cons hl]
  rfl
theorem enc_step1 (S : ByteArray) (h : S.size = 1) (V : Nat) (hV : V = (S[0]'(by omega)).toNat * 256 * 256) : encL S.data.toList = [sg (V / 262144 % 64), sg (V / 4096 % 64), 61, 61] ++ encL (S.extract 1 S.size).data.toList := by
  have e : S.data.toList = [S[0]'(by omega)] := by
    have := list_at S 0 (by omega)
    rw [List.drop_zero, List.drop_eq_nil_of_le (by rw [Array.length_toList]; exact Nat.le_of_eq h)] at this
    exact this
  rw [drop_toList, e]
  have hb := (S[0]'(by omega)).toNat_lt
  simp only [encL, List.drop_succ_cons, List.drop_zero, List.append_nil]
  rw [show V / 262144 % 64 = (S[0]'(by omega)).toNat / 4 by omega, show V / 4096 % 64 = (S[0]'(by omega)).toNat % 4 * 16 by omega]
theorem enc_step2 (S : ByteArray) (h : S.size = 2) (V : Nat) (hV : V = ((S[0]'(by omega)).toNat * 256 + (S[1]'(by omega)).toNat) * 256) : encL S.data.toList = [sg (V / 262144 % 64), sg (V / 4096 % 64), sg (V / 64 % 64), 61] ++ encL (S.extract 2 S.size).data.toList := by
  have e : S.data.toList = [S[0]'(by omega), S[1]'(by omega)] := by
    have h0 := list_at S 0 (by omega)
    have h1 := list_at S 1 (by omega)
    rw [@List.drop_eq_nil_of_le UInt8 S.data.toList (1 + 1) (by rw [Array.length_toList]; exact Nat.le_of_eq h)] at h1
    rw [List.drop_zero, h1] at h0
    exact h0
  rw [drop_toList, e]
  have hb := (S[0]'(by omega)).toNat_lt
  have hc := (S[1]'(by omega)).toNat_lt
  simp only [encL, List.drop_succ_cons, List.drop_zero, List.append_nil]
  rw [show V / 262144 % 64 = (S[0]'(by omega)).toNat / 4 by omega, show V / 4096 % 64 = (S[0]'(by omega)).toNat % 4 * 16 + (S[1]'(by omega)).toNat / 16 by omega, show V / 64 % 64 = (S[1]'(by omega)).toNat % 16 * 4 by omega]
theorem enc_step3 (S : ByteArray) (h : 3 ≤ S.size) (V : Nat) (hV : V = ((S[0]'(by omega)).toNat * 256 + (S[1]'(by omega)).toNat) * 256 + (S[2]'(by omega)).toNat) : encL S.data.toList = [sg (V / 262144 % 64), sg (V / 4096 % 64), sg (V / 64 % 64), sg (V % 64)] ++ encL (S.extract 3 S.size).data.toList := by
  have e : S.data.toList = S[0]'(by omega) :: S[1]'(by omega) :: S[2]'(by omega) :: S.data.toList.drop 3 := by
    have h0 := list_at S 0 (by omega)
    have h1 := list_at S 1 (by omega)
    have h2 := list_at S 2 (by omega)
    rw [h2] at h1
    rw [List.drop_zero, h1] at h0
    exact h0
  rw [drop_toList]
  have hb := (S[0]'(by omega)).toNat_lt
  have hc := (S[1]'(by omega)).toNat_lt
  have hd := (S[2]'(by omega)).toNat_lt
  have e2 : encL S.data.toList = encL (S[0]'(by omega) :: S[1]'(by omega) :: S[2]'(by omega) :: S.data.toList.drop 3) := congrArg encL e
  rw [e2]
  simp only [encL, List.cons_append, List.nil_append]
  rw [show V / 262144 % 64 = (S[0]'(by omega)).toNat / 4 by omega, show V / 4096 % 64 = (S[0]'(by omega)).toNat % 4 * 16 + (S[1]'(by omega)).toNat / 16 by omega, show V / 64 % 64 = (S[1]'(by omega)).toNat % 16 * 4 + (S[2]'(by omega)).toNat / 64 by omega, show V % 64 = (S[2]'(by omega)).toNat % 64 by omega]
attribute [local go_sem] and63i
theorem sgB_size : sgB.size = 64 := by decide +kernel
/-- A sign, out of the text of signs. -/
def sgAt (m : Nat) (h : m < 64) : UInt8 := sgB[m]'(by rw [sgB_size]; exact h)
theorem sgAt_eq (m : Nat) (h : m < 64) : sgAt m h = sg m := sg_get m _
set_option maxHeartbeats 8000000 in
theorem Encode_c (s : ByteArray) (hs : s.size ≤ 2000) (w : World) : Calls Tryz.prog 46 #[.string s] w fun e w' => e = .returned (.string ⟨(encL s.data.toList).toArray⟩) ∧ Below w.heap.size w w' := by
  have hSz := fun w => Size_c (s.size : Int) w
  have hsz : sizeB (s.size : Int) = (((s.size + 2) / 3 * 4 : Nat) : Int) := by simp only [sizeB]; rw [if_neg (by omega)]; omega
  rw [hsz] at hSz
  have hG := fun (b : Nat) (w1 : World) (hb : w1.heap[b]? = some (.cells #[.pointer none, .slice none 0 0] 51 (0, 0))) (hBw : w.heap.size ≤ b) => Tryz.Builder_Grow_fresh w.heap.size b ((s.size + 2) / 3 * 4) w1 hBw hb (Nat.le_trans hBw (Nat.le_of_lt (blk_lt hb))) (by omega)
  obtain ⟨m, hm⟩ : ∃ m, m = (s.size + 2) / 3 * 4 := ⟨_, rfl⟩
  rw [← hm] at hSz hG
  clear hsz hm
  go_enter Tryz.func46, Tryz.ntmps46
  go_upto_region 2 with fail
  refine gen_world fun W hW => ?_
  have k3 : W.heap[w.heap.size]? = some (.cells #[.pointer none, .slice none 0 0] 51 (0, 0)) := by subst hW; exact blk_new _ _
  have HB : Below w.heap.size w W := by subst hW; (repeat (first | exact Below.refl _ _ | (refine bl_alloc ?_ _) | (refine bl_drewN ?_ _) | (refine bl_drew ?_) | (refine bl_call (by assumption) ?_) | (refine bl_set _ _ (by simp <;> omega) ?_) | assumption))
  clear hW
  go_upto_region 3 with (first | (go_at_call 68; refine (hSz _).mono ?_; rintro e w1 ⟨rfl, rfl⟩) | (go_at_call 67; refine (hG _ _ k3 (Nat.le_refl _)).mono ?_; rintro e w2 ⟨rfl, hA, hb2⟩))
  have HU0 : BuiltB w.heap.size w.heap.size [] w2 := hA
  have hbb : Below w.heap.size w w2 := HB.trans hb2
  have hacc0 : encL s.data.toList = [] ++ encL s.data.toList := rfl
  go_loopw [0] (fun sv wr => ∃ (S : ByteArray) (acc : List UInt8), sv = .string S ∧ S.size ≤ 2000 ∧ encL s.data.toList = acc ++ encL S.data.toList ∧ BuiltB w.heap.size w.heap.size acc wr ∧ Below w.heap.size w wr) (fun sv _ => strN sv)
  case atStart => exact ⟨s, [], rfl, hs, hacc0, HU0, hbb⟩
  case round =>
    clear HU0 hbb hacc0 HB hb2 hA k3
    obtain ⟨S, acc, rfl, hS, hacc, HU, HB⟩ := hrel
    have hal : acc.length ≤ 900000 := by
      have e1 := encL_length s.data.toList
      have e0 : s.data.toList.length = s.size := Array.length_toList
      rw [hacc, List.length_append, e0] at e1
      omega
    replace hacc := Lib.hid hacc
    rcases Nat.lt_or_ge S.size 1 with h0 | h0
    · have q0 : ¬ (0 : Int) < (S.size : Int) := by omega
      have hT := Tryz.Builder_String_any w.heap.size w.heap.size acc wr (.inr (by rw [show Lib.byteCells acc = acc.map bv from rfl]; exact HU)) HB.size
      go_wp2_with (go_at_call 44; refine hT.mono ?_; rintro e w3 ⟨rfl, hb3⟩)
      exact bodyPost_ret (v := .string ⟨acc.toArray⟩) (by simp [results, Tryz.results46, go_sem]) rfl ⟨by
        have h1 := hacc.out
        have : S.data.toList = [] := by
          apply List.eq_nil_of_length_eq_zero
          rw [Array.length_toList]; exact (show S.size = 0 by omega)
        rw [this, encL, List.append_nil] at h1
        rw [h1], HB.trans hb3⟩
    rcases Nat.lt_or_ge S.size 2 with h1 | h1
    focus
      have e1 : S.size = 1 := by omega
      have q1 : ¬ (3 : Int) < (S.size : Int) := by omega
      have q2 : (S.size : Int) ≤ 3 := by omega
      have q0 : (0 : Int) < (S.size : Int) := by omega
      have a0 : 0 < S.size := by omega
      have b0 : S[0].toNat < 256 := S[0].toNat_lt
      have c0 : ((S[0].toNat : Nat) : Int) < 256 := by omega
      have r0 : (0 : Int) < (S.size : Int) := by omega
      have o0 := or0i S[0].toNat b0
      go_upto_region 6 with fail
      rw [show min (3 : Int) 1 = 1 from rfl]
      go_wp2_with fail
      refine wp_loop_rounds 4 ?_
      rw [rounds_succ]
      go_wp2_with fail
      rw [rounds_succ]
      go_wp2_with fail
      rw [rounds_succ]
      go_wp2_with fail
      rw [rounds_succ]
      go_upto_region 13 with fail
      obtain ⟨V, hV⟩ : ∃ V : Nat, V = S[0].toNat * 256 * 256 := ⟨_, rfl⟩
      rw [val1 _ V hV]
      have hV24 : V < 16777216 := by omega
      have hst := Lib.hid (enc_step1 S e1 V hV)
      clear hV o0  b0 c0
      go_wp2_with fail
      refine wp_loop_rounds 5 ?_
      rw [rounds_succ]
      go_wp2_with (first | (go_at_call 69; (with_reducible refine (WriteEq_c _ _ _ _ HU (by (try simp only [List.length_append, List.length_cons, List.length_nil]); omega) HB.size).mono ?_); rintro e w3 ⟨rfl, HU2, hb2⟩; replace HU := HU2; replace HB := HB.trans hb2; clear HU2 hb2) | (go_at_call 69; refine (WriteByte_c _ _ _ _ _ HU (by (try simp only [List.length_append, List.length_cons, List.length_nil]); omega) HB.size).mono ?_; rintro e w3 ⟨rfl, HU2, hb2⟩; replace HU := HU2; replace HB := HB.trans hb2; clear HU2 hb2))
      rw [rounds_succ]
      go_wp2_with (first | (go_at_call 69; (with_reducible refine (WriteEq_c _ _ _ _ HU (by (try simp only [List.length_append, List.length_cons, List.length_nil]); omega) HB.size).mono ?_); rintro e w3 ⟨rfl, HU2, hb2⟩; replace HU := HU2; replace HB := HB.trans hb2; clear HU2 hb2) | (go_at_call 69; refine (WriteByte_c _ _ _ _ _ HU (by (try simp only [List.length_append, List.length_cons, List.length_nil]); omega) HB.size).mono ?_; rintro e w3 ⟨rfl, HU2, hb2⟩; replace HU := HU2; replace HB := HB.trans hb2; clear HU2 hb2))
      rw [rounds_succ]
      go_wp2_with (first | (go_at_call 69; (with_reducible refine (WriteEq_c _ _ _ _ HU (by (try simp only [List.length_append, List.length_cons, List.length_nil]); omega) HB.size).mono ?_); rintro e w3 ⟨rfl, HU2, hb2⟩; replace HU := HU2; replace HB := HB.trans hb2; clear HU2 hb2) | (go_at_call 69; refine (WriteByte_c _ _ _ _ _ HU (by (try simp only [List.length_append, List.length_cons, List.length_nil]); omega) HB.size).mono ?_; rintro e w3 ⟨rfl, HU2, hb2⟩; replace HU := HU2; replace HB := HB.trans hb2; clear HU2 hb2))
      rw [rounds_succ]
      go_wp2_with (first | (go_at_call 69; (with_reducible refine (WriteEq_c _ _ _ _ HU (by (try simp only [List.length_append, List.length_cons, List.length_nil]); omega) HB.size).mono ?_); rintro e w3 ⟨rfl, HU2, hb2⟩; replace HU := HU2; replace HB := HB.trans hb2; clear HU2 hb2) | (go_at_call 69; refine (WriteByte_c _ _ _ _ _ HU (by (try simp only [List.length_append, List.length_cons, List.length_nil]); omega) HB.size).mono ?_; rintro e w3 ⟨rfl, HU2, hb2⟩; replace HU := HU2; replace HB := HB.trans hb2; clear HU2 hb2))
      rw [rounds_succ]
      go_wp2_with fail
      have hfin : encL s.data.toList = (acc ++ [sgAt (V / 262144 % 64) (Nat.mod_lt _ (by decide))] ++ [sgAt (V / 4096 % 64) (Nat.mod_lt _ (by decide))] ++ [61] ++ [61]) ++ encL ByteArray.empty.data.toList := by
        rw [hacc.out, hst.out]
        simp only [List.append_assoc, List.cons_append, List.nil_append]
        repeat rw [sgAt_eq]
        rw [show (S.extract 1 S.size).data.toList = [] by rw [drop_toList]; exact List.drop_eq_nil_of_le (by rw [Array.length_toList]; exact Nat.le_of_eq e1)]
        try rw [show ByteArray.empty.data.toList = [] from rfl]
      refine ⟨⟨ByteArray.empty, _, rfl, by decide, hfin, HU, HB⟩, by simp only [strN]; exact Nat.lt_of_lt_of_le (by decide : ByteArray.empty.size < 1) h0⟩
    rotate_left
    rcases Nat.lt_or_ge S.size 3 with h2 | h2
    focus
      have e1 : S.size = 2 := by omega
      have q1 : ¬ (3 : Int) < (S.size : Int) := by omega
      have q2 : (S.size : Int) ≤ 3 := by omega
      have q0 : (0 : Int) < (S.size : Int) := by omega
      have a0 : 0 < S.size := by omega
      have b0 : S[0].toNat < 256 := S[0].toNat_lt
      have c0 : ((S[0].toNat : Nat) : Int) < 256 := by omega
      have r0 : (0 : Int) < (S.size : Int) := by omega
      have a1 : 1 < S.size := by omega
      have b1 : S[1].toNat < 256 := S[1].toNat_lt
      have c1 : ((S[1].toNat : Nat) : Int) < 256 := by omega
      have r1 : (1 : Int) < (S.size : Int) := by omega
      have o0 := or0i S[0].toNat b0
      have o1 := or1i S[0].toNat S[1].toNat b0 b1
      go_upto_region 6 with fail
      rw [show min (3 : Int) 2 = 2 from rfl]
      go_wp2_with fail
      refine wp_loop_rounds 4 ?_
      rw [rounds_succ]
      go_wp2_with fail
      rw [rounds_succ]
      go_wp2_with fail
      rw [rounds_succ]
      go_wp2_with fail
      rw [rounds_succ]
      go_upto_region 13 with fail
      obtain ⟨V, hV⟩ : ∃ V : Nat, V = (S[0].toNat * 256 + S[1].toNat) * 256 := ⟨_, rfl⟩
      rw [val2 _ _ V hV]
      have hV24 : V < 16777216 := by omega
      have hst := Lib.hid (enc_step2 S e1 V hV)
      clear hV o0 o1 b0 c0 b1 c1
      go_wp2_with fail
      refine wp_loop_rounds 5 ?_
      rw [rounds_succ]
      go_wp2_with (first | (go_at_call 69; (with_reducible refine (WriteEq_c _ _ _ _ HU (by (try simp only [List.length_append, List.length_cons, List.length_nil]); omega) HB.size).mono ?_); rintro e w3 ⟨rfl, HU2, hb2⟩; replace HU := HU2; replace HB := HB.trans hb2; clear HU2 hb2) | (go_at_call 69; refine (WriteByte_c _ _ _ _ _ HU (by (try simp only [List.length_append, List.length_cons, List.length_nil]); omega) HB.size).mono ?_; rintro e w3 ⟨rfl, HU2, hb2⟩; replace HU := HU2; replace HB := HB.trans hb2; clear HU2 hb2))
      rw [rounds_succ]
      go_wp2_with (first | (go_at_call 69; (with_reducible refine (WriteEq_c _ _ _ _ HU (by (try simp only [List.length_append, List.length_cons, List.length_nil]); omega) HB.size).mono ?_); rintro e w3 ⟨rfl, HU2, hb2⟩; replace HU := HU2; replace HB := HB.trans hb2; clear HU2 hb2) | (go_at_call 69; refine (WriteByte_c _ _ _ _ _ HU (by (try simp only [List.length_append, List.length_cons, List.length_nil]); omega) HB.size).mono ?_; rintro e w3 ⟨rfl, HU2, hb2⟩; replace HU := HU2; replace HB := HB.trans hb2; clear HU2 hb2))
      rw [rounds_succ]
      go_wp2_with (first | (go_at_call 69; (with_reducible refine (WriteEq_c _ _ _ _ HU (by (try simp only [List.length_append, List.length_cons, List.length_nil]); omega) HB.size).mono ?_); rintro e w3 ⟨rfl, HU2, hb2⟩; replace HU := HU2; replace HB := HB.trans hb2; clear HU2 hb2) | (go_at_call 69; refine (WriteByte_c _ _ _ _ _ HU (by (try simp only [List.length_append, List.length_cons, List.length_nil]); omega) HB.size).mono ?_; rintro e w3 ⟨rfl, HU2, hb2⟩; replace HU := HU2; replace HB := HB.trans hb2; clear HU2 hb2))
      rw [rounds_succ]
      go_wp2_with (first | (go_at_call 69; (with_reducible refine (WriteEq_c _ _ _ _ HU (by (try simp only [List.length_append, List.length_cons, List.length_nil]); omega) HB.size).mono ?_); rintro e w3 ⟨rfl, HU2, hb2⟩; replace HU := HU2; replace HB := HB.trans hb2; clear HU2 hb2) | (go_at_call 69; refine (WriteByte_c _ _ _ _ _ HU (by (try simp only [List.length_append, List.length_cons, List.length_nil]); omega) HB.size).mono ?_; rintro e w3 ⟨rfl, HU2, hb2⟩; replace HU := HU2; replace HB := HB.trans hb2; clear HU2 hb2))
      rw [rounds_succ]
      go_wp2_with fail
      have hfin : encL s.data.toList = (acc ++ [sgAt (V / 262144 % 64) (Nat.mod_lt _ (by decide))] ++ [sgAt (V / 4096 % 64) (Nat.mod_lt _ (by decide))] ++ [sgAt (V / 64 % 64) (Nat.mod_lt _ (by decide))] ++ [61]) ++ encL ByteArray.empty.data.toList := by
        rw [hacc.out, hst.out]
        simp only [List.append_assoc, List.cons_append, List.nil_append]
        repeat rw [sgAt_eq]
        rw [show (S.extract 2 S.size).data.toList = [] by rw [drop_toList]; exact List.drop_eq_nil_of_le (by rw [Array.length_toList]; exact Nat.le_of_eq e1)]
        try rw [show ByteArray.empty.data.toList = [] from rfl]
      refine ⟨⟨ByteArray.empty, _, rfl, by decide, hfin, HU, HB⟩, by simp only [strN]; exact Nat.lt_of_lt_of_le (by decide : ByteArray.empty.size < 1) h0⟩
    rotate_left
    focus
      have q1 : ¬ (S.size : Int) < 3 := by omega
      have q2 : (3 : Int) ≤ (S.size : Int) := by omega
      have q0 : (0 : Int) < (S.size : Int) := by omega
      have a0 : 0 < S.size := by omega
      have b0 : S[0].toNat < 256 := S[0].toNat_lt
      have c0 : ((S[0].toNat : Nat) : Int) < 256 := by omega
      have r0 : (0 : Int) < (S.size : Int) := by omega
      have a1 : 1 < S.size := by omega
      have b1 : S[1].toNat < 256 := S[1].toNat_lt
      have c1 : ((S[1].toNat : Nat) : Int) < 256 := by omega
      have r1 : (1 : Int) < (S.size : Int) := by omega
      have a2 : 2 < S.size := by omega
      have b2 : S[2].toNat < 256 := S[2].toNat_lt
      have c2 : ((S[2].toNat : Nat) : Int) < 256 := by omega
      have r2 : (2 : Int) < (S.size : Int) := by omega
      have o0 := or0i S[0].toNat b0
      have o1 := or1i S[0].toNat S[1].toNat b0 b1
      have o2 := or2i S[0].toNat S[1].toNat S[2].toNat b0 b1 b2
      go_upto_region 6 with fail
      try rw [show min (3 : Int) (S.size : Int) = 3 by omega]
      go_wp2_with fail
      refine wp_loop_rounds 4 ?_
      rw [rounds_succ]
      go_wp2_with fail
      rw [rounds_succ]
      go_wp2_with fail
      rw [rounds_succ]
      go_wp2_with fail
      rw [rounds_succ]
      go_upto_region 13 with fail
      obtain ⟨V, hV⟩ : ∃ V : Nat, V = (S[0].toNat * 256 + S[1].toNat) * 256 + S[2].toNat := ⟨_, rfl⟩
      rw [val3 _ _ _ V hV]
      have hV24 : V < 16777216 := by omega
      have hst := Lib.hid (enc_step3 S (by omega) V hV)
      clear hV o0 o1 o2 b0 c0 b1 c1 b2 c2
      go_wp2_with fail
      refine wp_loop_rounds 5 ?_
      rw [rounds_succ]
      go_wp2_with (first | (go_at_call 69; (with_reducible refine (WriteEq_c _ _ _ _ HU (by (try simp only [List.length_append, List.length_cons, List.length_nil]); omega) HB.size).mono ?_); rintro e w3 ⟨rfl, HU2, hb2⟩; replace HU := HU2; replace HB := HB.trans hb2; clear HU2 hb2) | (go_at_call 69; refine (WriteByte_c _ _ _ _ _ HU (by (try simp only [List.length_append, List.length_cons, List.length_nil]); omega) HB.size).mono ?_; rintro e w3 ⟨rfl, HU2, hb2⟩; replace HU := HU2; replace HB := HB.trans hb2; clear HU2 hb2))
      rw [rounds_succ]
      go_wp2_with (first | (go_at_call 69; (with_reducible refine (WriteEq_c _ _ _ _ HU (by (try simp only [List.length_append, List.length_cons, List.length_nil]); omega) HB.size).mono ?_); rintro e w3 ⟨rfl, HU2, hb2⟩; replace HU := HU2; replace HB := HB.trans hb2; clear HU2 hb2) | (go_at_call 69; refine (WriteByte_c _ _ _ _ _ HU (by (try simp only [List.length_append, List.length_cons, List.length_nil]); omega) HB.size).mono ?_; rintro e w3 ⟨rfl, HU2, hb2⟩; replace HU := HU2; replace HB := HB.trans hb2; clear HU2 hb2))
      rw [rounds_succ]
      go_wp2_with (first | (go_at_call 69; (with_reducible refine (WriteEq_c _ _ _ _ HU (by (try simp only [List.length_append, List.length_cons, List.length_nil]); omega) HB.size).mono ?_); rintro e w3 ⟨rfl, HU2, hb2⟩; replace HU := HU2; replace HB := HB.trans hb2; clear HU2 hb2) | (go_at_call 69; refine (WriteByte_c _ _ _ _ _ HU (by (try simp only [List.length_append, List.length_cons, List.length_nil]); omega) HB.size).mono ?_; rintro e w3 ⟨rfl, HU2, hb2⟩; replace HU := HU2; replace HB := HB.trans hb2; clear HU2 hb2))
      rw [rounds_succ]
      go_wp2_with (first | (go_at_call 69; (with_reducible refine (WriteEq_c _ _ _ _ HU (by (try simp only [List.length_append, List.length_cons, List.length_nil]); omega) HB.size).mono ?_); rintro e w3 ⟨rfl, HU2, hb2⟩; replace HU := HU2; replace HB := HB.trans hb2; clear HU2 hb2) | (go_at_call 69; refine (WriteByte_c _ _ _ _ _ HU (by (try simp only [List.length_append, List.length_cons, List.length_nil]); omega) HB.size).mono ?_; rintro e w3 ⟨rfl, HU2, hb2⟩; replace HU := HU2; replace HB := HB.trans hb2; clear HU2 hb2))
      rw [rounds_succ]
      go_wp2_with fail
      have hfin : encL s.data.toList = (acc ++ [sgAt (V / 262144 % 64) (Nat.mod_lt _ (by decide))] ++ [sgAt (V / 4096 % 64) (Nat.mod_lt _ (by decide))] ++ [sgAt (V / 64 % 64) (Nat.mod_lt _ (by decide))] ++ [sgAt (V % 64) (Nat.mod_lt _ (by decide))]) ++ encL (S.extract 3 S.size).data.toList := by
        rw [hacc.out, hst.out]
        simp only [List.append_assoc, List.cons_append, List.nil_append]
        repeat rw [sgAt_eq]
      refine ⟨⟨S.extract 3 S.size, _, rfl, by simp only [ByteArray.size_extract]; omega, hfin, HU, HB⟩, by simp only [strN, ByteArray.size_extract]; omega⟩
end Go.Proofs.YtjigckibbjfkmaaGreatDoor

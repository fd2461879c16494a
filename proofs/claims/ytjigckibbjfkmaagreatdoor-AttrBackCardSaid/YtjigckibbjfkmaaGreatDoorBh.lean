/- The contract of the base64 reference's Decode. -/
import Derived.Test.YtjigckibbjfkmaaGreatDoorBf
import Derived.Test.YtjigckibbjfkmaaGreatDoorBg
namespace Go.Proofs.YtjigckibbjfkmaaGreatDoor
open Go.RowKit Go.Lib
set_option maxRecDepth 100000
set_option linter.unusedSimpArgs false
set_option linter.unusedVariables false
def val8 (a b c d e f g h : Nat) : Nat := ((((((a * 2 + b) * 2 + c) * 2 + d) * 2 + e) * 2 + f) * 2 + g) * 2 + h
theorem oct8_drop (B : List Nat) (k : Nat) (h : 8 * k + 8 ≤ B.length) : oct8 (B.drop (8 * k)) = UInt8.ofNat (val8 (B.getD (8 * k) 0) (B.getD (8 * k + 1) 0) (B.getD (8 * k + 2) 0) (B.getD (8 * k + 3) 0) (B.getD (8 * k + 4) 0) (B.getD (8 * k + 5) 0) (B.getD (8 * k + 6) 0) (B.getD (8 * k + 7) 0)) :: oct8 (B.drop (8 * (k + 1))) := by
  have e : ∀ j, j < B.length → B.drop j = B.getD j 0 :: B.drop (j + 1) := fun j hj => by
    rw [List.drop_eq_getElem_cons hj, List.getD_eq_getElem?_getD, List.getElem?_eq_getElem hj]; rfl
  rw [e (8 * k) (by omega), e (8 * k + 1) (by omega), e (8 * k + 1 + 1) (by omega), e (8 * k + 1 + 1 + 1) (by omega), e (8 * k + 1 + 1 + 1 + 1) (by omega), e (8 * k + 1 + 1 + 1 + 1 + 1) (by omega), e (8 * k + 1 + 1 + 1 + 1 + 1 + 1) (by omega), e (8 * k + 1 + 1 + 1 + 1 + 1 + 1 + 1) (by omega)]
  rfl
theorem oct8_short (l : List Nat) (h : l.length < 8) : oct8 l = [] := by
  match l, h with
  | [], _ => rfl
  | [_], _ => rfl
  | [_, _], _ => rfl
  | [_, _, _], _ => rfl
  | [_, _, _, _], _ => rfl
  | [_, _, _, _, _], _ => rfl
  | [_, _, _, _, _, _], _ => rfl
  | [_, _, _, _, _, _, _], _ => rfl
  | _ :: _ :: _ :: _ :: _ :: _ :: _ :: _ :: _, h => simp at h; omega
theorem bits6_lt (n : Nat) : ∀ x ∈ bits6 n, x < 2 := by
  intro x hx
  simp only [bits6, List.mem_cons, List.not_mem_nil, or_false] at hx
  rcases hx with rfl | rfl | rfl | rfl | rfl | rfl <;> omega
theorem bits6_iv (n : Nat) : (bits6 n).map iv = [.int .i64 ((n : Int) / 32 % 2), .int .i64 ((n : Int) / 16 % 2), .int .i64 ((n : Int) / 8 % 2), .int .i64 ((n : Int) / 4 % 2), .int .i64 ((n : Int) / 2 % 2), .int .i64 ((n : Int) % 2)] := by
  simp [bits6, iv]
def rres (s : List UInt8) : Value := match refDec s with
  | some t => .tuple #[.string ⟨t.toArray⟩, .bool true]
  | none => .tuple #[.string ⟨#[]⟩, .bool false]
set_option maxHeartbeats 16000000 in
theorem rDecode_c (s : ByteArray) (hs : s.size ≤ 2000) (w : World) : Calls Tryz.prog 37 #[.string s] w fun e w' => e = .returned (rres s.data.toList) ∧ Below w.heap.size w w' := by
  have hl : s.data.toList.length = s.size := Array.length_toList
  replace hl := Lib.hid hl
  have hN := fun (c : UInt8) (w : World) => number_c c w
  replace hN := Lib.hid hN
  go_enter Tryz.func37, Tryz.ntmps37
  go_wp2_with fail
  have hO0 : w.ownsRow w.heap.size 3 1 (.slice none 0 0) 0 (([] : List Nat).map iv) := World.ownsRow_nil _ _ _ _
  have hB0 : refB s.data.toList = [] ++ refB (s.data.toList.drop 0) := rfl
  go_loopw [5, 4] (fun i sv wr => ∃ k B, k ≤ s.size ∧ i = .int .i64 (k : Int) ∧ B.length = 6 * k ∧ (∀ x ∈ B, x < 2) ∧ refB s.data.toList = B ++ refB (s.data.toList.drop k) ∧ Below w.heap.size w wr ∧ wr.ownsRow w.heap.size 3 1 sv (6 * k) (B.map iv)) (fun i _ _ => s.size - (RowKit.intOf i).toNat)
  case atStart => exact ⟨0, [], by omega, rfl, rfl, by simp, hB0, Below.refl _ _, hO0⟩
  case round =>
    clear hO0 hB0
    obtain ⟨k, B, hk, rfl, hBl1, hB2, hB, HB, HO⟩ := hrel
    have pn : (0 : Int) ≤ (k : Int) := by omega
    by_cases hlt : k < s.size
    case neg =>
      obtain rfl : k = s.size := by omega
      have hlt' : ¬ (s.size : Int) < (s.size : Int) := by omega
      rw [List.drop_eq_nil_of_le (by rw [hl.out]; exact Nat.le_refl _)] at hB
      rw [refB, List.append_nil] at hB
      obtain ⟨k, hk2⟩ : ∃ k, k = s.size := ⟨_, rfl⟩
      rw [← hk2] at HO hBl1 hs
      clear hlt hk pn
      replace hk2 := Lib.hid hk2
      go_wp2_with fail
      have hBl : B.length = 6 * k := hBl1
      have hkk : k ≤ 2000 := by omega
      replace hBl := Lib.hid hBl
      replace hB2 := Lib.hid hB2
      replace hB := Lib.hid hB
      obtain ⟨M, hM⟩ : ∃ M, M = 6 * k / 8 := ⟨_, rfl⟩
      have hMl : 8 * M ≤ 6 * k := by omega
      have hMg : 6 * k < 8 * M + 8 := by omega
      clear hM hBl1
      obtain ⟨W1, hW1⟩ : ∃ W1 : World, W1 = wr := ⟨_, rfl⟩
      rw [← hW1] at HO HB ⊢
      clear hW1
      obtain ⟨ao, cap, rfl⟩ := own_form HO
      have HU0 : W1.ownsRow W1.heap.size 5 1 (.slice none 0 0) 0 (([] : List UInt8).map bv) := World.ownsRow_nil _ _ _ _
      have hch0 : oct8 B = [] ++ oct8 (B.drop (8 * 0)) := rfl
      go_loopw [9, 8] (fun i sv w2 => ∃ q acc, q ≤ M ∧ i = .int .i64 ((8 * q : Nat) : Int) ∧ acc.length = q ∧ oct8 B = acc ++ oct8 (B.drop (8 * q)) ∧ Below W1.heap.size W1 w2 ∧ w2.ownsRow W1.heap.size 5 1 sv q (acc.map bv)) (fun i _ _ => 6 * k + 8 - (RowKit.intOf i).toNat)
      case atStart => exact ⟨0, [], by omega, rfl, rfl, hch0, Below.refl _ _, HU0⟩
      case round =>
        clear HU0 hch0
        obtain ⟨q, acc, hq, rfl, hal, hch, HV, HU⟩ := hrel
        replace hch := Lib.hid hch
        replace hal := Lib.hid hal
        by_cases hlt : q < M
        · have hlt' : (8 : Int) * (q : Int) + 8 ≤ (6 : Int) * (k : Int) := by omega
          have hlt3 : ((8 * q : Nat) : Int) + 8 ≤ ((6 * k : Nat) : Int) := by omega
          have hst := Lib.hid (oct8_drop B q (by rw [hBl.out]; omega))
          have hg : ∀ t, t < 8 → B.getD (8 * q + t) 0 < 2 := fun t _ => getD_lt B hB2.out _
          have hget : ∀ t, t < 8 → (B.map iv)[8 * q + t]? = some (iv (B.getD (8 * q + t) 0)) := fun t ht => by
            have hj : 8 * q + t < B.length := by rw [hBl.out]; omega
            rw [List.getElem?_map, List.getD_eq_getElem?_getD, List.getElem?_eq_getElem hj]; rfl
          have g0 := hg 0 (by decide)
          have g1 := hg 1 (by decide)
          have g2 := hg 2 (by decide)
          have g3 := hg 3 (by decide)
          have g4 := hg 4 (by decide)
          have g5 := hg 5 (by decide)
          have g6 := hg 6 (by decide)
          have g7 := hg 7 (by decide)
          obtain ⟨gb, capb, eb, cb0⟩ := own_at HO (hget 0 (by decide))
          have hcc : ∀ t, t < 8 → wr.cell? ⟨gb, 8 * q + t, none⟩ = some (iv (B.getD (8 * q + t) 0)) := fun t ht => by
            obtain ⟨g2, cap2, e2, c2⟩ := own_at HO (hget t ht)
            rw [eb] at e2
            cases e2
            exact (HV.cell (p := ⟨gb, _, none⟩) (cell_lt' c2)).trans c2
          cases eb
          have d0 := hcc 0 (by decide)
          have d1 := hcc 1 (by decide)
          have d2 := hcc 2 (by decide)
          have d3 := hcc 3 (by decide)
          have d4 := hcc 4 (by decide)
          have d5 := hcc 5 (by decide)
          have d6 := hcc 6 (by decide)
          have d7 := hcc 7 (by decide)
          clear hget hcc hg cb0
          unfold iv at d0 d1 d2 d3 d4 d5 d6 d7
          rw [Nat.add_zero] at d0 g0
          generalize B.getD (8 * q) 0 = x0 at d0 g0 hst
          generalize B.getD (8 * q + 1) 0 = x1 at d1 g1 hst
          generalize B.getD (8 * q + 2) 0 = x2 at d2 g2 hst
          generalize B.getD (8 * q + 3) 0 = x3 at d3 g3 hst
          generalize B.getD (8 * q + 4) 0 = x4 at d4 g4 hst
          generalize B.getD (8 * q + 5) 0 = x5 at d5 g5 hst
          generalize B.getD (8 * q + 6) 0 = x6 at d6 g6 hst
          generalize B.getD (8 * q + 7) 0 = x7 at d7 g7 hst
          have hvl : val8 x0 x1 x2 x3 x4 x5 x6 x7 < 256 := by unfold val8; omega
          have hvi : ((((((((x0 : Int) * 2 + (x1 : Int)) * 2 + (x2 : Int)) * 2 + (x3 : Int)) * 2 + (x4 : Int)) * 2 + (x5 : Int)) * 2 + (x6 : Int)) * 2 + (x7 : Int)) = ((val8 x0 x1 x2 x3 x4 x5 x6 x7 : Nat) : Int) := by unfold val8; omega
          replace hvi := Lib.hid hvi
          generalize val8 x0 x1 x2 x3 x4 x5 x6 x7 = v at hst hvl hvi
          have hvl2 : (v : Int) < 256 := by omega
          go_wp2_with fail
          refine wp_loop_rounds 9 ?_
          rw [rounds_succ]
          go_wp2_with fail
          rw [rounds_succ]
          go_wp2_with fail
          rw [rounds_succ]
          go_wp2_with fail
          rw [rounds_succ]
          go_wp2_with fail
          rw [rounds_succ]
          go_wp2_with fail
          rw [rounds_succ]
          go_wp2_with fail
          rw [rounds_succ]
          go_wp2_with fail
          rw [rounds_succ]
          go_wp2_with fail
          rw [rounds_succ]
          go_upto_region 20 with fail
          rw [hvi.out]
          go_wp2_with (refine wpList_app1 rfl _ _ 49 rfl W1.heap.size 5 (.int .u8 0) 1 Tryz.underlying49 (by kernel_rfl) rfl (by decide) _ _ _ rfl (ownsRow_block HU fun g hg => heap_alloc_old _ _ (ownsRow_lt HU hg).2) _ 1 _ rfl (blk_cell (blk_new _ _) 0) rfl (by omega) (by have := HV.size; simp; omega) ?_; intro g4 cap4 w4 HO4 hg4 hsv4 hlt4; replace HV := grown_below (bl_alloc HV _) hg4 (by have := HV.size; simp; omega) (fun g hg => (ownsRow_lt HU hg).1); replace HU := HO4; clear hg4 HO4 hsv4 hlt4)
          go_roundw
          case measure => simp [RowKit.intOf] <;> omega
          refine ⟨q + 1, acc ++ [UInt8.ofNat v], by omega, congrArg (Value.int .i64) (by omega), by rw [List.length_append, hal.out]; rfl, by rw [hch.out, hst.out, List.append_assoc]; rfl, HV, ?_⟩
          rw [List.map_append]
          have eb : bv (UInt8.ofNat v) = .int .u8 (v : Int) := by
            show Value.int .u8 ((UInt8.ofNat v).toNat : Int) = _
            rw [UInt8.toNat_ofNat', show v % 256 = v by omega]
          rw [List.map_cons, List.map_nil, eb]
          exact HU
        · obtain rfl : q = M := by omega
          have hlt' : ¬ (8 : Int) * (q : Int) + 8 ≤ (6 : Int) * (k : Int) := by omega
          have hlt3 : ¬ ((8 * q : Nat) : Int) + 8 ≤ ((6 * k : Nat) : Int) := by omega
          have hA : oct8 B = acc := by
            rw [hch.out, oct8_short _ (by rw [List.length_drop, hBl.out]; omega), List.append_nil]
          have hfd : refDec s.data.toList = if encL acc = s.data.toList then some acc else none := by
            unfold refDec; rw [hB.out, hA]
          replace hfd := Lib.hid hfd
          clear hA
          have rk := RowB.owns hal.out.symm HU
          have hE := fun w => rEncode_c ⟨acc.toArray⟩ (by simp only [ByteArray.size, List.size_toArray]; rw [hal.out]; omega) w
          have hEe : (ByteArray.mk acc.toArray).data.toList = acc := rfl
          rw [hEe] at hE
          clear hEe
          generalize hEE : ByteArray.mk (encL acc).toArray = E at hE
          by_cases hc : encL acc = s.data.toList
          · have hs2 : E = s := by rw [← hEE, hc]
            clear hEE
            rw [if_pos hc] at hfd
            go_wp2_with (first | (refine wpList_convBS rfl rfl rfl (by first | exact rk3 | exact rk) ?_) | (go_at_call 32; refine (hE _).mono ?_; rintro e w3 ⟨rfl, hw3⟩; have rk3 := RowB.grow rk hw3))
            exact bodyPost_ret (v := .tuple #[.string ⟨acc.toArray⟩, .bool true]) (by simp [results, Tryz.results37, go_sem]) rfl ⟨by unfold rres; rw [hfd.out], bl_call hw3 (bl_call HV HB)⟩
          · have hs2 : ¬ E = s := fun q => hc (by rw [← q, ← hEE])
            have hs3 : (E.toList == s.toList) = false := by
              rw [ByteArray.toList_eq, ByteArray.toList_eq, beq_eq_false_iff_ne]
              exact fun q => hs2 (ByteArray.ext (Array.ext' q))
            clear hEE
            rw [if_neg hc] at hfd
            go_wp2_with (first | (refine wpList_convBS rfl rfl rfl (by first | exact rk3 | exact rk) ?_) | (go_at_call 32; refine (hE _).mono ?_; rintro e w3 ⟨rfl, hw3⟩; have rk3 := RowB.grow rk hw3))
            exact bodyPost_ret (v := .tuple #[.string ⟨#[]⟩, .bool false]) (by simp [results, Tryz.results37, go_sem]) rfl ⟨by unfold rres; rw [hfd.out], bl_call hw3 (bl_call HV HB)⟩
    have hlt' : (k : Int) < (s.size : Int) := by omega
    have hdr := list_at s k hlt
    rw [hdr] at hB
    have hNk := fun w => hN.out s[k] w
    obtain ⟨c, hc⟩ : ∃ c, c = s[k] := ⟨_, rfl⟩
    rw [← hc] at hB hNk
    have hb1 : (s[k].toNat : Int) = (c.toNat : Int) := by rw [hc]
    have hix := fun w => ix_c s (k : Int) k c rfl hlt hc w
    clear hdr hb1 hc
    cases hu : un c with
    | none =>
      have x0 : ixR c = -1 := by simp [ixR, hu]
      rw [refB, hu] at hB
      simp only [List.append_nil] at hB
      rw [x0] at hNk
      clear hu x0
      have hkl : k < 2000 := by omega
      go_wp2_with (go_at_call 59; refine (hNk _).mono ?_; rintro e w1 ⟨rfl, rfl⟩)
      have hBl : B.length = 6 * k := hBl1
      have hkk : k ≤ 2000 := by omega
      replace hBl := Lib.hid hBl
      replace hB2 := Lib.hid hB2
      replace hB := Lib.hid hB
      obtain ⟨M, hM⟩ : ∃ M, M = 6 * k / 8 := ⟨_, rfl⟩
      have hMl : 8 * M ≤ 6 * k := by omega
      have hMg : 6 * k < 8 * M + 8 := by omega
      clear hM hBl1
      obtain ⟨W1, hW1⟩ : ∃ W1 : World, W1 = w1 := ⟨_, rfl⟩
      rw [← hW1] at HO HB ⊢
      clear hW1
      obtain ⟨ao, cap, rfl⟩ := own_form HO
      have HU0 : W1.ownsRow W1.heap.size 5 1 (.slice none 0 0) 0 (([] : List UInt8).map bv) := World.ownsRow_nil _ _ _ _
      have hch0 : oct8 B = [] ++ oct8 (B.drop (8 * 0)) := rfl
      go_loopw [9, 8] (fun i sv w2 => ∃ q acc, q ≤ M ∧ i = .int .i64 ((8 * q : Nat) : Int) ∧ acc.length = q ∧ oct8 B = acc ++ oct8 (B.drop (8 * q)) ∧ Below W1.heap.size W1 w2 ∧ w2.ownsRow W1.heap.size 5 1 sv q (acc.map bv)) (fun i _ _ => 6 * k + 8 - (RowKit.intOf i).toNat)
      case atStart => exact ⟨0, [], by omega, rfl, rfl, hch0, Below.refl _ _, HU0⟩
      case round =>
        clear HU0 hch0
        obtain ⟨q, acc, hq, rfl, hal, hch, HV, HU⟩ := hrel
        replace hch := Lib.hid hch
        replace hal := Lib.hid hal
        by_cases hlt : q < M
        · have hlt' : (8 : Int) * (q : Int) + 8 ≤ (6 : Int) * (k : Int) := by omega
          have hlt3 : ((8 * q : Nat) : Int) + 8 ≤ ((6 * k : Nat) : Int) := by omega
          have hst := Lib.hid (oct8_drop B q (by rw [hBl.out]; omega))
          have hg : ∀ t, t < 8 → B.getD (8 * q + t) 0 < 2 := fun t _ => getD_lt B hB2.out _
          have hget : ∀ t, t < 8 → (B.map iv)[8 * q + t]? = some (iv (B.getD (8 * q + t) 0)) := fun t ht => by
            have hj : 8 * q + t < B.length := by rw [hBl.out]; omega
            rw [List.getElem?_map, List.getD_eq_getElem?_getD, List.getElem?_eq_getElem hj]; rfl
          have g0 := hg 0 (by decide)
          have g1 := hg 1 (by decide)
          have g2 := hg 2 (by decide)
          have g3 := hg 3 (by decide)
          have g4 := hg 4 (by decide)
          have g5 := hg 5 (by decide)
          have g6 := hg 6 (by decide)
          have g7 := hg 7 (by decide)
          obtain ⟨gb, capb, eb, cb0⟩ := own_at HO (hget 0 (by decide))
          have hcc : ∀ t, t < 8 → wr.cell? ⟨gb, 8 * q + t, none⟩ = some (iv (B.getD (8 * q + t) 0)) := fun t ht => by
            obtain ⟨g2, cap2, e2, c2⟩ := own_at HO (hget t ht)
            rw [eb] at e2
            cases e2
            exact (HV.cell (p := ⟨gb, _, none⟩) (cell_lt' c2)).trans c2
          cases eb
          have d0 := hcc 0 (by decide)
          have d1 := hcc 1 (by decide)
          have d2 := hcc 2 (by decide)
          have d3 := hcc 3 (by decide)
          have d4 := hcc 4 (by decide)
          have d5 := hcc 5 (by decide)
          have d6 := hcc 6 (by decide)
          have d7 := hcc 7 (by decide)
          clear hget hcc hg cb0
          unfold iv at d0 d1 d2 d3 d4 d5 d6 d7
          rw [Nat.add_zero] at d0 g0
          generalize B.getD (8 * q) 0 = x0 at d0 g0 hst
          generalize B.getD (8 * q + 1) 0 = x1 at d1 g1 hst
          generalize B.getD (8 * q + 2) 0 = x2 at d2 g2 hst
          generalize B.getD (8 * q + 3) 0 = x3 at d3 g3 hst
          generalize B.getD (8 * q + 4) 0 = x4 at d4 g4 hst
          generalize B.getD (8 * q + 5) 0 = x5 at d5 g5 hst
          generalize B.getD (8 * q + 6) 0 = x6 at d6 g6 hst
          generalize B.getD (8 * q + 7) 0 = x7 at d7 g7 hst
          have hvl : val8 x0 x1 x2 x3 x4 x5 x6 x7 < 256 := by unfold val8; omega
          have hvi : ((((((((x0 : Int) * 2 + (x1 : Int)) * 2 + (x2 : Int)) * 2 + (x3 : Int)) * 2 + (x4 : Int)) * 2 + (x5 : Int)) * 2 + (x6 : Int)) * 2 + (x7 : Int)) = ((val8 x0 x1 x2 x3 x4 x5 x6 x7 : Nat) : Int) := by unfold val8; omega
          replace hvi := Lib.hid hvi
          generalize val8 x0 x1 x2 x3 x4 x5 x6 x7 = v at hst hvl hvi
          have hvl2 : (v : Int) < 256 := by omega
          go_wp2_with fail
          refine wp_loop_rounds 9 ?_
          rw [rounds_succ]
          go_wp2_with fail
          rw [rounds_succ]
          go_wp2_with fail
          rw [rounds_succ]
          go_wp2_with fail
          rw [rounds_succ]
          go_wp2_with fail
          rw [rounds_succ]
          go_wp2_with fail
          rw [rounds_succ]
          go_wp2_with fail
          rw [rounds_succ]
          go_wp2_with fail
          rw [rounds_succ]
          go_wp2_with fail
          rw [rounds_succ]
          go_upto_region 20 with fail
          rw [hvi.out]
          go_wp2_with (refine wpList_app1 rfl _ _ 49 rfl W1.heap.size 5 (.int .u8 0) 1 Tryz.underlying49 (by kernel_rfl) rfl (by decide) _ _ _ rfl (ownsRow_block HU fun g hg => heap_alloc_old _ _ (ownsRow_lt HU hg).2) _ 1 _ rfl (blk_cell (blk_new _ _) 0) rfl (by omega) (by have := HV.size; simp; omega) ?_; intro g4 cap4 w4 HO4 hg4 hsv4 hlt4; replace HV := grown_below (bl_alloc HV _) hg4 (by have := HV.size; simp; omega) (fun g hg => (ownsRow_lt HU hg).1); replace HU := HO4; clear hg4 HO4 hsv4 hlt4)
          go_roundw
          case measure => simp [RowKit.intOf] <;> omega
          refine ⟨q + 1, acc ++ [UInt8.ofNat v], by omega, congrArg (Value.int .i64) (by omega), by rw [List.length_append, hal.out]; rfl, by rw [hch.out, hst.out, List.append_assoc]; rfl, HV, ?_⟩
          rw [List.map_append]
          have eb : bv (UInt8.ofNat v) = .int .u8 (v : Int) := by
            show Value.int .u8 ((UInt8.ofNat v).toNat : Int) = _
            rw [UInt8.toNat_ofNat', show v % 256 = v by omega]
          rw [List.map_cons, List.map_nil, eb]
          exact HU
        · obtain rfl : q = M := by omega
          have hlt' : ¬ (8 : Int) * (q : Int) + 8 ≤ (6 : Int) * (k : Int) := by omega
          have hlt3 : ¬ ((8 * q : Nat) : Int) + 8 ≤ ((6 * k : Nat) : Int) := by omega
          have hA : oct8 B = acc := by
            rw [hch.out, oct8_short _ (by rw [List.length_drop, hBl.out]; omega), List.append_nil]
          have hfd : refDec s.data.toList = if encL acc = s.data.toList then some acc else none := by
            unfold refDec; rw [hB.out, hA]
          replace hfd := Lib.hid hfd
          clear hA
          have rk := RowB.owns hal.out.symm HU
          have hE := fun w => rEncode_c ⟨acc.toArray⟩ (by simp only [ByteArray.size, List.size_toArray]; rw [hal.out]; omega) w
          have hEe : (ByteArray.mk acc.toArray).data.toList = acc := rfl
          rw [hEe] at hE
          clear hEe
          generalize hEE : ByteArray.mk (encL acc).toArray = E at hE
          by_cases hc : encL acc = s.data.toList
          · have hs2 : E = s := by rw [← hEE, hc]
            clear hEE
            rw [if_pos hc] at hfd
            go_wp2_with (first | (refine wpList_convBS rfl rfl rfl (by first | exact rk3 | exact rk) ?_) | (go_at_call 32; refine (hE _).mono ?_; rintro e w3 ⟨rfl, hw3⟩; have rk3 := RowB.grow rk hw3))
            exact bodyPost_ret (v := .tuple #[.string ⟨acc.toArray⟩, .bool true]) (by simp [results, Tryz.results37, go_sem]) rfl ⟨by unfold rres; rw [hfd.out], bl_call hw3 (bl_call HV HB)⟩
          · have hs2 : ¬ E = s := fun q => hc (by rw [← q, ← hEE])
            have hs3 : (E.toList == s.toList) = false := by
              rw [ByteArray.toList_eq, ByteArray.toList_eq, beq_eq_false_iff_ne]
              exact fun q => hs2 (ByteArray.ext (Array.ext' q))
            clear hEE
            rw [if_neg hc] at hfd
            go_wp2_with (first | (refine wpList_convBS rfl rfl rfl (by first | exact rk3 | exact rk) ?_) | (go_at_call 32; refine (hE _).mono ?_; rintro e w3 ⟨rfl, hw3⟩; have rk3 := RowB.grow rk hw3))
            exact bodyPost_ret (v := .tuple #[.string ⟨#[]⟩, .bool false]) (by simp [results, Tryz.results37, go_sem]) rfl ⟨by unfold rres; rw [hfd.out], bl_call hw3 (bl_call HV HB)⟩
    | some n =>
      have hn := (sg_un c n hu).2
      have x0 : ixR c = (n : Int) := by simp [ixR, hu]
      rw [refB, hu] at hB
      simp only at hB
      rw [x0] at hNk
      have hn0 : (0 : Int) ≤ (n : Int) := by omega
      have hn1 : (n : Int) < 64 := by omega
      clear hu x0
      have hB3 : refB s.data.toList = (B ++ bits6 n) ++ refB (s.data.toList.drop (k + 1)) := by rw [List.append_assoc]; exact hB
      replace hB3 := Lib.hid hB3
      clear hB
      go_wp2_with (go_at_call 59; refine (hNk _).mono ?_; rintro e w1 ⟨rfl, rfl⟩)
      refine wp_loop_rounds 7 ?_
      rw [rounds_succ]
      go_wp2_with (refine wpList_app1 rfl _ _ 67 rfl w.heap.size 3 (.int .i64 0) 8 Tryz.underlying67 (by kernel_rfl) rfl (by decide) _ _ _ rfl (ownsRow_block HO fun g hg => heap_alloc_old _ _ (ownsRow_lt HO hg).2) _ 1 _ rfl (blk_cell (blk_new _ _) 0) rfl (by omega) (by have := HB.size; simp; omega) ?_; intro g4 cap4 w4 HO4 hg4 hsv4 hlt4; replace HB := grown_below (bl_alloc HB _) hg4 (by have := HB.size; simp; omega) (fun g hg => (ownsRow_lt HO hg).1); replace HO := HO4; clear hg4 HO4 hsv4 hlt4)
      rw [rounds_succ]
      go_wp2_with (refine wpList_app1 rfl _ _ 67 rfl w.heap.size 3 (.int .i64 0) 8 Tryz.underlying67 (by kernel_rfl) rfl (by decide) _ _ _ rfl (ownsRow_block HO fun g hg => heap_alloc_old _ _ (ownsRow_lt HO hg).2) _ 1 _ rfl (blk_cell (blk_new _ _) 0) rfl (by omega) (by have := HB.size; simp; omega) ?_; intro g4 cap4 w4 HO4 hg4 hsv4 hlt4; replace HB := grown_below (bl_alloc HB _) hg4 (by have := HB.size; simp; omega) (fun g hg => (ownsRow_lt HO hg).1); replace HO := HO4; clear hg4 HO4 hsv4 hlt4)
      rw [rounds_succ]
      go_wp2_with (refine wpList_app1 rfl _ _ 67 rfl w.heap.size 3 (.int .i64 0) 8 Tryz.underlying67 (by kernel_rfl) rfl (by decide) _ _ _ rfl (ownsRow_block HO fun g hg => heap_alloc_old _ _ (ownsRow_lt HO hg).2) _ 1 _ rfl (blk_cell (blk_new _ _) 0) rfl (by omega) (by have := HB.size; simp; omega) ?_; intro g4 cap4 w4 HO4 hg4 hsv4 hlt4; replace HB := grown_below (bl_alloc HB _) hg4 (by have := HB.size; simp; omega) (fun g hg => (ownsRow_lt HO hg).1); replace HO := HO4; clear hg4 HO4 hsv4 hlt4)
      rw [rounds_succ]
      go_wp2_with (refine wpList_app1 rfl _ _ 67 rfl w.heap.size 3 (.int .i64 0) 8 Tryz.underlying67 (by kernel_rfl) rfl (by decide) _ _ _ rfl (ownsRow_block HO fun g hg => heap_alloc_old _ _ (ownsRow_lt HO hg).2) _ 1 _ rfl (blk_cell (blk_new _ _) 0) rfl (by omega) (by have := HB.size; simp; omega) ?_; intro g4 cap4 w4 HO4 hg4 hsv4 hlt4; replace HB := grown_below (bl_alloc HB _) hg4 (by have := HB.size; simp; omega) (fun g hg => (ownsRow_lt HO hg).1); replace HO := HO4; clear hg4 HO4 hsv4 hlt4)
      rw [rounds_succ]
      go_wp2_with (refine wpList_app1 rfl _ _ 67 rfl w.heap.size 3 (.int .i64 0) 8 Tryz.underlying67 (by kernel_rfl) rfl (by decide) _ _ _ rfl (ownsRow_block HO fun g hg => heap_alloc_old _ _ (ownsRow_lt HO hg).2) _ 1 _ rfl (blk_cell (blk_new _ _) 0) rfl (by omega) (by have := HB.size; simp; omega) ?_; intro g4 cap4 w4 HO4 hg4 hsv4 hlt4; replace HB := grown_below (bl_alloc HB _) hg4 (by have := HB.size; simp; omega) (fun g hg => (ownsRow_lt HO hg).1); replace HO := HO4; clear hg4 HO4 hsv4 hlt4)
      rw [rounds_succ]
      go_wp2_with (refine wpList_app1 rfl _ _ 67 rfl w.heap.size 3 (.int .i64 0) 8 Tryz.underlying67 (by kernel_rfl) rfl (by decide) _ _ _ rfl (ownsRow_block HO fun g hg => heap_alloc_old _ _ (ownsRow_lt HO hg).2) _ 1 _ rfl (blk_cell (blk_new _ _) 0) rfl (by omega) (by have := HB.size; simp; omega) ?_; intro g4 cap4 w4 HO4 hg4 hsv4 hlt4; replace HB := grown_below (bl_alloc HB _) hg4 (by have := HB.size; simp; omega) (fun g hg => (ownsRow_lt HO hg).1); replace HO := HO4; clear hg4 HO4 hsv4 hlt4)
      rw [rounds_succ]
      go_wp2_with fail
      refine ⟨⟨k + 1, B ++ bits6 n, by omega, congrArg (Value.int .i64) (by omega), by simp [bits6]; omega, fun x hx => (List.mem_append.1 hx).elim (hB2 x) (bits6_lt n x), hB3.out, HB, ?_⟩, by simp [RowKit.intOf] <;> omega⟩
      rw [List.map_append, bits6_iv, show 6 * (k + 1) = 6 * k + 1 + 1 + 1 + 1 + 1 + 1 by omega]
      simpa using HO
end Go.Proofs.YtjigckibbjfkmaaGreatDoor


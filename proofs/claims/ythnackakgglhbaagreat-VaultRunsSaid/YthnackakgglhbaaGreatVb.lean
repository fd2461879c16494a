/- Contracts of both Streams. -/
import Derived.Test.YthnackakgglhbaaGreatVa
namespace Go.Proofs.YthnackakgglhbaaGreat
open Go.RowKit Go.Lib
set_option maxRecDepth 100000
set_option linter.unusedSimpArgs false
set_option linter.unusedVariables false
theorem blk_msg (k l : ByteArray) (q : Nat) (hl : l.size ≤ 100000) : (strK ++ l ++ zro ++ cntB q).size ≤ 400000 := by
  simp only [ByteArray.size_append]
  have h1 : strK.size = 7 := rfl
  have h2 : zro.size = 1 := rfl
  have h3 : (cntB q).size = 4 := rfl
  omega
/-- The four bytes of a count. -/
def cntL (q : Nat) : List UInt8 := [0, 0, UInt8.ofNat (q / 256), UInt8.ofNat q]
theorem cnt_is (q : Nat) : (⟨(cntL q).toArray⟩ : ByteArray) = cntB q := rfl
theorem bv_of (n : Nat) : bv (UInt8.ofNat n) = .int .u8 ((n % 256 : Nat) : Int) := by simp [bv]
theorem cnt_row (q : Nat) (hq : q ≤ 65535) (w : World) (g : Nat) (h : w.heap[g]? = some (.cells #[.int .u8 0, .int .u8 0, .int .u8 ((q : Int) / 256), .int .u8 ((q : Int) % 256)] 5 (0, 0))) : RowB w (.slice (some ⟨g, 0, none⟩) 4 4) (cntL q) := by
  refine RowB.block (bs := cntL q) h ?_
  have e1 : bv (UInt8.ofNat (q / 256)) = .int .u8 ((q : Int) / 256) := by rw [bv_of]; congr 1; omega
  have e2 : bv (UInt8.ofNat q) = .int .u8 ((q : Int) % 256) := by rw [bv_of]; congr 1
  simp only [cntL, List.map_cons, List.map_nil, e1, e2]
  rfl
theorem cnt_row2 (q : Nat) (hq : q ≤ 255) (w : World) (g : Nat) (h : w.heap[g]? = some (.cells #[.int .u8 ((q : Int) / 16777216), .int .u8 ((q : Int) / 65536), .int .u8 ((q : Int) / 256), .int .u8 (q : Int)] 5 (0, 0))) : RowB w (.slice (some ⟨g, 0, none⟩) 4 4) (cntL q) := by
  refine cnt_row q (by omega) w g (h.trans ?_)
  rw [show (q : Int) / 16777216 = 0 by omega, show (q : Int) / 65536 = 0 by omega, show (q : Int) % 256 = (q : Int) by omega]
theorem cnt_size (q : Nat) : (cntB q).size = 4 := rfl
set_option maxHeartbeats 4000000 in
theorem rStream_c (k l : ByteArray) (hk : k.size ≤ 100000) (hl : l.size ≤ 100000) (N : Nat) (hN : N ≤ 4096) (w : World) : Calls Tryz.prog 20 #[.string k, .string l, .int .i64 (N : Int)] w fun e w' => e = .returned (.string (strT k l N)) ∧ Below w.heap.size w w' := by
  have hP := fun q w => mac43_c k (strK ++ l ++ zro ++ cntB q) (by omega) (blk_msg k l q hl) w
  have hstep := fun q => strA_succ k l q
  have hsz := fun q => strA_size k l q
  have hfin : strT k l N = (strA k l ((N + 31) / 32)).extract 0 N := rfl
  have hB : ∀ q, macText k (strK ++ l ++ zro ++ cntB q) = blkS k l q := fun _ => rfl
  simp only [hB] at hP
  have h0 : strA k l 0 = ⟨#[]⟩ := rfl
  have hMs : ∀ q, (blkS k l q).size = 32 := fun q => macText_size _ _
  rw [hfin]
  generalize strA k l = S at hstep hsz h0 ⊢
  generalize blkS k l = M at hP hstep hMs
  replace hP := Lib.hid hP
  replace hstep := Lib.hid hstep
  replace hsz := Lib.hid hsz
  have hms : ∀ q, (M q).size = 32 := hMs
  replace hms := Lib.hid hms
  clear hfin hB hMs
  go_enter Tryz.func20, Tryz.ntmps20
  go_wp2_with fail
  go_loopw [7, 8] (fun s i wr => ∃ q : Nat, i = .int .i64 (q : Int) ∧ s = .string (S q) ∧ 32 * q < N + 32 ∧ Below w.heap.size w wr) (fun _ i _ => N + 32 - (RowKit.intOf i).toNat)
  case atStart => exact ⟨0, rfl, by rw [h0], by omega, Below.refl _ _⟩
  case round =>
    clear h0
    obtain ⟨q, rfl, rfl, hq, HB⟩ := hrel
    have hs := hsz.out q
    have hs' : ((S q).size : Int) = 32 * (q : Int) := by omega
    by_cases hlt : 32 * q < N
    · have hlt' : 32 * (q : Int) < (N : Int) := by omega
      have hq2 : q ≤ 200 := by omega
      have hst : S (q + 1) = S q ++ M q := hstep.out q
      replace hst := Lib.hid hst
      have hPq := hP.out q
      have hc4 := cnt_size q
      have hM1 := hms.out q
      have hcat : ((S q).size : Int) + ((M q).size : Int) ≤ 1000000 := by omega
      unfold strK zro at hPq
      go_wp2_with (first | (refine wpList_convBS rfl rfl rfl (cnt_row q (by omega) _ _ (blk_new _ _)) ?_; rw [cnt_is]) | (go_at_call 18; refine (hPq _).mono ?_; rintro e w3 ⟨rfl, hb3⟩))
      all_goals first | (exact ⟨⟨q + 1, congrArg (Value.int .i64) (by omega), by rw [hst.out], by omega, bl_call hb3 (bl_alloc HB _)⟩, by simp [RowKit.intOf] <;> omega⟩) | omega
    · have hlt' : ¬ 32 * (q : Int) < (N : Int) := by omega
      have hqe : (N + 31) / 32 = q := by omega
      have hNs : (N : Int) ≤ ((S q).size : Int) := by omega
      replace hqe := Lib.hid hqe
      go_wp2_with fail
      exact bodyPost_ret (v := .string ((S q).extract 0 N)) (by simp [results, Tryz.results20, go_sem]) rfl ⟨by rw [hqe.out], HB⟩
set_option maxHeartbeats 4000000 in
theorem vStream_c (k l : ByteArray) (hk : k.size ≤ 100000) (hl : l.size ≤ 100000) (z : Int) (N : Nat) (hz : z ≤ 4096) (hN : (N : Int) = if z < 0 then 0 else z) (w : World) : Calls Tryz.prog 33 #[.string k, .string l, .int .i64 z] w fun e w' => e = .returned (.string (strT k l N)) ∧ Below w.heap.size w w' := by
  have hP := fun q w => hPlain_c k (strK ++ l ++ zro ++ cntB q) (by omega) (by have := blk_msg k l q hl; omega) w
  have hstep : ∀ q, strB k l (q + 1) = strB k l q ++ (blkS k l q).data.toList := fun q => rfl
  have hsz := fun q => strB_length k l q
  have hfin : strT k l N = (⟨(strB k l ((N + 31) / 32)).toArray⟩ : ByteArray).extract 0 N := rfl
  have hB : ∀ q, macText k (strK ++ l ++ zro ++ cntB q) = blkS k l q := fun _ => rfl
  simp only [hB] at hP
  have h0 : strB k l 0 = [] := rfl
  have hms : ∀ q, (blkS k l q).size = 32 := fun q => macText_size _ _
  rw [hfin]
  generalize strB k l = S at hstep hsz h0 ⊢
  generalize blkS k l = M at hP hstep hms
  replace hP := Lib.hid hP
  replace hstep := Lib.hid hstep
  replace hsz := Lib.hid hsz
  replace hms := Lib.hid hms
  clear hfin hB
  have hNle : (N : Int) ≤ 4096 := by rw [hN]; split <;> omega
  have hmx : max z 0 = (N : Int) := by rw [hN]; split <;> omega
  have hmn : min (N : Int) 4096 = (N : Int) := by omega
  replace hN := Lib.hid hN
  go_enter Tryz.func33, Tryz.ntmps33
  go_upto_region 3 with fail
  refine gen_world fun W hW => ?_
  have kb0 : BldF w.heap.size w.heap.size (S 0) W := by subst hW; rw [h0]; exact bld_new w
  have HB0 : Below w.heap.size w W := by subst hW; (repeat (first | exact Below.refl _ _ | (refine bl_alloc ?_ _) | (refine bl_drewN ?_ _) | (refine bl_drew ?_) | (refine bl_call (by assumption) ?_) | (refine bl_set _ _ (by simp <;> omega) ?_) | assumption))
  have hbl : w.heap.size < W.heap.size := by subst hW; simp
  clear hW hmx hmn
  obtain ⟨b, hb⟩ : ∃ b, b = w.heap.size := ⟨_, rfl⟩
  have hbw : w.heap.size ≤ b := by omega
  rw [← hb]
  rw [show BldF w.heap.size w.heap.size (S 0) W = BldF w.heap.size b (S 0) W by rw [hb]] at kb0
  clear hb hbl h0
  go_wp2_with fail
  go_loopw [8] (fun i wr => ∃ q : Nat, i = .int .i64 (q : Int) ∧ 32 * q < N + 32 ∧ BldF w.heap.size b (S q) wr ∧ Below w.heap.size w wr) (fun i _ => N + 32 - (RowKit.intOf i).toNat)
  case atStart => exact ⟨0, rfl, by omega, kb0, HB0⟩
  case round =>
    clear kb0 HB0
    obtain ⟨q, rfl, hq, kb, HB⟩ := hrel
    have hs := hsz.out q
    have hL : Calls Tryz.prog 42 #[.pointer (some ⟨b, 0, none⟩)] wr fun e w' => e = .returned (.int .i64 (32 * (q : Int))) ∧ w' = wr := by
      have := Tryz.Builder_Len_f w.heap.size b (Lib.byteCells (S q)) wr kb
      rw [Lib.byteCells_length, hs] at this
      simpa using this
    by_cases hlt : 32 * q < N
    · have hlt' : 32 * (q : Int) < (N : Int) := by omega
      have hq2 : q ≤ 200 := by omega
      have hst : S (q + 1) = S q ++ (M q).data.toList := hstep.out q
      replace hst := Lib.hid hst
      have hPq := hP.out q
      have hc4 := cnt_size q
      have hM1 := hms.out q
      unfold strK zro at hPq
      go_upto_region 6 with (go_at_call 42; refine hL.mono ?_; rintro e w3 ⟨rfl, rfl⟩)
      have kb2 := fun o => kb.grow (Below.alloc (Below.refl _ _) (Nat.le_refl _) o)
      go_wp2_with (first | (refine wpList_convBS rfl rfl rfl (cnt_row2 q (by omega) _ _ (blk_new _ _)) ?_; rw [cnt_is]) | (go_at_call 34; refine (hPq _).mono ?_; rintro e w4 ⟨rfl, hb4⟩; replace kb := (kb2 _).grow hb4; replace HB := bl_call hb4 (bl_alloc HB _)) | (go_at_call 43; refine (WS_c w.heap.size b _ _ _ kb (by omega) HB.size).mono ?_; rintro e w5 ⟨rfl, kb5, hb5, hk5⟩; rw [← hst.out] at kb5; replace HB := HB.trans hb5))
      exact ⟨⟨q + 1, congrArg (Value.int .i64) (by omega), by omega, kb5, HB⟩, by simp [RowKit.intOf] <;> omega⟩
    · have hlt' : ¬ 32 * (q : Int) < (N : Int) := by omega
      have hqe : (N + 31) / 32 = q := by omega
      have hNs : (N : Int) ≤ ((⟨(S q).toArray⟩ : ByteArray).size : Int) := by rw [bsz]; omega
      have hT := Tryz.Builder_String_any_k w.heap.size b (S q) wr kb HB.size
      replace hqe := Lib.hid hqe
      generalize hX : (⟨(S q).toArray⟩ : ByteArray) = X at hT hNs
      replace hX := Lib.hid hX
      go_wp2_with (first | (go_at_call 42; refine hL.mono ?_; rintro e w3 ⟨rfl, rfl⟩) | (go_at_call 44; refine hT.mono ?_; rintro e w4 ⟨rfl, _, hb4, _⟩))
      exact bodyPost_ret (v := .string (X.extract 0 N)) (by simp [results, Tryz.results33, go_sem]) rfl ⟨by rw [hqe.out, hX.out], HB.trans hb4⟩
end Go.Proofs.YthnackakgglhbaaGreat

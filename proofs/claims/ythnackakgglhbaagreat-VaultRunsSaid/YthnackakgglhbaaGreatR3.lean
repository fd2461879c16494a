/- Contract of sabretacheref16.Bytes; makes in a walk with named slots. -/
import Derived.Test.YthnackakgglhbaaGreatRs
namespace Go.Proofs.YthnackakgglhbaaGreat
open Go.RowKit
set_option maxRecDepth 100000
set_option linter.unusedSimpArgs false
set_option linter.unusedVariables false
attribute [local go_sem] evR_tmp evR_const evR_global evR_func shr24 shr16 shr8
section
variable {P : Program} {ops : Array Oper} {W : World} {K : List (Exp × Nat) → List (Nat × Value) → Prop} {R : Nat → Value} {o : Oper} {os : List Oper} {es : List Exp} {done : List (Exp × Nat)} {acc : List (Nat × Value)}
theorem LexR_makeN {l c : Operand} {t e : TypeId} {z cell : Value} {bytes s n : Nat} {L : Int} (ho : o.op = .makeSlice t l c) (hd : o.dst = some s) (hw : Region.wanted o (yieldR ops R) = true)
    (ht : P.underlying t = some (.slice e)) (hinfo : (P.info? e).map (fun i => (i.zero, i.size, i.bytes)) = some (some z, 1, bytes)) (hz : z.cells = #[cell]) (hbb : bytes ≤ 1000)
    (hl : evR R l = .int .i64 L) (hc : evR R c = .int .i64 L) (hL : L = (n : Int)) (hn : n ≤ 1000000)
    (h : ∀ g, R s = .slice (some ⟨g, 0, none⟩) n n → LexR P ops W K R os es ((.slc n (Array.replicate n cell) e, g) :: done) ((s, .slice (some ⟨g, 0, none⟩) n n) :: acc)) : LexR P ops W K R (o :: os) (.slc n (Array.replicate n cell) e :: es) done acc := by
  obtain ⟨i, hi, hz0, hz1, hz2⟩ := info_parts hinfo
  subst hL
  have hb : i.bytes * n ≤ 281474976710656 := by rw [hz2]; have := Nat.mul_le_mul hbb hn; omega
  have hb2 : (i.bytes : Int) * (n : Int) ≤ 281474976710656 := by
    have : ((i.bytes * n : Nat) : Int) ≤ 281474976710656 := by omega
    rwa [Int.natCast_mul] at this
  have run : ∀ w, (execOp (evR R) o).run P w = .ok (.value (.slice (some ⟨w.heap.size, 0, none⟩) n n)) (w.alloc (.cells (Array.replicate n cell) e)) := fun w => by
    have hr := run_make (P := P) w t e i z ht hi hz0 .i64 .i64 (n : Int) (n : Int) (by omega) (Int.le_refl _) hb2 (by omega)
    simp only [Int.toNat_natCast, hz1, Nat.mul_one, hz, madeCells_one] at hr
    unfold execOp
    simp only [ho, hl, hc, Sem.run_bind, hr, Result.andThen_ok]
    rfl
  refine ⟨fun w _ _ => by rw [if_pos hw, run w]; exact ⟨w.heap.size, rfl, blk_new _ _, fun _ => ⟨Nat.le_refl _, by simp [Exp.blk]⟩, (Below.refl _ _).alloc (Nat.le_refl _) _⟩, fun g hr => ?_⟩
  rw [hd]
  exact h g (hr s hd)
end
/-- Words as bytes, the first words. -/
def quad (x : W32) : List UInt8 := [byteOf (shrI x 24), byteOf (shrI x 16), byteOf (shrI x 8), byteOf x]
def refBytes (h : List W32) : List UInt8 := h.flatMap quad
theorem conv_byte (x : W32) : iw x % 256 = ((byteOf x).toNat : Int) := (byteN_eq x).symm
theorem quads_length : ∀ l : List W32, (l.flatMap quad).length = 4 * l.length
  | [] => rfl
  | x :: r => by rw [List.flatMap_cons, List.length_append, quads_length r]; simp [quad]; omega
attribute [local go_sem] IntKind.wrap_u8'
set_option maxHeartbeats 4000000 in
theorem rBytes_c (h : List W32) (hh : h.length = 8) (w : World) : Calls Tryz.prog 26 #[.agg (cw h)] w fun x w' => ∃ g cap cur, x = .returned (.slice (some ⟨g, 0, none⟩) 32 cap) ∧ cap < 18446744073709551616 ∧ w.heap.size ≤ g ∧ w'.heap[g]? = some (.cells cur 5 (0, 0)) ∧ cur.toList.take 32 = (refBytes h).map bv ∧ Below w.heap.size w w' := by
  have L8 := Lib.hid hh
  clear hh
  obtain ⟨i, hi, hz0, hz1, hz2⟩ := info_parts (P := Tryz.prog) (e := 5) (z := .int .u8 0) (size := 1) (bytes := 1) (by kernel_rfl)
  go_enter Tryz.func26, Tryz.ntmps26
  go_upto_region 2 with (fail)
  refine gen_world fun W hW => ?_
  have k1 : W.heap[w.heap.size]? = some (.cells (cw h) 54 (0, 0)) := by subst hW; (repeat (first | (with_reducible assumption) | ((with_reducible refine blk_new' ?_ _); (simp; done)) | ((with_reducible refine blk_alloc ?_ _)) | ((with_reducible refine blk_far ?_ ?_ _); (simp <;> omega))))
  have HB : Below w.heap.size w W := by subst hW; (repeat (first | exact Below.refl _ _ | (refine bl_alloc ?_ _) | (refine bl_drewN ?_ _) | (refine bl_drew ?_) | (refine bl_call (by assumption) ?_) | (refine bl_set _ _ (by simp <;> omega) ?_) | assumption))
  clear hW
  go_wp2_with fail
  have HB0 := HB
  have k10 := k1
  have hO0 : W.ownsRow W.heap.size 5 1 (.slice none 0 0) (4 * 0) (((h.take 0).flatMap quad).map bv) := World.ownsRow_nil _ _ _ _
  have q1 := blk_lt k1
  clear HB k1
  go_loopw [4, 3] (fun i sv wr => ∃ n : Nat, n ≤ 8 ∧ i = .int .i64 (n : Int) ∧ Below w.heap.size w wr ∧ W.heap.size ≤ wr.heap.size ∧ wr.heap[w.heap.size]? = some (.cells (cw h) 54 (0, 0)) ∧ wr.ownsRow W.heap.size 5 1 sv (4 * n) (((h.take n).flatMap quad).map bv)) (fun i _ _ => 8 - (intOf i).toNat)
  case atStart => exact ⟨0, by omega, rfl, HB0, Nat.le_refl _, k10, hO0⟩
  case round =>
    clear HB0 k10 hO0
    obtain ⟨n, hn, rfl, HB, hsz, k1, hO⟩ := hrel
    have pn : (0 : Int) ≤ (n : Int) := by omega
    by_cases hlt : n < 8
    · have hlt' : (n : Int) < 8 := by omega
      have c1 := blk_cell k1 n
      rw [cw_at _ _ (by rw [L8.out]; exact hlt)] at c1
      go_upto_region 5 with (fail)
      refine wp_region_R 21 [1, 3, 4] (by kernel_rfl) (by kernel_rfl) (by kernel_rfl) (by kernel_rfl) ?_
      intro K_ ops_ hops_ hK
      replace hops_ := Lib.hid hops_
      apply Exists.intro
      intro R_ hb_
      simp only [↓baseR, ↓nthR_succ, ↓nthR_zero] at hb_
      simp only [List.take_succ_cons, List.take_zero, List.drop_succ_cons, List.drop_zero]
      repeat (first
        
        | (apply LexR_bs (t := 36) (e := 5) (z := .int .u8 0) (ho := rfl) (by rfl) (by rfl) Tryz.underlying36 (by kernel_rfl) (by decide) (by decide) (fun _ => ?_) (fun _ => ?_) (fun _ => ?_) (fun _ hr_ => ?_); rotate_right 4; (go_simp; rfl); (exact ⟨rfl, rfl, rfl⟩); (simp only [List.map_cons, List.map_nil, List.flatMap_cons, List.flatMap_nil, Value.cells, List.cons_append, List.nil_append, List.append_nil]; rfl))
        
        | (apply LexR_det (by rfl) (by rfl) (by rfl) (fun w1 hw1 hd1 => ?_) (fun _ hr_ => ?_); rotate_right 2; (go_simp; first | done | rfl | (rw [grow_cell hw1 c1]; focus ((try simp); first | done | rfl))))
        | (apply LexR_box (by rfl) (by rfl) (by rfl) (fun w1 hw1 hd1 => ?_) (fun _ hr_ => ?_); rotate_right 2; (go_simp; first | done | rfl))
        | (apply LexR_bs (t := 76) (e := 80) (z := .agg #[.int .u32 0]) (ho := rfl) (by rfl) (by rfl) Tryz.underlying76 (by kernel_rfl) (by decide) (by decide) (fun _ => ?_) (fun _ => ?_) (fun _ => ?_) (fun _ hr_ => ?_); rotate_right 4; (go_simp; rfl); (exact ⟨rfl, rfl, rfl⟩); (simp only [List.map_cons, List.map_nil, List.flatMap_cons, List.flatMap_nil, Value.cells, List.cons_append, List.nil_append, List.append_nil]; rfl)))
      apply LexR_end
      refine hK _ _ ?_
      clear hK K_
      repeat clear hr_
      clear hb_ R_ hops_ ops_
      intro w1 hw1 hf1
      apply tailR (fun _ => ?_) (fun _ => ?_) ?_
      rotate_right 2
      · simp only [putAll, Act.put, List.setIfInBounds_toArray, List.set_cons_succ, List.set_cons_zero]; first | done | rfl
      · simp only [List.drop_succ_cons, List.drop_zero]; first | done | rfl
      simp [allFacts, contOf, Exp.putAt, Exp.fact, Exp.fresh, Exp.blk] at hf1
      obtain ⟨k29, l29⟩ := hf1
      obtain ⟨g29, e_⟩ := name_blk k29
      subst e_
      replace k29 : w1.heap[g29]? = some (.cells ((quad (at32 h n)).map bv).toArray 5 (0, 0)) := by
        rw [k29]
        simp only [conv_byte, quad, List.map_cons, List.map_nil, bv]
      have HQ : RowB w1 (.slice (some ⟨g29, 0, none⟩) 4 4) (quad (at32 h n)) := RowB.of (bs := quad (at32 h n)) (off := 0) fun k hk => by
        rw [Nat.zero_add, blk_cell k29 k]
        simp [hk]
      replace hO := ownsRow_block hO fun g hg => hw1.block g (ownsRow_lt hO hg).2
      replace HB := bl_call hw1 HB
      replace hsz : W.heap.size ≤ w1.heap.size := Nat.le_trans hsz hw1.size
      replace k1 := grow_blk hw1 k1
      clear hw1 l29 c1
      refine wpList_app_rowB rfl _ _ rfl W.heap.size u3 (.slice (some ⟨g29, 0, none⟩) 4 4) (4 * n) _ (quad (at32 h n)) rfl hO rfl HQ (by simp [quad]; omega) hsz ?_
      intro sv' w2 hO2 hg2 _
      replace k1 := grown_blk hg2 k1 (fun q => by have := (ownsRow_lt hO q).1; omega)
      replace HB := grown_below HB hg2 HB.size fun g hg' => by have := (ownsRow_lt hO hg').1; omega
      replace hsz : W.heap.size ≤ w2.heap.size := Nat.le_trans hsz hg2.size
      replace hO2 : w2.ownsRow W.heap.size 5 1 sv' (4 * (n + 1)) (((h.take (n + 1)).flatMap quad).map bv) := by
        rw [List.take_succ_eq_append_getElem (by rw [L8.out]; exact hlt), List.flatMap_append, List.map_append, show h[n]'(by rw [L8.out]; exact hlt) = at32 h n by simp [at32, L8.out, hlt]]
        rw [show (quad (at32 h n)).length = 4 from rfl] at hO2
        simpa [Nat.mul_add] using hO2
      clear hg2 hO HQ k29
      go_wp2_with fail
      go_roundw
      case measure => simp [intOf] <;> omega
      exact ⟨n + 1, by omega, congrArg (Value.int .i64) (by omega), HB, hsz, k1, hO2⟩
    · obtain rfl : n = 8 := by omega
      have hlt' : ¬ ((8 : Nat) : Int) < 8 := by omega
      rw [List.take_of_length_le (by rw [L8.out]; omega)] at hO
      go_wp2
      rcases hO.2 with ⟨_, q⟩ | ⟨g, cap, cur, rfl, hg, hk, _, hm, _, ht⟩
      · omega
      · refine bodyPost_ret (v := .slice (some ⟨g, 0, none⟩) 32 cap) (by simp [results, Tryz.results26, go_sem]) rfl ?_
        refine ⟨g, cap, rfl, by simp only [maxLen] at hm; omega, by omega, cur, hk, ?_, HB⟩
        unfold refBytes
        simpa using ht
end Go.Proofs.YthnackakgglhbaaGreat

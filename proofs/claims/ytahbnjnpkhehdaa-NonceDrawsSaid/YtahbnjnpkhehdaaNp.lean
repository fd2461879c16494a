/- Draws from a seed: contracts of nonce.Source's parts. -/
import Derived.Test.YtahbnjnpkhehdaaL17b
namespace Go.Proofs.Ytahbnjnpkhehdaa
open Go.RowKit Go.Lib
set_option maxRecDepth 100000
set_option linter.unusedSimpArgs false
set_option linter.unusedVariables false
attribute [local go_sem] evR_tmp evR_const evR_global evR_func
/-- A number's eight bytes, the greatest first. -/
def be8 (c : Nat) : List UInt8 := (List.range 8).map fun i => UInt8.ofNat (c / 256 ^ (7 - i))
def digN (seed : List UInt8) (c : Nat) : List UInt8 := refBytes (macw seed (be8 c))
def drawN (seed : List UInt8) (c k : Nat) : List UInt8 := (List.range k).flatMap fun j => digN seed (c + j)
/-- How many draws n bytes are. -/
def drawsOf (n : Nat) : Nat := (n + 31) / 32
theorem be8_length (c : Nat) : (be8 c).length = 8 := by simp [be8]
theorem digN_length (seed : List UInt8) (c : Nat) : (digN seed c).length = 32 := refBytes_length _ (refSum_length _)
theorem drawN_length (seed : List UInt8) (c k : Nat) : (drawN seed c k).length = 32 * k := by
  induction k with
  | zero => rfl
  | succ k ih =>
    unfold drawN at ih ⊢
    rw [List.range_succ, List.flatMap_append, List.length_append, ih]
    simp only [List.flatMap_cons, List.flatMap_nil, List.append_nil, digN_length]
    omega
theorem drawN_snoc (seed : List UInt8) (c k : Nat) : drawN seed c (k + 1) = drawN seed c k ++ digN seed (c + k) := by
  unfold drawN
  rw [List.range_succ, List.flatMap_append]; simp
/-- The bytes' cells, the first i of them. -/
def be8c (c i : Nat) : Array Value := bc (padZ 8 ((be8 c).take i))
/-- Only block g is another one. -/
abbrev Turned (g : Nat) (w w' : World) : Prop := Apart (fun b => b = g) w w'
theorem be8_at (c n : Nat) (h : n < 8) : (c : Int) / 2 ^ (8 * (7 - n)) % 256 = (((be8 c).getD n 0).toNat : Int) := by
  rw [show ((be8 c).getD n 0) = UInt8.ofNat (c / 256 ^ (7 - n)) by simp [be8, List.getD_eq_getElem?_getD, h]]
  rw [UInt8.toNat_ofNat', show (256 : Nat) ^ (7 - n) = 2 ^ (8 * (7 - n)) by rw [show (256 : Nat) = 2 ^ 8 from rfl, ← Nat.pow_mul]]
  norm_cast
theorem RowB.turned {g : Nat} {w W : World} {g' n cap : Nat} {bs : List UInt8} (h : RowB w (.slice (some ⟨g', 0, none⟩) n cap) bs) (ht : Turned g w W) (hn : g' ≠ g) : RowB W (.slice (some ⟨g', 0, none⟩) n cap) bs := by
  obtain ⟨ao, cap', h1, h2, h3⟩ := h
  refine ⟨ao, cap', h1, h2, fun k hk => ?_⟩
  obtain ⟨g2, off, e, q⟩ := h3 k hk
  cases h1
  cases e
  refine ⟨_, _, rfl, ?_⟩
  rw [← q]
  exact cell_of_block (ht.block _ (cell_lt' q) hn)
theorem Apart.after {F : Nat → Prop} {w W W1 : World} (h : Apart F W W1) (hb : Below w.heap.size w W) : Apart F w W1 :=
  ⟨h.os.trans hb.os, h.tape.trans hb.tape, h.output.trans hb.output, Nat.le_trans hb.size h.size, fun b q hn => (h.block b (Nat.lt_of_lt_of_le q hb.size) hn).trans (hb.block b q)⟩
theorem Apart.then {F : Nat → Prop} {w W W1 : World} (h : Apart F w W) (hb : Below W.heap.size W W1) : Apart F w W1 :=
  ⟨hb.os.trans h.os, hb.tape.trans h.tape, hb.output.trans h.output, Nat.le_trans h.size hb.size, fun b q hn => (hb.block b (Nat.lt_of_lt_of_le q h.size)).trans (h.block b q hn)⟩
theorem turned_set (w : World) (p : Addr) (v : Value) : Turned p.block w (w.setCell p v) := ⟨rfl, rfl, rfl, by simp [World.setCell], fun b _ hn => Below.heap_setCell w p v b hn⟩
/-- The source's block. -/
def srcC (seed : ByteArray) (c : Nat) : Array Value := #[.string seed, .int .u64 (c : Int)]
set_option maxHeartbeats 4000000 in
theorem nNext_c (g : Nat) (seed : ByteArray) (hs : seed.size ≤ 400000) (c : Nat) (hc : c < 1000000000) (w : World) (hk : w.heap[g]? = some (.cells (srcC seed c) 46 (0, 0))) : Calls Try.prog 18 #[.pointer (some ⟨g, 0, none⟩)] w fun e w' => e = .returned (.string ⟨(digN seed.data.toList c).toArray⟩) ∧ w'.heap[g]? = some (.cells (srcC seed (c + 1)) 46 (0, 0)) ∧ Turned g w w' := by
  have hg := blk_lt hk
  have hP := fun (t : ByteArray) (ht : t.size ≤ 500000) (w : World) => hPlain_c seed t (by omega) ht w
  have L8 := Lib.hid (be8_length c)
  go_enter Try.func18, Try.ntmps18
  go_upto_region 2 with (fail)
  refine gen_world fun W hW => ?_
  have k7 : W.heap[w.heap.size]? = some (.cells (bc (padZ 8 ((be8 c).take 0))) 54 (0, 0)) := by subst hW; exact blk_new _ _
  have HB : Below w.heap.size w W := by subst hW; (repeat (first | exact Below.refl _ _ | (refine bl_alloc ?_ _) | (refine bl_drewN ?_ _) | (refine bl_drew ?_) | (refine bl_call (by assumption) ?_) | (refine bl_set _ _ (by simp <;> omega) ?_) | assumption))
  clear hW
  go_wp2_with fail
  have HB0 := HB
  have k70 := k7
  clear HB k7
  go_loopw [5] (fun i wr => ∃ n : Nat, n ≤ 8 ∧ i = .int .i64 (n : Int) ∧ Below w.heap.size w wr ∧ wr.heap[w.heap.size]? = some (.cells (bc (padZ 8 ((be8 c).take n))) 54 (0, 0))) (fun i _ => 8 - (intOf i).toNat)
  case atStart => exact ⟨0, by omega, rfl, HB0, k70⟩
  case round =>
    clear HB0 k70
    obtain ⟨n, hn2, rfl, HB, k7⟩ := hrel
    have pn : (0 : Int) ≤ (n : Int) := by omega
    have kg := grow_blk HB hk
    by_cases hlt : n < 8
    · have hlt' : (n : Int) < 8 := by omega
      have hsh : IntKind.i64.wrap (8 * IntKind.i64.wrap (7 - (n : Int))) = ((8 * (7 - n) : Nat) : Int) := by rw [IntWalk.i64_in (7 - (n : Int)) (by omega), IntWalk.i64_in _ (by omega)]; omega
      have cg : wr.cell? ⟨g, 1, none⟩ = some (.int .u64 (c : Int)) := blk_cell kg 1
      have c7 := blk_cell k7 n
      rw [bc_at _ _ (by rw [padZ_length _ _ (by simp; omega)]; exact hlt)] at c7
      generalize (padZ 8 ((be8 c).take n))[n]'(by rw [padZ_length _ _ (by simp; omega)]; exact hlt) = old at c7
      have f7 := blk_frozen k7 n
      have hs := padZ_set 8 (be8 c) L8.out n hlt
      replace hs := Lib.hid hs
      have hx := be8_at c n hlt
      generalize (be8 c).getD n 0 = y at hx hs
      go_upto_region 6 with (fail)
      rw [hx]
      refine gen_world fun W2 hW => ?_
      replace HB : Below w.heap.size w W2 := by subst hW; exact bl_set _ _ (by simp) HB
      replace k7 : W2.heap[w.heap.size]? = some (.cells (bc (padZ 8 ((be8 c).take (n + 1)))) 54 (0, 0)) := by
        subst hW
        rw [← hs.out, ← bc_set]
        exact blk_set k7 n _
      clear hW c7 f7 hx cg kg
      go_wp2_with fail
      go_roundw
      case measure => simp [intOf] <;> omega
      exact ⟨n + 1, by omega, congrArg (Value.int .i64) (by omega), HB, k7⟩
    · obtain rfl : n = 8 := by omega
      have hlt' : ¬ ((8 : Nat) : Int) < 8 := by omega
      rw [List.take_of_length_le (by rw [L8.out]; omega), show padZ 8 (be8 c) = be8 c by simp [padZ, L8.out]] at k7
      have cg : wr.cell? ⟨g, 1, none⟩ = some (.int .u64 (c : Int)) := blk_cell kg 1
      have fg := blk_frozen kg 1
      have hR : RowB wr (.slice (some ⟨w.heap.size, 0, none⟩) 8 8) (be8 c) := by
        have := RowB.of (w := wr) (g := w.heap.size) (off := 0) (cap := 8) (bs := be8 c) (fun k h => by rw [Nat.zero_add, blk_cell k7 k, bc_at _ _ h])
        rwa [L8.out] at this
      have hwp : IntKind.u64.wrap ((c : Int) + 1) = (c : Int) + 1 := by rw [IntWalk.u64_in _ (by omega)]
      go_upto_region 8 with (fail)
      refine gen_world fun W hW => ?_
      have kW : W.heap[g]? = some (.cells (srcC seed (c + 1)) 46 (0, 0)) := by
        subst hW
        have := blk_set kg 1 (.int .u64 ((c : Int) + 1))
        simpa [srcC] using this
      have hT : Turned g wr W := by subst hW; exact turned_set wr ⟨g, 1, none⟩ _
      replace hR := hR.turned hT (by omega)
      have cs : W.cell? ⟨g, 0, none⟩ = some (.string seed) := blk_cell kW 0
      have hT0 : Turned g w W := hT.after HB
      clear hW cg fg kg k7
      have hQ := hP ⟨(be8 c).toArray⟩ (by simp [ByteArray.size, L8.out])
      obtain ⟨b8, hb8⟩ : ∃ b, b = be8 c := ⟨_, rfl⟩
      rw [← hb8] at hR hQ
      replace hb8 := Lib.hid hb8
      refine wp_region_R 8 [0, 3] (by kernel_rfl) (by kernel_rfl) (by kernel_rfl) (by kernel_rfl) ?_
      intro K_ ops_ hops_ hK
      replace hops_ := Lib.hid hops_
      apply Exists.intro
      intro R_ hb_
      simp only [↓baseR, ↓nthR_succ, ↓nthR_zero] at hb_
      simp only [List.take_succ_cons, List.take_zero, List.drop_succ_cons, List.drop_zero]
      repeat (first
        
        | (apply LexR_det (by rfl) (by rfl) (by rfl) (fun w1 hw1 hd1 => ?_) (fun _ hr_ => ?_); rotate_right 2; (refine run_conv_rowBR rfl ?_ (RowB.grow hR hw1); (focus (go_simp; done))))
        | (apply LexR_callF (f := 23) (by rfl) (by rfl) (by rfl) Try.func23 (by kernel_rfl) (by kernel_rfl) (fun _ => ?_) (fun w1 hw1 hd1 => ?_) (fun _ hr_ => ?_); rotate_right 3; (go_simp; first | done | rfl); exact (hQ w1))
        | (apply LexR_det (by rfl) (by rfl) (by rfl) (fun w1 hw1 hd1 => ?_) (fun _ hr_ => ?_); rotate_right 2; (go_simp; first | done | rfl | (rw [grow_cell hw1 cs]; focus ((try simp); first | done | rfl))))
        | (apply LexR_box (by rfl) (by rfl) (by rfl) (fun w1 hw1 hd1 => ?_) (fun _ hr_ => ?_); rotate_right 2; (go_simp; first | done | rfl))
        | (apply LexR_bs (t := 59) (e := 63) (z := .agg #[.int .u32 0]) (ho := rfl) (by rfl) (by rfl) Try.underlying59 (by kernel_rfl) (by decide) (by decide) (fun _ => ?_) (fun _ => ?_) (fun _ => ?_) (fun _ hr_ => ?_); rotate_right 4; (go_simp; rfl); (exact ⟨rfl, rfl, rfl⟩); (simp only [List.map_cons, List.map_nil, List.flatMap_cons, List.flatMap_nil, Value.cells, List.cons_append, List.nil_append, List.append_nil]; rfl)))
      apply LexR_end
      refine hK _ _ ?_
      clear hK K_
      repeat clear hr_
      clear hb_ R_ hops_ ops_
      intro w1 hw1 hf1
      apply tailR (fun _ => ?_) (fun _ => ?_) ?_
      rotate_right 2
      · simp only [putAll, Act.put, List.setIfInBounds_toArray, List.set_cons_succ, List.set_cons_zero]; first | done | rfl
      · simp only [List.drop_succ_cons, List.drop_zero]; first | done | rfl
      simp [allFacts, contOf, Exp.putAt, Exp.fact, Exp.fresh, Exp.blk] at hf1
      clear hf1
      have kE := grow_blk hw1 kW
      replace hT0 := hT0.then hw1
      go_wp2
      exact bodyPost_ret (v := .string (macText seed ⟨b8.toArray⟩)) (by simp [results, Try.results18, go_sem]) rfl ⟨by simp [macText, digN, hb8.out], kE, hT0⟩
end Go.Proofs.Ytahbnjnpkhehdaa

/- A range over a map of one entry; maps.DeleteFunc at such a map; the gate's Tick. -/
import Derived.Test.YtlldnejodchkdabQc
namespace Go.Proofs.Ytlldnejodchkdab
open Go.RowKit
set_option maxRecDepth 100000
set_option linter.unusedSimpArgs false
set_option linter.unusedVariables false
def setO (w : World) (r : Nat) (o : Obj) : World := { w with heap := w.heap.setIfInBounds r o }
theorem setO_at {w : World} {r : Nat} {o : Obj} (hb : w.heap[r]? = some o) (o' : Obj) : (setO w r o').heap[r]? = some o' := (MapKept.heap_set hb).1
theorem setO_far {w : World} {r g : Nat} {o o' : Obj} (hg : w.heap[g]? = some o') (h : g ≠ r) : (setO w r o).heap[g]? = some o' := by
  have : (setO w r o).heap = w.heap.setIfInBounds r o := rfl
  rw [this, Array.getElem?_setIfInBounds_ne (Ne.symm h)]
  exact hg
theorem setO_below {B : Nat} {w0 w : World} {r : Nat} {o : Obj} (hB : B ≤ r) (h : Below B w0 w) : Below B w0 (setO w r o) := by
  refine ⟨h.os, h.tape, h.output, ?_, fun b hb => ?_⟩
  · have : (setO w r o).heap.size = w.heap.size := by simp [setO]
    rw [this]; exact h.size
  · have : (setO w r o).heap = w.heap.setIfInBounds r o := rfl
    rw [this, Array.getElem?_setIfInBounds_ne (by omega)]
    exact h.block b hb
theorem setO_size {w : World} {r : Nat} {o : Obj} : (setO w r o).heap.size = w.heap.size := by simp [setO]
section
variable {P : Program} {w : World} {M r : Nat} {e : MapEntry}
theorem next_one (ty : TypeId) (hr : w.heap[r]? = some (.mapIter (some M) 1 #[] 1)) (hm : w.heap[M]? = some (.map #[e] 1)) (he : e.born = 0) :
    (Instr.next (.pointer (some ⟨r, 0, none⟩)) false ty).run P w = .ok (.tuple #[.bool true, e.key, e.val]) (setO w r (.mapIter (some M) 1 #[0] 1)) := by
  simp [Instr.next, getObj, Sem.run, hr, hm, he, Result.andThen, choose, setObj, setO, Question.forced]
theorem next_over (ty : TypeId) (hr : w.heap[r]? = some (.mapIter (some M) 1 #[0] 1)) (hm : w.heap[M]? = some (.map #[e] 1)) (he : e.born = 0) :
    (Instr.next (.pointer (some ⟨r, 0, none⟩)) false ty).run P w = .ok (.tuple #[.bool false]) w := by
  simp [Instr.next, getObj, Sem.run, hr, hm, he, Result.andThen, choose, Question.forced]
theorem entry_one (hr : w.heap[r]? = some (.mapIter (some M) 1 #[0] 1)) (hm : w.heap[M]? = some (.map #[e] 1)) (he : e.born = 0) :
    (Instr.entry (.pointer (some ⟨r, 0, none⟩))).run P w = .ok (.tuple #[e.key, e.val]) w := by
  simp [Instr.entry, getObj, Sem.run, hr, hm, he, Result.andThen]
end
set_option maxHeartbeats 1000000 in
theorem tick1_c (w : World) (C g M : Nat) (fr lo nm nw : Int) (es : Array MapEntry) (ck : Nat) (s : ByteArray) (k f : Int) (h : GS w g M fr lo nm nw es ck) (hC : w.heap[C]? = some (.cells #[.pointer (some ⟨g, 0, none⟩)] 26 (0, 0))) (hf : 0 ≤ f ∧ f ≤ 2199023255552) (hlo : 0 ≤ lo ∧ lo ≤ 1048576) : Calls Try.prog 27 #[.string s, .agg #[.int .i64 k, .int .i64 f], .pointer (some ⟨C, 0, none⟩)] w fun e w' => e = .returned (.bool (decide (f + lo ≤ nw))) ∧ Below w.heap.size w w' := by
  have hz : IntKind.i64.wrap (f + lo) = f + lo := IntWalk.i64_in _ (by omega)
  generalize hb : decide (f + lo ≤ nw) = b
  go_enter Try.func27, Try.ntmps27
  go_upto_region 1 with fail
  refine gen_world fun W hW => ?_
  have kb : W.heap[w.heap.size]? = some (.cells #[.int .i64 k, .int .i64 f] 51 (0, 0)) := by subst hW; exact blk_new _ _
  have hA : Below w.heap.size w W := by subst hW; exact (Below.refl _ _).alloc (Nat.le_refl _) _
  clear hW
  have hDr : Below W.heap.size W W.drew := bl_drew (Below.refl _ _)
  have HG := (h.grow hA).grow hDr
  have c1 := blk_cell HG.gate 1
  have c3 := blk_cell HG.gate 3
  have d0 := blk_cell (grow_blk hDr (grow_blk hA hC)) 0
  have m1 := blk_cell (grow_blk hDr kb) 1
  clear h hC HG kb
  go_region
  go_wp2_with fail
  exact bodyPost_ret (v := .bool b) (by simp [results, Try.results27, go_sem]; try exact hb) rfl ⟨rfl, bl_drew hA⟩
set_option maxHeartbeats 2000000 in
theorem DeleteFunc_c (w : World) (M : Nat) (s : ByteArray) (k f : Int) (fv : Value) (C : Nat) (hm : w.heap[M]? = some (.map #[mk1 s k f 0] 1)) (hfv : fv = .func (.func 27) #[] #[.pointer (some ⟨C, 0, none⟩)])
    (hdel : ∀ W, Below w.heap.size w W → Calls Try.prog 27 #[.string s, .agg #[.int .i64 k, .int .i64 f], .pointer (some ⟨C, 0, none⟩)] W fun e w' => e = .returned (.bool false) ∧ Below W.heap.size W w') :
    Calls Try.prog 26 #[.map (some M), fv] w fun e w' => e = .returned (.tuple #[]) ∧ Below w.heap.size w w' := by
  subst hfv
  replace hdel := Lib.hid hdel
  have hrg : (Instr.range 47 (.map (some M))).run Try.prog w = .ok (.pointer (some ⟨w.heap.size, 0, none⟩)) (w.alloc (.mapIter (some M) 1 #[] 1)) := run_range_map w _ _ _ M _ 1 Try.underlying47 hm
  go_enter Try.func26, Try.ntmps26
  go_wp2_with fail
  refine gen_world fun W1 hW1 => ?_
  have kR1 : W1.heap[w.heap.size]? = some (.mapIter (some M) 1 #[] 1) := by subst hW1; exact blk_new _ _
  have kM1 : W1.heap[M]? = some (.map #[mk1 s k f 0] 1) := by subst hW1; exact blk_alloc hm _
  have hA1 : Below w.heap.size w W1 := by subst hW1; exact (Below.refl _ _).alloc (Nat.le_refl _) _
  have hMR : M ≠ w.heap.size := by have := blk_lt hm; omega
  obtain ⟨R, hR⟩ : ∃ R, R = w.heap.size := ⟨_, rfl⟩
  have hRw : w.heap.size ≤ R := by omega
  rw [← hR] at kR1 hMR ⊢
  clear hW1 hrg hR
  have n1 : ∀ ty, (Instr.next (.pointer (some ⟨R, 0, none⟩)) false ty).run Try.prog W1 = .ok (.tuple #[.bool true, .string s, .agg #[.int .i64 k, .int .i64 f]]) (setO W1 R (.mapIter (some M) 1 #[0] 1)) := fun ty => next_one ty kR1 kM1 rfl
  have kR2 := setO_at kR1 (.mapIter (some M) 1 #[0] 1)
  have kM2 := setO_far (o := .mapIter (some M) 1 #[0] 1) kM1 hMR
  have en : (Instr.entry (.pointer (some ⟨R, 0, none⟩))).run Try.prog (setO W1 R (.mapIter (some M) 1 #[0] 1)) = .ok (.tuple #[.string s, .agg #[.int .i64 k, .int .i64 f]]) (setO W1 R (.mapIter (some M) 1 #[0] 1)) := entry_one kR2 kM2 rfl
  have hA2 := setO_below (o := .mapIter (some M) 1 #[0] 1) hRw hA1
  generalize setO W1 R (.mapIter (some M) 1 #[0] 1) = W2 at n1 en kR2 kM2 hA2
  clear kR1 kM1 hA1
  refine wp_loop_rounds 3 ?_
  rw [rounds_succ]
  go_wp2_with (go_at_call 27; refine (hdel.out _ (bl_alloc hA2 _)).mono ?_; rintro e w5 ⟨rfl, hb5⟩; have n2 : ∀ ty, (Instr.next (.pointer (some ⟨R, 0, none⟩)) false ty).run Try.prog w5 = .ok (.tuple #[.bool false]) w5 := fun ty => next_over ty (grow_blk hb5 (blk_alloc kR2 _)) (grow_blk hb5 (blk_alloc kM2 _)) rfl)
  rw [rounds_succ]
  go_wp2_with fail
  go_end0
  exact ⟨rfl, bl_call hb5 (bl_alloc hA2 _)⟩
set_option maxHeartbeats 4000000 in
theorem Tick_c (B : Nat) (w : World) (g M : Nat) (fr lo nm nw : Int) (s : ByteArray) (k f : Int) (hB : B ≤ g ∧ B ≤ M ∧ B ≤ w.heap.size) (h : GS w g M fr lo nm nw #[mk1 s k f 0] 1) (hf : 0 ≤ f ∧ f ≤ 2199023255552) (hlo : 0 ≤ lo ∧ lo ≤ 1048576) (h0 : 0 ≤ nw ∧ nw < 1099511627776) (hst : ¬ f + lo ≤ nw + 1) :
    Calls Try.prog 13 #[.pointer (some ⟨g, 0, none⟩), .int .i64 1] w fun e w' => e = .returned (.int .i64 (nw + 1)) ∧ GS w' g M fr lo nm (nw + 1) #[mk1 s k f 0] 1 ∧ Below B w w' := by
  have hBr : ∀ w, Calls Try.prog 23 #[.int .i64 1, .int .i64 0, .int .i64 1073741824] w fun e w' => e = .returned (.int .i64 1) ∧ Below w.heap.size w w' := fun w => by
    refine (brought_c 1 0 1073741824 w).mono ?_
    rintro e w' ⟨rfl, rfl⟩
    exact ⟨rfl, Below.refl _ _⟩
  have hT := fun (W : World) (C : Nat) (HG : GS W g M fr lo nm (nw + 1) #[mk1 s k f 0] 1) (hC : W.heap[C]? = some (.cells #[.pointer (some ⟨g, 0, none⟩)] 26 (0, 0))) => tick1_c W C g M fr lo nm (nw + 1) #[mk1 s k f 0] 1 s k f HG hC hf hlo
  rw [decide_eq_false hst] at hT
  have hDF := fun (W : World) (C : Nat) (HG : GS W g M fr lo nm (nw + 1) #[mk1 s k f 0] 1) (hC : W.heap[C]? = some (.cells #[.pointer (some ⟨g, 0, none⟩)] 26 (0, 0))) => DeleteFunc_c W M s k f _ C HG.marks rfl (fun W' hW' => hT W' C (HG.grow hW') (grow_blk hW' hC))
  have hmin : ¬ 1099511627776 < nw + 1 := by omega
  have hwr : IntKind.i64.wrap (nw + 1) = nw + 1 := IntWalk.i64_in _ (by omega)
  replace hDF := Lib.hid hDF
  clear hT
  go_enter Try.func13, Try.ntmps13
  go_upto_region 1 with fail
  refine gen_world fun W hW => ?_
  have kC : W.heap[w.heap.size]? = some (.cells #[.pointer (some ⟨g, 0, none⟩)] 26 (0, 0)) := by subst hW; exact blk_new _ _
  have hA : Below w.heap.size w W := by subst hW; exact (Below.refl _ _).alloc (Nat.le_refl _) _
  have HG := h.grow hA
  have gC : g ≠ w.heap.size := by have := blk_lt h.gate; omega
  clear hW
  have d0 := blk_cell kC 0
  go_upto_region 3 with fail
  have c3 := blk_cell HG.gate 3
  refine wp_region_grow (fun w' => Below W.heap.size W w') 11 (by kernel_rfl) (by kernel_rfl) ⟨rfl, rfl, rfl, Nat.le_refl _, fun _ _ => rfl⟩ ?_
  simp only [List.take_succ_cons, List.take_zero, List.drop_succ_cons, List.drop_zero]
  repeat (first | go_big_quiet_skip | (go_big_quiet_want; go_big_quiet_op; first | go_big_quiet_on | (apply Exists.intro; refine ⟨fun w1 hw1 => ?_, ?_⟩; (first | exact rfl | (simp only [grow_cell hw1 c3, Result.andThen_ok]; exact ⟨trivial, rfl⟩) | (simp only [grow_cell hw1 d0, Result.andThen_ok]; exact ⟨trivial, rfl⟩) | (go_at_call 23; refine Calls_grow hw1 (hBr w1))); go_big_quiet_on)))
  refine wpQuiet_nil ?_
  intro w1 hw1
  replace HG := HG.grow hw1
  replace kC := grow_blk hw1 kC
  replace hA := bl_call hw1 hA
  clear hw1 c3 d0
  have c3 := blk_cell HG.gate 3
  have f3 := blk_frozen HG.gate 3
  go_upto_region 4 with fail
  refine gen_world fun W hW => ?_
  have HG2 : GS W g M fr lo nm (nw + 1) #[mk1 s k f 0] 1 := by
    subst hW
    exact ⟨blk_set HG.gate 3 _, blk_far HG.marks (Ne.symm HG.ne) _⟩
  replace kC : W.heap[w.heap.size]? = some (.cells #[.pointer (some ⟨g, 0, none⟩)] 26 (0, 0)) := by subst hW; exact blk_far kC (Ne.symm gC) _
  have hA2 : Below B w W := by
    subst hW
    exact (hA.mono hB.2.2).setCell (p := ⟨g, 3, none⟩) hB.1 _
  clear hW HG hA c3 f3
  have d0 := blk_cell kC 0
  have c4 := blk_cell HG2.gate 4
  go_wp2_with (go_at_call 26; refine (hDF.out _ _ HG2 kC).mono ?_; rintro e w5 ⟨rfl, hb5⟩; have HG5 := HG2.grow hb5; have d5 := blk_cell (grow_blk hb5 kC) 0; have c5 := blk_cell HG5.gate 3)
  exact bodyPost_ret (v := .int .i64 (nw + 1)) (by simp [results, Try.results13, go_sem]) rfl ⟨rfl, HG5, hA2.trans (hb5.mono (Nat.le_trans hB.2.2 hA2.size))⟩
end Go.Proofs.Ytlldnejodchkdab

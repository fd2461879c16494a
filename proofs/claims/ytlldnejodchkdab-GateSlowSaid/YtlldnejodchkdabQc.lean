/- Contracts of gate's New, room, Fail. -/
import Derived.Test.YtlldnejodchkdabQb
import Derived.BigQuiet
namespace Go.Proofs.Ytlldnejodchkdab
open Go.RowKit
set_option maxRecDepth 100000
set_option linter.unusedSimpArgs false
set_option linter.unusedVariables false
theorem dly_bounds (n f l : Int) : 0 ≤ dly n f l ∧ dly n f l ≤ 1048576 := by
  unfold dly
  split
  · omega
  · have h := pw_bounds (le_cl l 1 1048576 (by decide)) (min (n - cl f 0 1000 - 1) 30).toNat
    have h2 := cl_le l 1 1048576
    omega
set_option maxHeartbeats 1000000 in
theorem New_c (fr lo nm : Int) (w : World) : Calls Try.prog 9 #[.int .i64 fr, .int .i64 lo, .int .i64 nm] w fun e w' => (∃ g M, e = .returned (.pointer (some ⟨g, 0, none⟩)) ∧ w.heap.size ≤ g ∧ w.heap.size ≤ M ∧ GS w' g M (cl fr 0 1000) (cl lo 1 1048576) (cl nm 1 1000) 0 #[] 0) ∧ Below w.heap.size w w' := by
  have b1 := fun w => brought_c fr 0 1000 w
  have b2 := fun w => brought_c lo 1 1048576 w
  have b3 := fun w => brought_c nm 1 1000 w
  generalize cl fr 0 1000 = F at b1 ⊢
  generalize cl lo 1 1048576 = L at b2 ⊢
  generalize cl nm 1 1000 = N at b3 ⊢
  replace b1 := Lib.hid b1
  replace b2 := Lib.hid b2
  replace b3 := Lib.hid b3
  have hmk : ∀ W : World, (Instr.makeMap 47 none).run Try.prog W = .ok (.map (some W.heap.size)) (W.alloc (.map #[] 0)) := fun W => by simp [Instr.makeMap, Result.andThen]
  go_enter Try.func9, Try.ntmps9
  go_wp2_with (first | (go_at_call 23; first | ((with_reducible refine (b1.out _).mono ?_); rintro e w3 ⟨rfl, rfl⟩) | ((with_reducible refine (b2.out _).mono ?_); rintro e w3 ⟨rfl, rfl⟩) | ((with_reducible refine (b3.out _).mono ?_); rintro e w3 ⟨rfl, rfl⟩)))
  refine bodyPost_ret (v := .pointer (some ⟨w3.heap.size + 1, 0, none⟩)) (by simp [results, Try.results9, go_sem]) rfl ⟨⟨w3.heap.size + 1, w3.heap.size, rfl, by omega, by omega, ?_, ?_⟩, bl_alloc ((Below.refl _ _).alloc (Nat.le_refl _) _) _⟩
  · exact blk_new' (by simp) _
  · exact blk_alloc (blk_new _ _) _
theorem len_m {w : World} {M ck : Nat} {es : Array MapEntry} (h : w.heap[M]? = some (.map es ck)) : (Builtin.len_ #[47] 3 #[.map (some M)]).run Try.prog w = .ok (.int .i64 (es.size : Int)) w := by
  simp [Builtin.len_, run_underlying Try.underlying47, MapKept.run_getObj_map h, Result.andThen, goInt]
theorem room_c (w : World) (g M : Nat) (fr lo nm nw : Int) (es : Array MapEntry) (ck : Nat) (h : GS w g M fr lo nm nw es ck) (hr : (es.size : Int) < nm) : Calls Try.prog 25 #[.pointer (some ⟨g, 0, none⟩)] w fun e w' => e = .returned (.tuple #[]) ∧ Below w.heap.size w w' := by
  have h2 := h.grow (bl_drew (Below.refl _ _) : Below w.heap.size w w.drew)
  have c2 := blk_cell h2.gate 2
  have c4 := blk_cell h2.gate 4
  have hm := len_m h2.marks
  clear h h2
  go_enter Try.func25, Try.ntmps25
  go_upto_region 0 with fail
  go_region
  go_wp2_with fail
  exact bodyPost_ret (v := .tuple #[]) (by simp [results, Try.results25, go_sem]) rfl ⟨rfl, bl_drew (Below.refl _ _)⟩
set_option maxHeartbeats 4000000 in
theorem Fail_c (B : Nat) (w : World) (g M : Nat) (fr lo nm nw : Int) (es es' : Array MapEntry) (ck ck' : Nat) (s : ByteArray) (k f : Int) (th : Bool) (hB : B ≤ g ∧ B ≤ M ∧ B ≤ w.heap.size) (h : GS w g M fr lo nm nw es ck)
    (hl : ∀ W : World, W.heap[M]? = some (.map es ck) → (Instr.lookup 47 (.map (some M)) (.string s) true).run Try.prog W = .ok (.tuple #[.agg #[.int .i64 k, .int .i64 f], .bool th]) W)
    (hs : ∀ W : World, W.heap[M]? = some (.map es ck) → MarkOf W M s k f)
    (hu : ∀ W : World, W.heap[M]? = some (.map es ck) → (Instr.mapUpdate 47 (.map (some M)) (.string s) (.agg #[.int .i64 (k + 1), .int .i64 (nw + dly (k + 1) fr lo)])).run Try.prog W = .ok () (setM W M es' ck'))
    (hs' : ∀ W : World, W.heap[M]? = some (.map es' ck') → MarkOf W M s (k + 1) (nw + dly (k + 1) fr lo))
    (hr : th = true ∨ (es.size : Int) < nm) (hk : 0 ≤ k ∧ k ≤ 1000) (hm : f ≤ nw) (h0 : 0 ≤ nw ∧ nw ≤ 1099511627776) (hf : 0 ≤ f ∧ f ≤ 2199023255552) :
    Calls Try.prog 11 #[.pointer (some ⟨g, 0, none⟩), .string s] w fun e w' => e = .returned (.int .i64 (dly (k + 1) fr lo)) ∧ GS w' g M fr lo nm nw es' ck' ∧ Below B w w' := by
  have hD := fun w => Delay_c (k + 1) fr lo (by omega) w
  have hb := dly_bounds (k + 1) fr lo
  generalize dly (k + 1) fr lo = d at hD hb hu hs' ⊢
  have hDg : ∀ w, Calls Try.prog 7 #[.int .i64 (k + 1), .int .i64 fr, .int .i64 lo] w fun e w' => e = .returned (.int .i64 d) ∧ Below w.heap.size w w' := fun w => (hD w).mono fun e w' ⟨h1, h2⟩ => ⟨h1, h2 ▸ Below.refl _ _⟩
  have hMay : ∀ W, Below w.heap.size w W → Calls Try.prog 10 #[.pointer (some ⟨g, 0, none⟩), .string s] W fun e w' => e = .returned (.bool true) ∧ Below W.heap.size W w' := fun W hW => by
    have h2 := h.grow hW
    have := May_c W g M fr lo nm nw es ck s k f h2 (hs _ (h2.grow (bl_drew (Below.refl _ _))).marks) h0 hf
    rw [decide_eq_true hm] at this
    exact this
  have hRoom : (es.size : Int) < nm → ∀ W, Below w.heap.size w W → Calls Try.prog 25 #[.pointer (some ⟨g, 0, none⟩)] W fun e w' => e = .returned (.tuple #[]) ∧ Below W.heap.size W w' := fun hr W hW => room_c W g M fr lo nm nw es ck (h.grow hW) hr
  have hWait : ∀ W, GS W g M fr lo nm nw es' ck' → Calls Try.prog 12 #[.pointer (some ⟨g, 0, none⟩), .string s] W fun e w' => e = .returned (.int .i64 d) ∧ Below W.heap.size W w' := fun W hW => by
    have := Wait_c W g M fr lo nm nw es' ck' s (k + 1) (nw + d) hW (hs' _ (hW.grow (bl_drew (Below.refl _ _))).marks) h0 (by omega)
    rw [if_neg (by omega), show nw + d - nw = d by omega] at this
    exact this
  have hl0 := hl w h.marks
  have c4 := blk_cell h.gate 4
  have hmin : (if 1064 < k + 1 then (1064 : Int) else k + 1) = k + 1 := by rw [if_neg (by omega)]
  have hmin2 : min (k + 1) 1064 = k + 1 := by omega
  replace hDg := Lib.hid hDg
  replace hMay := Lib.hid hMay
  replace hRoom := Lib.hid hRoom
  replace hWait := Lib.hid hWait
  replace hu := Lib.hid hu
  clear hD hl hs hs'
  go_enter Try.func11, Try.ntmps11
  go_upto_region 4 with fail
  refine gen_world fun W hW => ?_
  have k5 : W.heap[w.heap.size]? = some (.cells #[.int .i64 k, .int .i64 f] 51 (0, 0)) := by subst hW; exact blk_new _ _
  have hA : Below w.heap.size w W := by subst hW; exact (Below.refl _ _).alloc (Nat.le_refl _) _
  have HG := h.grow hA
  clear hW c4 hl0
  cases th with
  | true =>
    go_upto_region 7 with (go_at_call 10; refine (hMay.out _ hA).mono ?_; rintro e w1 ⟨rfl, hb1⟩)
    replace k5 := grow_blk hb1 k5
    replace HG := HG.grow hb1
    replace hA := bl_call hb1 hA
    clear hb1
    have m0 := blk_cell k5 0
    have m0f := blk_frozen k5 0
    go_upto_region 8 with fail
    refine gen_world fun W hW => ?_
    replace k5 : W.heap[w.heap.size]? = some (.cells #[.int .i64 (k + 1), .int .i64 f] 51 (0, 0)) := by subst hW; exact blk_set k5 0 _
    replace HG : GS W g M fr lo nm nw es ck := by
      subst hW
      exact ⟨blk_far HG.gate (by have := blk_lt h.gate; simp; omega) _, blk_far HG.marks (by have := blk_lt h.marks; simp; omega) _⟩
    replace hA : Below w.heap.size w W := by subst hW; exact bl_set _ _ (Nat.le_refl _) hA
    clear hW m0 m0f
    have c0 := blk_cell HG.gate 0
    have c1 := blk_cell HG.gate 1
    have c3 := blk_cell HG.gate 3
    have m0 := blk_cell k5 0
    have hsum : IntKind.i64.wrap (nw + d) = nw + d := IntWalk.i64_in _ (by omega)
    refine wp_region_grow (fun w' => Below W.heap.size W w') 17 (by kernel_rfl) (by kernel_rfl) ⟨rfl, rfl, rfl, Nat.le_refl _, fun _ _ => rfl⟩ ?_
    simp only [List.take_succ_cons, List.take_zero, List.drop_succ_cons, List.drop_zero]
    repeat (first | go_big_quiet_skip | (go_big_quiet_want; go_big_quiet_op; first | go_big_quiet_on | (apply Exists.intro; refine ⟨fun w1 hw1 => ?_, ?_⟩; (first | exact rfl | (simp only [grow_cell hw1 c0, Result.andThen_ok]; exact ⟨trivial, rfl⟩) | (simp only [grow_cell hw1 c1, Result.andThen_ok]; exact ⟨trivial, rfl⟩) | (simp only [grow_cell hw1 c3, Result.andThen_ok]; exact ⟨trivial, rfl⟩) | (simp only [grow_cell hw1 m0, Result.andThen_ok]; exact ⟨trivial, rfl⟩) | (go_at_call 7; refine Calls_grow hw1 (hDg.out w1))); go_big_quiet_on)))
    refine wpQuiet_nil ?_
    intro w1 hw1
    replace k5 := grow_blk hw1 k5
    replace HG := HG.grow hw1
    replace hA := bl_call hw1 hA
    clear hw1 c0 c1 c3 m0
    have m1 := blk_cell k5 1
    have m1f := blk_frozen k5 1
    go_upto_region 9 with fail
    refine gen_world fun W hW => ?_
    replace k5 : W.heap[w.heap.size]? = some (.cells #[.int .i64 (k + 1), .int .i64 (nw + d)] 51 (0, 0)) := by subst hW; exact blk_set k5 1 _
    replace HG : GS W g M fr lo nm nw es ck := by
      subst hW
      exact ⟨blk_far HG.gate (by have := blk_lt h.gate; simp; omega) _, blk_far HG.marks (by have := blk_lt h.marks; simp; omega) _⟩
    replace hA : Below w.heap.size w W := by subst hW; exact bl_set _ _ (Nat.le_refl _) hA
    clear hW m1 m1f
    have hDr : Below W.heap.size W W.drew := bl_drew (Below.refl _ _)
    have HG2 := HG.grow hDr
    have k52 := grow_blk hDr k5
    have c4 := blk_cell HG2.gate 4
    have m0 := blk_cell k52 0
    have m1 := blk_cell k52 1
    have hup := hu.out _ HG2.marks
    go_region
    go_upto_region 10 with fail
    refine gen_world fun W2 hW2 => ?_
    have HG3 : GS W2 g M fr lo nm nw es' ck' := by subst hW2; exact ⟨setM_far HG2.gate HG2.ne _ _, setM_at HG2.marks _ _⟩
    have hA2 : Below B w W2 := by subst hW2; exact setM_below hB.2.1 ((bl_drew hA).mono hB.2.2) _ _
    clear hW2
    go_wp2_with (go_at_call 12; refine (hWait.out _ HG3).mono ?_; rintro e w9 ⟨rfl, hb9⟩)
    exact bodyPost_ret (v := .int .i64 d) (by simp [results, Try.results11, go_sem]) rfl ⟨rfl, HG3.grow hb9, hA2.trans (hb9.mono (Nat.le_trans hB.2.2 hA2.size))⟩
  | false =>
    have hr2 : (es.size : Int) < nm := hr.resolve_left (by simp)
    go_upto_region 7 with (first | (go_at_call 10; refine (hMay.out _ hA).mono ?_; rintro e w1 ⟨rfl, hb1⟩; replace hA := bl_call hb1 hA) | (go_at_call 25; refine (hRoom.out hr2 _ hA).mono ?_; rintro e w2 ⟨rfl, hb2⟩))
    replace k5 := grow_blk hb2 (grow_blk hb1 k5)
    replace HG := (HG.grow hb1).grow hb2
    replace hA := bl_call hb2 hA
    clear hb1 hb2
    have m0 := blk_cell k5 0
    have m0f := blk_frozen k5 0
    go_upto_region 8 with fail
    refine gen_world fun W hW => ?_
    replace k5 : W.heap[w.heap.size]? = some (.cells #[.int .i64 (k + 1), .int .i64 f] 51 (0, 0)) := by subst hW; exact blk_set k5 0 _
    replace HG : GS W g M fr lo nm nw es ck := by
      subst hW
      exact ⟨blk_far HG.gate (by have := blk_lt h.gate; simp; omega) _, blk_far HG.marks (by have := blk_lt h.marks; simp; omega) _⟩
    replace hA : Below w.heap.size w W := by subst hW; exact bl_set _ _ (Nat.le_refl _) hA
    clear hW m0 m0f
    have c0 := blk_cell HG.gate 0
    have c1 := blk_cell HG.gate 1
    have c3 := blk_cell HG.gate 3
    have m0 := blk_cell k5 0
    have hsum : IntKind.i64.wrap (nw + d) = nw + d := IntWalk.i64_in _ (by omega)
    refine wp_region_grow (fun w' => Below W.heap.size W w') 17 (by kernel_rfl) (by kernel_rfl) ⟨rfl, rfl, rfl, Nat.le_refl _, fun _ _ => rfl⟩ ?_
    simp only [List.take_succ_cons, List.take_zero, List.drop_succ_cons, List.drop_zero]
    repeat (first | go_big_quiet_skip | (go_big_quiet_want; go_big_quiet_op; first | go_big_quiet_on | (apply Exists.intro; refine ⟨fun w1 hw1 => ?_, ?_⟩; (first | exact rfl | (simp only [grow_cell hw1 c0, Result.andThen_ok]; exact ⟨trivial, rfl⟩) | (simp only [grow_cell hw1 c1, Result.andThen_ok]; exact ⟨trivial, rfl⟩) | (simp only [grow_cell hw1 c3, Result.andThen_ok]; exact ⟨trivial, rfl⟩) | (simp only [grow_cell hw1 m0, Result.andThen_ok]; exact ⟨trivial, rfl⟩) | (go_at_call 7; refine Calls_grow hw1 (hDg.out w1))); go_big_quiet_on)))
    refine wpQuiet_nil ?_
    intro w1 hw1
    replace k5 := grow_blk hw1 k5
    replace HG := HG.grow hw1
    replace hA := bl_call hw1 hA
    clear hw1 c0 c1 c3 m0
    have m1 := blk_cell k5 1
    have m1f := blk_frozen k5 1
    go_upto_region 9 with fail
    refine gen_world fun W hW => ?_
    replace k5 : W.heap[w.heap.size]? = some (.cells #[.int .i64 (k + 1), .int .i64 (nw + d)] 51 (0, 0)) := by subst hW; exact blk_set k5 1 _
    replace HG : GS W g M fr lo nm nw es ck := by
      subst hW
      exact ⟨blk_far HG.gate (by have := blk_lt h.gate; simp; omega) _, blk_far HG.marks (by have := blk_lt h.marks; simp; omega) _⟩
    replace hA : Below w.heap.size w W := by subst hW; exact bl_set _ _ (Nat.le_refl _) hA
    clear hW m1 m1f
    have hDr : Below W.heap.size W W.drew := bl_drew (Below.refl _ _)
    have HG2 := HG.grow hDr
    have k52 := grow_blk hDr k5
    have c4 := blk_cell HG2.gate 4
    have m0 := blk_cell k52 0
    have m1 := blk_cell k52 1
    have hup := hu.out _ HG2.marks
    go_region
    go_upto_region 10 with fail
    refine gen_world fun W2 hW2 => ?_
    have HG3 : GS W2 g M fr lo nm nw es' ck' := by subst hW2; exact ⟨setM_far HG2.gate HG2.ne _ _, setM_at HG2.marks _ _⟩
    have hA2 : Below B w W2 := by subst hW2; exact setM_below hB.2.1 ((bl_drew hA).mono hB.2.2) _ _
    clear hW2
    go_wp2_with (go_at_call 12; refine (hWait.out _ HG3).mono ?_; rintro e w9 ⟨rfl, hb9⟩)
    exact bodyPost_ret (v := .int .i64 d) (by simp [results, Try.results11, go_sem]) rfl ⟨rfl, HG3.grow hb9, hA2.trans (hb9.mono (Nat.le_trans hB.2.2 hA2.size))⟩
end Go.Proofs.Ytlldnejodchkdab

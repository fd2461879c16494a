/- attr.Right: a server's last message, and any message. -/
import Derived.Test.YtjigckibbjfkmaaGreatDoorMc
import Derived.BigQuiet
namespace Go.Proofs.YtjigckibbjfkmaaGreatDoor
open Go.RowKit
set_option maxRecDepth 100000
set_option linter.unusedSimpArgs false
set_option linter.unusedVariables false
attribute [local go_sem] evR_tmp evR_const evR_global evR_func
theorem emp_yes {s : ByteArray} (h : s = ⟨#[]⟩) : s.toList = [] ∧ s.toList.isEmpty = true := by rw [h, ByteArray.toList_eq]; exact ⟨rfl, rfl⟩
theorem emp_no {s : ByteArray} (h : s ≠ ⟨#[]⟩) : ¬ s.toList = [] ∧ s.toList.isEmpty = false := by
  have b0 : ¬ s.toList = [] := by
    rw [ByteArray.toList_eq]
    intro q
    exact h (ByteArray.ext (Array.toList_eq_nil_iff.1 q))
  exact ⟨b0, by rw [List.isEmpty_eq_false_iff]; exact b0⟩
theorem size_zero {s : ByteArray} (h : s = ⟨#[]⟩) : s.size = 0 := by rw [h]; rfl
/-- The same message, all but its own parts struck. -/
def only4 (m : MsgS) : MsgS := ⟨4, ⟨#[]⟩, ⟨#[]⟩, ⟨#[]⟩, 0, ⟨#[]⟩, m.g, m.f⟩
set_option maxHeartbeats 1000000 in
theorem Right_4 (m : MsgS) (hk : m.k = 4) (hz : SzM m) (w : World) (he : Env w) : Calls Tryz.prog 10 #[mv m] w fun e w' => e = .returned (.bool (decide (rightM (toM m)))) ∧ Below w.heap.size w w' := by
  obtain ⟨k, u, n, s, i, p, g, f⟩ := m
  simp only at hk
  subst hk
  have hF := fun w => afail_c f hz.f w
  by_cases ho : (⟨4, u, n, s, i, p, g, f⟩ : MsgS) = only4 ⟨4, u, n, s, i, p, g, f⟩
  · have hE := fun w => run_eql_yes (only4 ⟨4, u, n, s, i, p, g, f⟩) w
    simp only [mv, only4] at hE
    unfold only4 at ho
    simp only [MsgS.mk.injEq, true_and, and_true] at ho
    obtain ⟨rfl, rfl, rfl, rfl, rfl⟩ := ho
    have hR : decide (rightM (toM ⟨4, ⟨#[]⟩, ⟨#[]⟩, ⟨#[]⟩, 0, ⟨#[]⟩, g, f⟩)) = ((decide (g.size = 32) && decide (f = ⟨#[]⟩)) || (decide (g = ⟨#[]⟩) && failOk f.data.toList)) := by
      rw [Bool.eq_iff_iff, decide_eq_true_iff]
      simp [rightM, toM, ByteArray.ext_iff]
    rw [hR]
    clear hR
    obtain ⟨X, hXX⟩ : ∃ X, X = ((decide (g.size = 32) && decide (f = ⟨#[]⟩)) || (decide (g = ⟨#[]⟩) && failOk f.data.toList)) := ⟨_, rfl⟩
    rw [← hXX]
    by_cases h32 : g.size = 32
    · have hg0 : g ≠ ⟨#[]⟩ := fun q => by rw [size_zero q] at h32; cases h32
      obtain ⟨eg1, eg2⟩ := emp_no hg0
      have q1 : (g.size : Int) = 32 := by omega
      by_cases hf0 : f = ⟨#[]⟩
      · obtain ⟨ef1, ef2⟩ := emp_yes hf0
        have hX := Lib.hid (show X = true from by rw [hXX]; simp [h32, hf0])
        clear hz hF hg0 h32 
        replace hf0 := Lib.hid hf0
        replace he := Lib.hid he
        unfold mv
        go_enter Tryz.func10, Tryz.ntmps10
        go_upto_region 13 with fail
        have D := DR_new w #[Value.int IntKind.i64 4, Value.string ⟨#[]⟩, Value.string ⟨#[]⟩, Value.string ⟨#[]⟩, Value.int IntKind.i64 0, Value.string ⟨#[]⟩, Value.string g, Value.string f] #[Value.int IntKind.i64 4, Value.string ⟨#[]⟩, Value.string ⟨#[]⟩, Value.string ⟨#[]⟩, Value.int IntKind.i64 0, Value.string ⟨#[]⟩, Value.string ⟨#[]⟩, Value.string ⟨#[]⟩]
        refine gen_world fun W1 hW => ?_
        rw [← hW] at D
        clear hW
        obtain ⟨B, hB⟩ : ∃ B, B = w.heap.size := ⟨_, rfl⟩
        obtain ⟨A, hA⟩ : ∃ A, A = w.heap.size + 1 := ⟨_, rfl⟩
        rw [← hA, ← hB] at D
        rw [← hA, ← hB]
        clear hA hB
        have b6 := blk_cell D.kB 6
        have z6 := blk_frozen D.kA 6
        have a6 := blk_cell D.kA 6
        have b7 := blk_cell D.kB 7
        have z7 := blk_frozen D.kA 7
        have a7 := blk_cell D.kA 7
        go_region
        go_upto_region 14 with fail
        have D2 := ((D.set 6 (Value.string g)).set 7 (Value.string f)).draw
        refine gen_world fun W hW2 => ?_
        rw [← hW2] at D2
        have he2 := Lib.hid (he.out.below D2.hW)
        clear hW2 D b6 z6 a6 b7 z7 a7
        replace D2 : DR w B A W #[Value.int IntKind.i64 4, Value.string ⟨#[]⟩, Value.string ⟨#[]⟩, Value.string ⟨#[]⟩, Value.int IntKind.i64 0, Value.string ⟨#[]⟩, Value.string g, Value.string f] #[Value.int IntKind.i64 4, Value.string ⟨#[]⟩, Value.string ⟨#[]⟩, Value.string ⟨#[]⟩, Value.int IntKind.i64 0, Value.string ⟨#[]⟩, Value.string g, Value.string f] := D2
        have b0 := blk_cell D2.kB 0
        have b1 := blk_cell D2.kB 1
        have b2 := blk_cell D2.kB 2
        have b3 := blk_cell D2.kB 3
        have b4 := blk_cell D2.kB 4
        have b5 := blk_cell D2.kB 5
        have b6 : W.cell? ⟨B, 6, none⟩ = some (.string g) := blk_cell D2.kB 6
        have b7 : W.cell? ⟨B, 7, none⟩ = some (.string f) := blk_cell D2.kB 7
        have a0 := blk_cell D2.kA 0
        have a1 := blk_cell D2.kA 1
        have a2 := blk_cell D2.kA 2
        have a3 := blk_cell D2.kA 3
        have a4 := blk_cell D2.kA 4
        have a5 := blk_cell D2.kA 5
        have a6 := blk_cell D2.kA 6
        have a7 := blk_cell D2.kA 7
        go_upto_region 14 with fail
        go_quiet (fail)
        go_wp2_with fail
        exact bodyPost_ret (v := .bool true) (by simp [results, Tryz.results10, go_sem]) rfl ⟨by rw [hX.out], bl_drewN D2.hW _⟩
      · obtain ⟨ef1, ef2⟩ := emp_no hf0
        have hX := Lib.hid (show X = false from by rw [hXX]; simp [hf0, hg0])
        clear hz hF hg0 h32 hf0
        replace he := Lib.hid he
        unfold mv
        go_enter Tryz.func10, Tryz.ntmps10
        go_upto_region 13 with fail
        have D := DR_new w #[Value.int IntKind.i64 4, Value.string ⟨#[]⟩, Value.string ⟨#[]⟩, Value.string ⟨#[]⟩, Value.int IntKind.i64 0, Value.string ⟨#[]⟩, Value.string g, Value.string f] #[Value.int IntKind.i64 4, Value.string ⟨#[]⟩, Value.string ⟨#[]⟩, Value.string ⟨#[]⟩, Value.int IntKind.i64 0, Value.string ⟨#[]⟩, Value.string ⟨#[]⟩, Value.string ⟨#[]⟩]
        refine gen_world fun W1 hW => ?_
        rw [← hW] at D
        clear hW
        obtain ⟨B, hB⟩ : ∃ B, B = w.heap.size := ⟨_, rfl⟩
        obtain ⟨A, hA⟩ : ∃ A, A = w.heap.size + 1 := ⟨_, rfl⟩
        rw [← hA, ← hB] at D
        rw [← hA, ← hB]
        clear hA hB
        have b6 := blk_cell D.kB 6
        have z6 := blk_frozen D.kA 6
        have a6 := blk_cell D.kA 6
        have b7 := blk_cell D.kB 7
        have z7 := blk_frozen D.kA 7
        have a7 := blk_cell D.kA 7
        go_region
        go_upto_region 14 with fail
        have D2 := ((D.set 6 (Value.string g)).set 7 (Value.string f)).draw
        refine gen_world fun W hW2 => ?_
        rw [← hW2] at D2
        have he2 := Lib.hid (he.out.below D2.hW)
        clear hW2 D b6 z6 a6 b7 z7 a7
        replace D2 : DR w B A W #[Value.int IntKind.i64 4, Value.string ⟨#[]⟩, Value.string ⟨#[]⟩, Value.string ⟨#[]⟩, Value.int IntKind.i64 0, Value.string ⟨#[]⟩, Value.string g, Value.string f] #[Value.int IntKind.i64 4, Value.string ⟨#[]⟩, Value.string ⟨#[]⟩, Value.string ⟨#[]⟩, Value.int IntKind.i64 0, Value.string ⟨#[]⟩, Value.string g, Value.string f] := D2
        have b0 := blk_cell D2.kB 0
        have b1 := blk_cell D2.kB 1
        have b2 := blk_cell D2.kB 2
        have b3 := blk_cell D2.kB 3
        have b4 := blk_cell D2.kB 4
        have b5 := blk_cell D2.kB 5
        have b6 : W.cell? ⟨B, 6, none⟩ = some (.string g) := blk_cell D2.kB 6
        have b7 : W.cell? ⟨B, 7, none⟩ = some (.string f) := blk_cell D2.kB 7
        have a0 := blk_cell D2.kA 0
        have a1 := blk_cell D2.kA 1
        have a2 := blk_cell D2.kA 2
        have a3 := blk_cell D2.kA 3
        have a4 := blk_cell D2.kA 4
        have a5 := blk_cell D2.kA 5
        have a6 := blk_cell D2.kA 6
        have a7 := blk_cell D2.kA 7
        go_upto_region 14 with fail
        go_quiet (fail)
        go_wp2_with fail
        exact bodyPost_ret (v := .bool false) (by simp [results, Tryz.results10, go_sem]) rfl ⟨by rw [hX.out], bl_drewN D2.hW _⟩
    by_cases hg0 : g = ⟨#[]⟩
    · obtain ⟨eg1, eg2⟩ := emp_yes hg0
      have h0 := size_zero hg0
      have q1 : ¬ (g.size : Int) = 32 := by omega
      have q2 : ((g.size : Int) == 32) = false := by rw [beq_eq_false_iff_ne]; exact q1
      have hX := Lib.hid (show X = failOk f.data.toList from by rw [hXX]; simp [hg0, size_zero])
      clear hz h0 h32
      replace hg0 := Lib.hid hg0
      generalize failOk f.data.toList = C at hF hX
      replace he := Lib.hid he
      unfold mv
      go_enter Tryz.func10, Tryz.ntmps10
      go_upto_region 13 with fail
      have D := DR_new w #[Value.int IntKind.i64 4, Value.string ⟨#[]⟩, Value.string ⟨#[]⟩, Value.string ⟨#[]⟩, Value.int IntKind.i64 0, Value.string ⟨#[]⟩, Value.string g, Value.string f] #[Value.int IntKind.i64 4, Value.string ⟨#[]⟩, Value.string ⟨#[]⟩, Value.string ⟨#[]⟩, Value.int IntKind.i64 0, Value.string ⟨#[]⟩, Value.string ⟨#[]⟩, Value.string ⟨#[]⟩]
      refine gen_world fun W1 hW => ?_
      rw [← hW] at D
      clear hW
      obtain ⟨B, hB⟩ : ∃ B, B = w.heap.size := ⟨_, rfl⟩
      obtain ⟨A, hA⟩ : ∃ A, A = w.heap.size + 1 := ⟨_, rfl⟩
      rw [← hA, ← hB] at D
      rw [← hA, ← hB]
      clear hA hB
      have b6 := blk_cell D.kB 6
      have z6 := blk_frozen D.kA 6
      have a6 := blk_cell D.kA 6
      have b7 := blk_cell D.kB 7
      have z7 := blk_frozen D.kA 7
      have a7 := blk_cell D.kA 7
      go_region
      go_upto_region 14 with fail
      have D2 := ((D.set 6 (Value.string g)).set 7 (Value.string f)).draw
      refine gen_world fun W hW2 => ?_
      rw [← hW2] at D2
      have he2 := Lib.hid (he.out.below D2.hW)
      clear hW2 D b6 z6 a6 b7 z7 a7
      replace D2 : DR w B A W #[Value.int IntKind.i64 4, Value.string ⟨#[]⟩, Value.string ⟨#[]⟩, Value.string ⟨#[]⟩, Value.int IntKind.i64 0, Value.string ⟨#[]⟩, Value.string g, Value.string f] #[Value.int IntKind.i64 4, Value.string ⟨#[]⟩, Value.string ⟨#[]⟩, Value.string ⟨#[]⟩, Value.int IntKind.i64 0, Value.string ⟨#[]⟩, Value.string g, Value.string f] := D2
      have b0 := blk_cell D2.kB 0
      have b1 := blk_cell D2.kB 1
      have b2 := blk_cell D2.kB 2
      have b3 := blk_cell D2.kB 3
      have b4 := blk_cell D2.kB 4
      have b5 := blk_cell D2.kB 5
      have b6 : W.cell? ⟨B, 6, none⟩ = some (.string g) := blk_cell D2.kB 6
      have b7 : W.cell? ⟨B, 7, none⟩ = some (.string f) := blk_cell D2.kB 7
      have a0 := blk_cell D2.kA 0
      have a1 := blk_cell D2.kA 1
      have a2 := blk_cell D2.kA 2
      have a3 := blk_cell D2.kA 3
      have a4 := blk_cell D2.kA 4
      have a5 := blk_cell D2.kA 5
      have a6 := blk_cell D2.kA 6
      have a7 := blk_cell D2.kA 7
      go_upto_region 14 with fail
      cases C
      · skip
        refine wp_region_grow (fun w' => Below W.heap.size W w') 18 (by kernel_rfl) (by kernel_rfl) ⟨rfl, rfl, rfl, Nat.le_refl _, fun _ _ => rfl⟩ ?_
        simp only [List.take_succ_cons, List.take_zero, List.drop_succ_cons, List.drop_zero]
        repeat (first | go_big_quiet_skip | (go_big_quiet_want; go_big_quiet_op; first | go_big_quiet_on | (apply Exists.intro; refine ⟨fun w1 hw1 => ?_, ?_⟩; (first | exact rfl | (simp only [grow_cell hw1 b6, Result.andThen_ok]; exact ⟨trivial, rfl⟩) | (simp only [grow_cell hw1 b7, Result.andThen_ok]; exact ⟨trivial, rfl⟩) | (go_at_call 31; refine Calls_grow hw1 (hF w1))); go_big_quiet_on)))
        refine wpQuiet_nil ?_
        intro w1 hw1
        have D3 := D2.grow hw1
        clear b0 a0 b1 a1 b2 a2 b3 a3 b4 a4 b5 a5 b6 a6 b7 a7 D2
        have b0 := blk_cell D3.kB 0
        have b1 := blk_cell D3.kB 1
        have b2 := blk_cell D3.kB 2
        have b3 := blk_cell D3.kB 3
        have b4 := blk_cell D3.kB 4
        have b5 := blk_cell D3.kB 5
        have b6 := blk_cell D3.kB 6
        have b7 := blk_cell D3.kB 7
        have a0 := blk_cell D3.kA 0
        have a1 := blk_cell D3.kA 1
        have a2 := blk_cell D3.kA 2
        have a3 := blk_cell D3.kA 3
        have a4 := blk_cell D3.kA 4
        have a5 := blk_cell D3.kA 5
        have a6 := blk_cell D3.kA 6
        have a7 := blk_cell D3.kA 7
        go_wp2_with fail
        exact bodyPost_ret (v := .bool false) (by simp [results, Tryz.results10, go_sem]) rfl ⟨by rw [hX.out], D3.hW⟩
      · skip
        refine wp_region_grow (fun w' => Below W.heap.size W w') 18 (by kernel_rfl) (by kernel_rfl) ⟨rfl, rfl, rfl, Nat.le_refl _, fun _ _ => rfl⟩ ?_
        simp only [List.take_succ_cons, List.take_zero, List.drop_succ_cons, List.drop_zero]
        repeat (first | go_big_quiet_skip | (go_big_quiet_want; go_big_quiet_op; first | go_big_quiet_on | (apply Exists.intro; refine ⟨fun w1 hw1 => ?_, ?_⟩; (first | exact rfl | (simp only [grow_cell hw1 b6, Result.andThen_ok]; exact ⟨trivial, rfl⟩) | (simp only [grow_cell hw1 b7, Result.andThen_ok]; exact ⟨trivial, rfl⟩) | (go_at_call 31; refine Calls_grow hw1 (hF w1))); go_big_quiet_on)))
        refine wpQuiet_nil ?_
        intro w1 hw1
        have D3 := D2.grow hw1
        clear b0 a0 b1 a1 b2 a2 b3 a3 b4 a4 b5 a5 b6 a6 b7 a7 D2
        have b0 := blk_cell D3.kB 0
        have b1 := blk_cell D3.kB 1
        have b2 := blk_cell D3.kB 2
        have b3 := blk_cell D3.kB 3
        have b4 := blk_cell D3.kB 4
        have b5 := blk_cell D3.kB 5
        have b6 := blk_cell D3.kB 6
        have b7 := blk_cell D3.kB 7
        have a0 := blk_cell D3.kA 0
        have a1 := blk_cell D3.kA 1
        have a2 := blk_cell D3.kA 2
        have a3 := blk_cell D3.kA 3
        have a4 := blk_cell D3.kA 4
        have a5 := blk_cell D3.kA 5
        have a6 := blk_cell D3.kA 6
        have a7 := blk_cell D3.kA 7
        go_wp2_with fail
        exact bodyPost_ret (v := .bool true) (by simp [results, Tryz.results10, go_sem]) rfl ⟨by rw [hX.out], D3.hW⟩
    · obtain ⟨eg1, eg2⟩ := emp_no hg0
      have q1 : ¬ (g.size : Int) = 32 := by omega
      have q2 : ((g.size : Int) == 32) = false := by rw [beq_eq_false_iff_ne]; exact q1
      have hX := Lib.hid (show X = false from by rw [hXX]; simp [h32, hg0])
      clear hz h32 hg0 hF
      replace he := Lib.hid he
      unfold mv
      go_enter Tryz.func10, Tryz.ntmps10
      go_upto_region 13 with fail
      have D := DR_new w #[Value.int IntKind.i64 4, Value.string ⟨#[]⟩, Value.string ⟨#[]⟩, Value.string ⟨#[]⟩, Value.int IntKind.i64 0, Value.string ⟨#[]⟩, Value.string g, Value.string f] #[Value.int IntKind.i64 4, Value.string ⟨#[]⟩, Value.string ⟨#[]⟩, Value.string ⟨#[]⟩, Value.int IntKind.i64 0, Value.string ⟨#[]⟩, Value.string ⟨#[]⟩, Value.string ⟨#[]⟩]
      refine gen_world fun W1 hW => ?_
      rw [← hW] at D
      clear hW
      obtain ⟨B, hB⟩ : ∃ B, B = w.heap.size := ⟨_, rfl⟩
      obtain ⟨A, hA⟩ : ∃ A, A = w.heap.size + 1 := ⟨_, rfl⟩
      rw [← hA, ← hB] at D
      rw [← hA, ← hB]
      clear hA hB
      have b6 := blk_cell D.kB 6
      have z6 := blk_frozen D.kA 6
      have a6 := blk_cell D.kA 6
      have b7 := blk_cell D.kB 7
      have z7 := blk_frozen D.kA 7
      have a7 := blk_cell D.kA 7
      go_region
      go_upto_region 14 with fail
      have D2 := ((D.set 6 (Value.string g)).set 7 (Value.string f)).draw
      refine gen_world fun W hW2 => ?_
      rw [← hW2] at D2
      have he2 := Lib.hid (he.out.below D2.hW)
      clear hW2 D b6 z6 a6 b7 z7 a7
      replace D2 : DR w B A W #[Value.int IntKind.i64 4, Value.string ⟨#[]⟩, Value.string ⟨#[]⟩, Value.string ⟨#[]⟩, Value.int IntKind.i64 0, Value.string ⟨#[]⟩, Value.string g, Value.string f] #[Value.int IntKind.i64 4, Value.string ⟨#[]⟩, Value.string ⟨#[]⟩, Value.string ⟨#[]⟩, Value.int IntKind.i64 0, Value.string ⟨#[]⟩, Value.string g, Value.string f] := D2
      have b0 := blk_cell D2.kB 0
      have b1 := blk_cell D2.kB 1
      have b2 := blk_cell D2.kB 2
      have b3 := blk_cell D2.kB 3
      have b4 := blk_cell D2.kB 4
      have b5 := blk_cell D2.kB 5
      have b6 : W.cell? ⟨B, 6, none⟩ = some (.string g) := blk_cell D2.kB 6
      have b7 : W.cell? ⟨B, 7, none⟩ = some (.string f) := blk_cell D2.kB 7
      have a0 := blk_cell D2.kA 0
      have a1 := blk_cell D2.kA 1
      have a2 := blk_cell D2.kA 2
      have a3 := blk_cell D2.kA 3
      have a4 := blk_cell D2.kA 4
      have a5 := blk_cell D2.kA 5
      have a6 := blk_cell D2.kA 6
      have a7 := blk_cell D2.kA 7
      go_upto_region 14 with fail
      go_quiet (fail)
      go_wp2_with fail
      exact bodyPost_ret (v := .bool false) (by simp [results, Tryz.results10, go_sem]) rfl ⟨by rw [hX.out], bl_drewN D2.hW _⟩
  · have hE := fun w => run_eql_no ⟨4, u, n, s, i, p, g, f⟩ (only4 ⟨4, u, n, s, i, p, g, f⟩) ho w
    simp only [mv, only4] at hE
    have hR : decide (rightM (toM ⟨4, u, n, s, i, p, g, f⟩)) = false := by
      rw [decide_eq_false_iff_not]
      intro q
      apply ho
      simp [rightM, toM] at q
      simp [only4, ByteArray.ext_iff, q]
    rw [hR]
    clear hR ho hz
    obtain ⟨X, hXX⟩ : ∃ X, X = false := ⟨_, rfl⟩
    rw [← hXX]
    by_cases h32 : g.size = 32
    · have hg0 : g ≠ ⟨#[]⟩ := fun q => by rw [size_zero q] at h32; cases h32
      obtain ⟨eg1, eg2⟩ := emp_no hg0
      have q1 : (g.size : Int) = 32 := by omega
      by_cases hf0 : f = ⟨#[]⟩
      · obtain ⟨ef1, ef2⟩ := emp_yes hf0
        have hX := Lib.hid (hXX)
        clear hF hg0 h32 
        replace hf0 := Lib.hid hf0
        replace he := Lib.hid he
        unfold mv
        go_enter Tryz.func10, Tryz.ntmps10
        go_upto_region 13 with fail
        have D := DR_new w #[Value.int IntKind.i64 4, Value.string u, Value.string n, Value.string s, Value.int IntKind.i64 i, Value.string p, Value.string g, Value.string f] #[Value.int IntKind.i64 4, Value.string ⟨#[]⟩, Value.string ⟨#[]⟩, Value.string ⟨#[]⟩, Value.int IntKind.i64 0, Value.string ⟨#[]⟩, Value.string ⟨#[]⟩, Value.string ⟨#[]⟩]
        refine gen_world fun W1 hW => ?_
        rw [← hW] at D
        clear hW
        obtain ⟨B, hB⟩ : ∃ B, B = w.heap.size := ⟨_, rfl⟩
        obtain ⟨A, hA⟩ : ∃ A, A = w.heap.size + 1 := ⟨_, rfl⟩
        rw [← hA, ← hB] at D
        rw [← hA, ← hB]
        clear hA hB
        have b6 := blk_cell D.kB 6
        have z6 := blk_frozen D.kA 6
        have a6 := blk_cell D.kA 6
        have b7 := blk_cell D.kB 7
        have z7 := blk_frozen D.kA 7
        have a7 := blk_cell D.kA 7
        go_region
        go_upto_region 14 with fail
        have D2 := ((D.set 6 (Value.string g)).set 7 (Value.string f)).draw
        refine gen_world fun W hW2 => ?_
        rw [← hW2] at D2
        have he2 := Lib.hid (he.out.below D2.hW)
        clear hW2 D b6 z6 a6 b7 z7 a7
        replace D2 : DR w B A W #[Value.int IntKind.i64 4, Value.string u, Value.string n, Value.string s, Value.int IntKind.i64 i, Value.string p, Value.string g, Value.string f] #[Value.int IntKind.i64 4, Value.string ⟨#[]⟩, Value.string ⟨#[]⟩, Value.string ⟨#[]⟩, Value.int IntKind.i64 0, Value.string ⟨#[]⟩, Value.string g, Value.string f] := D2
        have b0 := blk_cell D2.kB 0
        have b1 := blk_cell D2.kB 1
        have b2 := blk_cell D2.kB 2
        have b3 := blk_cell D2.kB 3
        have b4 := blk_cell D2.kB 4
        have b5 := blk_cell D2.kB 5
        have b6 : W.cell? ⟨B, 6, none⟩ = some (.string g) := blk_cell D2.kB 6
        have b7 : W.cell? ⟨B, 7, none⟩ = some (.string f) := blk_cell D2.kB 7
        have a0 := blk_cell D2.kA 0
        have a1 := blk_cell D2.kA 1
        have a2 := blk_cell D2.kA 2
        have a3 := blk_cell D2.kA 3
        have a4 := blk_cell D2.kA 4
        have a5 := blk_cell D2.kA 5
        have a6 := blk_cell D2.kA 6
        have a7 := blk_cell D2.kA 7
        go_upto_region 14 with fail
        go_quiet (fail)
        go_wp2_with fail
        exact bodyPost_ret (v := .bool false) (by simp [results, Tryz.results10, go_sem]) rfl ⟨by rw [hX.out], bl_drewN D2.hW _⟩
      · obtain ⟨ef1, ef2⟩ := emp_no hf0
        have hX := Lib.hid (hXX)
        clear hF hg0 h32 hf0
        replace he := Lib.hid he
        unfold mv
        go_enter Tryz.func10, Tryz.ntmps10
        go_upto_region 13 with fail
        have D := DR_new w #[Value.int IntKind.i64 4, Value.string u, Value.string n, Value.string s, Value.int IntKind.i64 i, Value.string p, Value.string g, Value.string f] #[Value.int IntKind.i64 4, Value.string ⟨#[]⟩, Value.string ⟨#[]⟩, Value.string ⟨#[]⟩, Value.int IntKind.i64 0, Value.string ⟨#[]⟩, Value.string ⟨#[]⟩, Value.string ⟨#[]⟩]
        refine gen_world fun W1 hW => ?_
        rw [← hW] at D
        clear hW
        obtain ⟨B, hB⟩ : ∃ B, B = w.heap.size := ⟨_, rfl⟩
        obtain ⟨A, hA⟩ : ∃ A, A = w.heap.size + 1 := ⟨_, rfl⟩
        rw [← hA, ← hB] at D
        rw [← hA, ← hB]
        clear hA hB
        have b6 := blk_cell D.kB 6
        have z6 := blk_frozen D.kA 6
        have a6 := blk_cell D.kA 6
        have b7 := blk_cell D.kB 7
        have z7 := blk_frozen D.kA 7
        have a7 := blk_cell D.kA 7
        go_region
        go_upto_region 14 with fail
        have D2 := ((D.set 6 (Value.string g)).set 7 (Value.string f)).draw
        refine gen_world fun W hW2 => ?_
        rw [← hW2] at D2
        have he2 := Lib.hid (he.out.below D2.hW)
        clear hW2 D b6 z6 a6 b7 z7 a7
        replace D2 : DR w B A W #[Value.int IntKind.i64 4, Value.string u, Value.string n, Value.string s, Value.int IntKind.i64 i, Value.string p, Value.string g, Value.string f] #[Value.int IntKind.i64 4, Value.string ⟨#[]⟩, Value.string ⟨#[]⟩, Value.string ⟨#[]⟩, Value.int IntKind.i64 0, Value.string ⟨#[]⟩, Value.string g, Value.string f] := D2
        have b0 := blk_cell D2.kB 0
        have b1 := blk_cell D2.kB 1
        have b2 := blk_cell D2.kB 2
        have b3 := blk_cell D2.kB 3
        have b4 := blk_cell D2.kB 4
        have b5 := blk_cell D2.kB 5
        have b6 : W.cell? ⟨B, 6, none⟩ = some (.string g) := blk_cell D2.kB 6
        have b7 : W.cell? ⟨B, 7, none⟩ = some (.string f) := blk_cell D2.kB 7
        have a0 := blk_cell D2.kA 0
        have a1 := blk_cell D2.kA 1
        have a2 := blk_cell D2.kA 2
        have a3 := blk_cell D2.kA 3
        have a4 := blk_cell D2.kA 4
        have a5 := blk_cell D2.kA 5
        have a6 := blk_cell D2.kA 6
        have a7 := blk_cell D2.kA 7
        go_upto_region 14 with fail
        go_quiet (fail)
        go_wp2_with fail
        exact bodyPost_ret (v := .bool false) (by simp [results, Tryz.results10, go_sem]) rfl ⟨by rw [hX.out], bl_drewN D2.hW _⟩
    by_cases hg0 : g = ⟨#[]⟩
    · obtain ⟨eg1, eg2⟩ := emp_yes hg0
      have h0 := size_zero hg0
      have q1 : ¬ (g.size : Int) = 32 := by omega
      have q2 : ((g.size : Int) == 32) = false := by rw [beq_eq_false_iff_ne]; exact q1
      have hX := Lib.hid (hXX)
      clear h0 h32
      replace hg0 := Lib.hid hg0
      generalize failOk f.data.toList = C at hF
      replace he := Lib.hid he
      unfold mv
      go_enter Tryz.func10, Tryz.ntmps10
      go_upto_region 13 with fail
      have D := DR_new w #[Value.int IntKind.i64 4, Value.string u, Value.string n, Value.string s, Value.int IntKind.i64 i, Value.string p, Value.string g, Value.string f] #[Value.int IntKind.i64 4, Value.string ⟨#[]⟩, Value.string ⟨#[]⟩, Value.string ⟨#[]⟩, Value.int IntKind.i64 0, Value.string ⟨#[]⟩, Value.string ⟨#[]⟩, Value.string ⟨#[]⟩]
      refine gen_world fun W1 hW => ?_
      rw [← hW] at D
      clear hW
      obtain ⟨B, hB⟩ : ∃ B, B = w.heap.size := ⟨_, rfl⟩
      obtain ⟨A, hA⟩ : ∃ A, A = w.heap.size + 1 := ⟨_, rfl⟩
      rw [← hA, ← hB] at D
      rw [← hA, ← hB]
      clear hA hB
      have b6 := blk_cell D.kB 6
      have z6 := blk_frozen D.kA 6
      have a6 := blk_cell D.kA 6
      have b7 := blk_cell D.kB 7
      have z7 := blk_frozen D.kA 7
      have a7 := blk_cell D.kA 7
      go_region
      go_upto_region 14 with fail
      have D2 := ((D.set 6 (Value.string g)).set 7 (Value.string f)).draw
      refine gen_world fun W hW2 => ?_
      rw [← hW2] at D2
      have he2 := Lib.hid (he.out.below D2.hW)
      clear hW2 D b6 z6 a6 b7 z7 a7
      replace D2 : DR w B A W #[Value.int IntKind.i64 4, Value.string u, Value.string n, Value.string s, Value.int IntKind.i64 i, Value.string p, Value.string g, Value.string f] #[Value.int IntKind.i64 4, Value.string ⟨#[]⟩, Value.string ⟨#[]⟩, Value.string ⟨#[]⟩, Value.int IntKind.i64 0, Value.string ⟨#[]⟩, Value.string g, Value.string f] := D2
      have b0 := blk_cell D2.kB 0
      have b1 := blk_cell D2.kB 1
      have b2 := blk_cell D2.kB 2
      have b3 := blk_cell D2.kB 3
      have b4 := blk_cell D2.kB 4
      have b5 := blk_cell D2.kB 5
      have b6 : W.cell? ⟨B, 6, none⟩ = some (.string g) := blk_cell D2.kB 6
      have b7 : W.cell? ⟨B, 7, none⟩ = some (.string f) := blk_cell D2.kB 7
      have a0 := blk_cell D2.kA 0
      have a1 := blk_cell D2.kA 1
      have a2 := blk_cell D2.kA 2
      have a3 := blk_cell D2.kA 3
      have a4 := blk_cell D2.kA 4
      have a5 := blk_cell D2.kA 5
      have a6 := blk_cell D2.kA 6
      have a7 := blk_cell D2.kA 7
      go_upto_region 14 with fail
      cases C
      · skip
        refine wp_region_grow (fun w' => Below W.heap.size W w') 18 (by kernel_rfl) (by kernel_rfl) ⟨rfl, rfl, rfl, Nat.le_refl _, fun _ _ => rfl⟩ ?_
        simp only [List.take_succ_cons, List.take_zero, List.drop_succ_cons, List.drop_zero]
        repeat (first | go_big_quiet_skip | (go_big_quiet_want; go_big_quiet_op; first | go_big_quiet_on | (apply Exists.intro; refine ⟨fun w1 hw1 => ?_, ?_⟩; (first | exact rfl | (simp only [grow_cell hw1 b6, Result.andThen_ok]; exact ⟨trivial, rfl⟩) | (simp only [grow_cell hw1 b7, Result.andThen_ok]; exact ⟨trivial, rfl⟩) | (go_at_call 31; refine Calls_grow hw1 (hF w1))); go_big_quiet_on)))
        refine wpQuiet_nil ?_
        intro w1 hw1
        have D3 := D2.grow hw1
        clear b0 a0 b1 a1 b2 a2 b3 a3 b4 a4 b5 a5 b6 a6 b7 a7 D2
        have b0 := blk_cell D3.kB 0
        have b1 := blk_cell D3.kB 1
        have b2 := blk_cell D3.kB 2
        have b3 := blk_cell D3.kB 3
        have b4 := blk_cell D3.kB 4
        have b5 := blk_cell D3.kB 5
        have b6 := blk_cell D3.kB 6
        have b7 := blk_cell D3.kB 7
        have a0 := blk_cell D3.kA 0
        have a1 := blk_cell D3.kA 1
        have a2 := blk_cell D3.kA 2
        have a3 := blk_cell D3.kA 3
        have a4 := blk_cell D3.kA 4
        have a5 := blk_cell D3.kA 5
        have a6 := blk_cell D3.kA 6
        have a7 := blk_cell D3.kA 7
        go_wp2_with fail
        exact bodyPost_ret (v := .bool false) (by simp [results, Tryz.results10, go_sem]) rfl ⟨by rw [hX.out], D3.hW⟩
      · skip
        refine wp_region_grow (fun w' => Below W.heap.size W w') 18 (by kernel_rfl) (by kernel_rfl) ⟨rfl, rfl, rfl, Nat.le_refl _, fun _ _ => rfl⟩ ?_
        simp only [List.take_succ_cons, List.take_zero, List.drop_succ_cons, List.drop_zero]
        repeat (first | go_big_quiet_skip | (go_big_quiet_want; go_big_quiet_op; first | go_big_quiet_on | (apply Exists.intro; refine ⟨fun w1 hw1 => ?_, ?_⟩; (first | exact rfl | (simp only [grow_cell hw1 b6, Result.andThen_ok]; exact ⟨trivial, rfl⟩) | (simp only [grow_cell hw1 b7, Result.andThen_ok]; exact ⟨trivial, rfl⟩) | (go_at_call 31; refine Calls_grow hw1 (hF w1))); go_big_quiet_on)))
        refine wpQuiet_nil ?_
        intro w1 hw1
        have D3 := D2.grow hw1
        clear b0 a0 b1 a1 b2 a2 b3 a3 b4 a4 b5 a5 b6 a6 b7 a7 D2
        have b0 := blk_cell D3.kB 0
        have b1 := blk_cell D3.kB 1
        have b2 := blk_cell D3.kB 2
        have b3 := blk_cell D3.kB 3
        have b4 := blk_cell D3.kB 4
        have b5 := blk_cell D3.kB 5
        have b6 := blk_cell D3.kB 6
        have b7 := blk_cell D3.kB 7
        have a0 := blk_cell D3.kA 0
        have a1 := blk_cell D3.kA 1
        have a2 := blk_cell D3.kA 2
        have a3 := blk_cell D3.kA 3
        have a4 := blk_cell D3.kA 4
        have a5 := blk_cell D3.kA 5
        have a6 := blk_cell D3.kA 6
        have a7 := blk_cell D3.kA 7
        go_wp2_with fail
        exact bodyPost_ret (v := .bool false) (by simp [results, Tryz.results10, go_sem]) rfl ⟨by rw [hX.out], D3.hW⟩
    · obtain ⟨eg1, eg2⟩ := emp_no hg0
      have q1 : ¬ (g.size : Int) = 32 := by omega
      have q2 : ((g.size : Int) == 32) = false := by rw [beq_eq_false_iff_ne]; exact q1
      have hX := Lib.hid (hXX)
      clear h32 hg0 hF
      replace he := Lib.hid he
      unfold mv
      go_enter Tryz.func10, Tryz.ntmps10
      go_upto_region 13 with fail
      have D := DR_new w #[Value.int IntKind.i64 4, Value.string u, Value.string n, Value.string s, Value.int IntKind.i64 i, Value.string p, Value.string g, Value.string f] #[Value.int IntKind.i64 4, Value.string ⟨#[]⟩, Value.string ⟨#[]⟩, Value.string ⟨#[]⟩, Value.int IntKind.i64 0, Value.string ⟨#[]⟩, Value.string ⟨#[]⟩, Value.string ⟨#[]⟩]
      refine gen_world fun W1 hW => ?_
      rw [← hW] at D
      clear hW
      obtain ⟨B, hB⟩ : ∃ B, B = w.heap.size := ⟨_, rfl⟩
      obtain ⟨A, hA⟩ : ∃ A, A = w.heap.size + 1 := ⟨_, rfl⟩
      rw [← hA, ← hB] at D
      rw [← hA, ← hB]
      clear hA hB
      have b6 := blk_cell D.kB 6
      have z6 := blk_frozen D.kA 6
      have a6 := blk_cell D.kA 6
      have b7 := blk_cell D.kB 7
      have z7 := blk_frozen D.kA 7
      have a7 := blk_cell D.kA 7
      go_region
      go_upto_region 14 with fail
      have D2 := ((D.set 6 (Value.string g)).set 7 (Value.string f)).draw
      refine gen_world fun W hW2 => ?_
      rw [← hW2] at D2
      have he2 := Lib.hid (he.out.below D2.hW)
      clear hW2 D b6 z6 a6 b7 z7 a7
      replace D2 : DR w B A W #[Value.int IntKind.i64 4, Value.string u, Value.string n, Value.string s, Value.int IntKind.i64 i, Value.string p, Value.string g, Value.string f] #[Value.int IntKind.i64 4, Value.string ⟨#[]⟩, Value.string ⟨#[]⟩, Value.string ⟨#[]⟩, Value.int IntKind.i64 0, Value.string ⟨#[]⟩, Value.string g, Value.string f] := D2
      have b0 := blk_cell D2.kB 0
      have b1 := blk_cell D2.kB 1
      have b2 := blk_cell D2.kB 2
      have b3 := blk_cell D2.kB 3
      have b4 := blk_cell D2.kB 4
      have b5 := blk_cell D2.kB 5
      have b6 : W.cell? ⟨B, 6, none⟩ = some (.string g) := blk_cell D2.kB 6
      have b7 : W.cell? ⟨B, 7, none⟩ = some (.string f) := blk_cell D2.kB 7
      have a0 := blk_cell D2.kA 0
      have a1 := blk_cell D2.kA 1
      have a2 := blk_cell D2.kA 2
      have a3 := blk_cell D2.kA 3
      have a4 := blk_cell D2.kA 4
      have a5 := blk_cell D2.kA 5
      have a6 := blk_cell D2.kA 6
      have a7 := blk_cell D2.kA 7
      go_upto_region 14 with fail
      go_quiet (fail)
      go_wp2_with fail
      exact bodyPost_ret (v := .bool false) (by simp [results, Tryz.results10, go_sem]) rfl ⟨by rw [hX.out], bl_drewN D2.hW _⟩
theorem Right_0 (m : MsgS) (hk : m.k ≠ 1 ∧ m.k ≠ 2 ∧ m.k ≠ 3 ∧ m.k ≠ 4) (hz : SzM m) (w : World) (he : Env w) : Calls Tryz.prog 10 #[mv m] w fun e w' => e = .returned (.bool (decide (rightM (toM m)))) ∧ Below w.heap.size w w' := by
  obtain ⟨k, u, n, s, i, p, g, f⟩ := m
  simp only at hk
  obtain ⟨k1, k2, k3, k4⟩ := hk
  have hR : decide (rightM (toM ⟨k, u, n, s, i, p, g, f⟩)) = false := by
    rw [decide_eq_false_iff_not]
    intro q
    simp [rightM, toM, k1, k2, k3, k4] at q
  rw [hR]
  have b1 : (k == 1) = false := by rw [beq_eq_false_iff_ne]; exact k1
  have b2 : (k == 2) = false := by rw [beq_eq_false_iff_ne]; exact k2
  have b3 : (k == 3) = false := by rw [beq_eq_false_iff_ne]; exact k3
  have b4 : (k == 4) = false := by rw [beq_eq_false_iff_ne]; exact k4
  clear hR hz he
  unfold mv
  go_enter Tryz.func10, Tryz.ntmps10
  go_wp2_with fail
  exact bodyPost_ret (v := .bool false) (by simp [results, Tryz.results10, go_sem]) rfl ⟨rfl, (by (repeat (first | exact Below.refl _ _ | (refine bl_alloc ?_ _) | (refine bl_drewN ?_ _) | (refine bl_drew ?_) | (refine bl_call (by assumption) ?_) | (refine bl_set _ _ (by simp <;> omega) ?_) | assumption)))⟩
theorem Right_c (m : MsgS) (hz : SzM m) (w : World) (he : Env w) : Calls Tryz.prog 10 #[mv m] w fun e w' => e = .returned (.bool (decide (rightM (toM m)))) ∧ Below w.heap.size w w' := by
  by_cases h1 : m.k = 1
  · exact Right_1 m h1 hz w he
  by_cases h2 : m.k = 2
  · exact Right_2 m h2 hz w he
  by_cases h3 : m.k = 3
  · exact Right_3 m h3 hz w he
  by_cases h4 : m.k = 4
  · exact Right_4 m h4 hz w he
  exact Right_0 m ⟨h1, h2, h3, h4⟩ hz w he
end Go.Proofs.YtjigckibbjfkmaaGreatDoor

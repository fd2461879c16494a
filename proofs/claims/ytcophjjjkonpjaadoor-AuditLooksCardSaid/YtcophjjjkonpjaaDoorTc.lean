/- The contract of sabretachelaw44.awake. -/
import Derived.Test.YtcophjjjkonpjaaDoorTb
import Derived.Test.YtcophjjjkonpjaaDoorAy
namespace Go.Proofs.YtcophjjjkonpjaaDoor
open Go.RowKit
set_option maxRecDepth 100000
set_option linter.unusedSimpArgs false
set_option linter.unusedVariables false
theorem itoa_small_ok (w : World) (i : Nat) (hi : i < 100) : ItoaOk w (i : Int) := fun W _ => by
  refine (Tryd.strconv_Itoa_small i hi W).mono ?_
  rintro e w' ⟨rfl, rfl⟩
  exact ⟨by rw [Lib.itoa, if_neg (by omega), Int.toNat_natCast], Below.refl _ _⟩
def ev3 : List Evt := [⟨1, 5, 0⟩, ⟨1, 6, 0⟩, ⟨1, 7, 0⟩]
theorem ev3_runs : runsL ev3 = [⟨1, 5, 1, 3, 0⟩] := by
  simp [ev3, runsL, ext, stepOf, lk, far, wrap64]
theorem ev3_row (w : World) (g : Nat) (T : TypeId) (h : w.heap[g]? = some (.cells #[.int .i64 1, .int .i64 5, .int .u32 0, .int .i64 1, .int .i64 6, .int .u32 0, .int .i64 1, .int .i64 7, .int .u32 0] T (0, 0))) : RowE w (.slice (some ⟨g, 0, none⟩) 3 3) ev3 := by
  refine ⟨_, _, rfl, fun j hj => ⟨g, 0, rfl, ?_⟩⟩
  have hj : j = 0 ∨ j = 1 ∨ j = 2 := by simp [ev3] at hj; omega
  rcases hj with rfl | rfl | rfl
  · exact ⟨blk_cell h 0, blk_cell h 1, blk_cell h 2⟩
  · exact ⟨blk_cell h 3, blk_cell h 4, blk_cell h 5⟩
  · exact ⟨blk_cell h 6, blk_cell h 7, blk_cell h 8⟩
theorem ev3_wf : WfE ev3 := by
  intro e he
  simp [ev3] at he
  rcases he with rfl | rfl | rfl <;> decide
def aw3 : List Rn := [⟨1, 5, 1, 3, 0⟩]
theorem aw3_text : (⟨(textB aw3).toArray⟩ : ByteArray) = ⟨#[108, 111, 97, 100, 32, 53, 32, 49, 32, 51, 32, 48, 10]⟩ := by decide +kernel
theorem aw3_wf : WfN aw3 := by
  intro r hr
  obtain rfl := List.mem_singleton.1 hr
  decide
set_option maxHeartbeats 2000000 in
theorem awake44_c (w : World) : Calls Tryd.prog 6 #[] w fun e w' => e = .returned (.bool true) ∧ Below w.heap.size w w' := by
  go_enter Tryd.func6, Tryd.ntmps6
  have hR : ∀ (W : World) g, W.heap[g]? = some (.cells #[.int .i64 1, .int .i64 5, .int .u32 0, .int .i64 1, .int .i64 6, .int .u32 0, .int .i64 1, .int .i64 7, .int .u32 0] 28 (0, 0)) → Calls Tryd.prog 14 #[.slice (some ⟨g, 0, none⟩) 3 3] W fun e w' => (∃ ao cap, e = .returned (.slice ao 1 cap) ∧ RowN w' (.slice ao 1 cap) aw3) ∧ Below W.heap.size W w' := fun W g h => by
    refine (Runs_c ev3 _ W (ev3_row W g _ h) ev3_wf (by decide)).mono ?_
    rw [ev3_runs]
    rintro e w' ⟨⟨ao, cap, rfl, ho⟩, hb⟩
    exact ⟨⟨ao, cap, rfl, RowN.ofOwn (rs := aw3) ho⟩, hb⟩
  have hT : ∀ (W : World) v, RowN W v aw3 → Calls Tryd.prog 13 #[v] W fun e w' => e = .returned (.string ⟨#[108, 111, 97, 100, 32, 53, 32, 49, 32, 51, 32, 48, 10]⟩) ∧ Below W.heap.size W w' := fun W v h => by
    have := Text_c aw3 v W h (by decide) aw3_wf (fun r hr => by
      obtain rfl := List.mem_singleton.1 hr
      exact ⟨itoa_small_ok W 5 (by decide), itoa_small_ok W 1 (by decide), itoa_small_ok W 3 (by decide), itoa_small_ok W 0 (by decide)⟩)
    rw [aw3_text] at this
    exact this
  have hE : ∀ (W : World) v, RowN W v aw3 → Calls Tryd.prog 16 #[v] W fun e w' => (∃ ao cap, e = .returned (.slice ao 3 cap)) ∧ Below W.heap.size W w' := fun W v h => by
    refine (Expand_c aw3 v W h (by decide) (by decide) (by decide)).mono ?_
    rintro e w' ⟨⟨ao, cap, rfl, ho⟩, hb⟩
    exact ⟨⟨ao, cap, by rw [expL_length]; rfl⟩, hb⟩
  go_upto_region 1 with fail
  go_upto_region 2 with (go_at_call 14; refine (hR _ _ (blk_new _ _)).mono ?_; rintro e w1 ⟨⟨ao, cap, rfl, hrow⟩, hb1⟩; replace hb1 := bl_call hb1 ((Below.refl _ _).alloc (Nat.le_refl _) _))
  go_wp2_with (first | (go_at_call 13; refine (hT _ _ hrow).mono ?_; rintro e w2 ⟨rfl, hb2⟩; replace hrow := hrow.grow hb2; replace hb1 := bl_call hb2 hb1) | (go_at_call 16; refine (hE _ _ hrow).mono ?_; rintro e w3 ⟨⟨ao3, cap3, rfl⟩, hb3⟩; replace hb1 := bl_call hb3 hb1))
  exact bodyPost_ret (v := .bool true) (by simp [results, Tryd.results6, go_sem]) rfl ⟨rfl, hb1⟩
end Go.Proofs.YtcophjjjkonpjaaDoor

/- Contracts of ct's log: NewLog, note, Release. -/
import Derived.Test.YthnackakgglhbaaGreatOw
namespace Go.Proofs.YthnackakgglhbaaGreat
open Go.RowKit
set_option maxRecDepth 100000
set_option linter.unusedSimpArgs false
set_option linter.unusedVariables false
attribute [local go_sem] evR_tmp evR_const evR_global evR_func
theorem note_nil_c (k a v : Int) (w : World) : Calls Tryz.prog 73 #[.pointer none, .int .i64 k, .int .i64 a, .int .u32 v] w fun e w' => e = .returned (.tuple #[]) ∧ w' = w := by
  go_enter Tryz.func73, Tryz.ntmps73
  go_wp2
  exact bodyPost_end (v := .tuple #[]) (by simp [results, Tryz.results73, go_sem]) rfl ⟨rfl, rfl⟩
/-- An event's cells. -/
def evc (k a v : Int) : List Value := [.int .i64 k, .int .i64 a, .int .u32 v]
theorem note_c (k a v : Int) (w : World) (gl base n : Nat) (sv : Value) (vs : List Value) (hk : w.heap[gl]? = some (.cells #[sv] 130 (0, 0))) (hO : w.ownsRow base 132 3 sv n vs) (hbase : base ≤ w.heap.size) (hn : n ≤ 1000000) (hgl : sv.ownBlock ≠ some gl) :
    Calls Tryz.prog 73 #[.pointer (some ⟨gl, 0, none⟩), .int .i64 k, .int .i64 a, .int .u32 v] w fun e w' => e = .returned (.tuple #[]) ∧ ∃ sv', w'.heap[gl]? = some (.cells #[sv'] 130 (0, 0)) ∧ w'.ownsRow base 132 3 sv' (n + 1) (vs ++ evc k a v) ∧ sv'.ownBlock ≠ some gl ∧
      (∀ g, sv'.ownBlock = some g → sv.ownBlock = some g ∨ w.heap.size ≤ g) ∧ w'.os = w.os ∧ w'.tape = w.tape ∧ w'.output = w.output ∧ w.heap.size ≤ w'.heap.size ∧ ∀ b, b < w.heap.size → b ≠ gl → sv.ownBlock ≠ some b → w'.heap[b]? = w.heap[b]? := by
  have c0 := blk_cell hk 0
  have q0 := blk_lt hk
  obtain ⟨i, hi, hz0, hz1, hz2⟩ := info_parts (P := Tryz.prog) (e := 132) (z := .agg #[.int .i64 0, .int .i64 0, .int .u32 0]) (size := 3) (bytes := 24) (by kernel_rfl)
  go_enter Tryz.func73, Tryz.ntmps73
  go_wp2_with (first | (refine wpList_append_lies _ rfl _ _ 128 rfl base 132 i _ 3 24 Tryz.underlying128 hi hz0 hz1 hz2 rfl (by omega) sv n vs rfl (hO.alloc _) ⟨w.heap.size, 0, none⟩ 1 1 (evc k a v) rfl rfl (World.news_of_block (blk_new _ _)) (by simp [evc, Value.oneCell']) (by omega) (by simp only [maxLen]; omega) (by omega) (by simp; omega) _ rfl ?_; intro g cap w2 hO2 hg2 hsv hlt; (have kg : w2.heap[gl]? = some (.cells #[sv] 130 (0, 0)) := grown_blk hg2 (blk_alloc hk _) hgl); have cg := blk_cell kg 0; have fg := blk_frozen kg 0))
  have hne : g ≠ gl := by
    rcases hsv with q | q
    · intro z; exact hgl (by rw [q, z])
    · simp at q; omega
  refine bodyPost_end (v := .tuple #[]) (by simp [results, Tryz.results73, go_sem]) rfl ⟨rfl, .slice (some ⟨g, 0, none⟩) (n + 1) cap, by simpa using blk_set kg 0 _, ?_, ?_, ?_, hg2.os, hg2.tape, hg2.output, ?_, fun b hb hb1 hb2 => ?_⟩
  · exact ownsRow_block hO2 fun g' hg' => Below.heap_setCell _ _ _ _ (by
      have : g = g' := by simpa [Value.ownBlock] using hg'
      show g' ≠ gl
      omega)
  · intro z
    have : g = gl := by simpa [Value.ownBlock] using z
    exact hne this
  · intro g' hg'
    have : g = g' := by simpa [Value.ownBlock] using hg'
    subst this
    rcases hsv with q | q
    · exact .inl q
    · right; simp at q; omega
  · have := hg2.size
    simp [World.setCell] at this ⊢
    omega
  · rw [Below.heap_setCell _ _ _ _ (show b ≠ gl from hb1), hg2.block b (by simp; omega) fun z => hb2 z.symm]
    exact heap_alloc_old w _ hb
/-- A word told to no log, or to a fresh one. -/
theorem Release_nil_c (x : W32) (w : World) : Calls Tryz.prog 49 #[.pointer none, .agg #[.int .u32 (iw x)]] w fun e w' => e = .returned (.int .u32 (iw x)) ∧ Below w.heap.size w w' := by
  go_enter Tryz.func49, Tryz.ntmps49
  go_wp2_with (go_at_call 73; refine (note_nil_c _ _ _ _).mono ?_; rintro e w' ⟨rfl, rfl⟩)
  exact bodyPost_ret (v := .int .u32 (iw x)) (by simp [results, Tryz.results49, go_sem]) rfl ⟨rfl, by (repeat (first | exact Below.refl _ _ | (refine bl_alloc ?_ _) | (refine bl_drewN ?_ _) | (refine bl_drew ?_) | (refine bl_call (by assumption) ?_) | (refine bl_set _ _ (by simp <;> omega) ?_) | assumption))⟩
theorem Release_new_c (x : W32) (g B : Nat) (w : World) (hg : w.heap[g]? = some (.cells #[.slice none 0 0] 130 (0, 0))) (hB : B ≤ g) : Calls Tryz.prog 49 #[.pointer (some ⟨g, 0, none⟩), .agg #[.int .u32 (iw x)]] w fun e w' => e = .returned (.int .u32 (iw x)) ∧ Below B w w' ∧ ∀ b, b < w.heap.size → b ≠ g → w'.heap[b]? = w.heap[b]? := by
  have q := blk_lt hg
  go_enter Tryz.func49, Tryz.ntmps49
  go_wp2_with (go_at_call 73; refine (note_c _ _ _ _ g 0 0 (.slice none 0 0) [] (blk_alloc hg _) (World.ownsRow_nil _ _ _ _) (by omega) (by omega) (by simp [Value.ownBlock])).mono ?_; rintro e w' ⟨rfl, sv', k1, k2, k3, k4, k5, k6, k7, k8, k9⟩; (have c3 : w'.cell? ⟨w.heap.size, 0, none⟩ = some (.int .u32 (iw x)) := (cell_of_block (k9 w.heap.size (by simp) (by omega) (by simp [Value.ownBlock]))).trans (blk_cell (blk_new w _) 0)))
  have far : ∀ b, b < w.heap.size → b ≠ g → w'.heap[b]? = w.heap[b]? := fun b hb h => (k9 b (by simp; omega) h (by simp [Value.ownBlock])).trans (heap_alloc_old w _ hb)
  exact bodyPost_ret (v := .int .u32 (iw x)) (by simp [results, Tryz.results49, go_sem]) rfl ⟨rfl, ⟨k5, k6, k7, by simp at k8; omega, fun b hb => far b (by omega) (by omega)⟩, far⟩
end Go.Proofs.YthnackakgglhbaaGreat

/- Contracts of strings.Builder's writing, of a builder that was written; of base64.Size. -/
import Derived.Test.YtjigckibbjfkmaaGreatDoorGb
import Derived.Lib.Builder
namespace Go.Proofs.YtjigckibbjfkmaaGreatDoor
open Go.RowKit
set_option maxRecDepth 100000
set_option linter.unusedSimpArgs false
set_option linter.unusedVariables false
abbrev usedB (b : Nat) : Value := .pointer (some ⟨b, 0, none⟩)
/-- A builder that was written, at block b. -/
abbrev BuiltB (B b : Nat) (bs : List UInt8) (w : World) : Prop := Lib.BuilderAt 51 5 B b (usedB b) (bs.map bv) w
theorem copyCheck_c (B b : Nat) (bs : List UInt8) (w : World) (h : BuiltB B b bs w) : Calls Tryz.prog 63 #[.pointer (some ⟨b, 0, none⟩)] w fun e w' => e = .returned (.tuple #[]) ∧ w' = w := by
  have c0 : w.cell? ⟨b, 0, none⟩ = some (.pointer (some ⟨b, 0, none⟩)) := h.cell0
  go_enter Tryz.func63, Tryz.ntmps63
  obtain ⟨j, hj, _⟩ := Option.map_eq_some_iff.1 (show (Tryz.prog.info? 51).map (·.size) = some 2 by kernel_rfl)
  go_wp2
  rw [Lib.run_neq_ptr_same w _ Tryz.underlying48 hj]
  go_wp2
  go_end0
  exact ⟨rfl, rfl⟩
set_option maxHeartbeats 2000000 in
theorem WriteByte_c (B b : Nat) (bs : List UInt8) (c : UInt8) (w : World) (h : BuiltB B b bs w) (hn : bs.length ≤ 1000000) (hB : B ≤ w.heap.size) : Calls Tryz.prog 69 #[.pointer (some ⟨b, 0, none⟩), .int .u8 (c.toNat : Int)] w fun e w' => e = .returned .nilIface ∧ BuiltB B b (bs ++ [c]) w' ∧ Below B w w' := by
  have hC := copyCheck_c B b bs w h
  have hlt := h.lt
  obtain ⟨hBb, v, hb, hO, hv⟩ := h
  have c1 : w.cell? ⟨b, 1, none⟩ = some v := blk_cell hb 1
  have f1 : w.frozen? ⟨b, 1, none⟩ = false := blk_frozen hb 1
  have hl : (bs.map bv).length = bs.length := by simp
  rw [hl] at hO
  go_enter Tryz.func69, Tryz.ntmps69
  go_wp2_with (first | (go_at_call 63; refine hC.mono ?_; rintro e w1 ⟨rfl, rfl⟩) | (refine wpList_app1 rfl _ _ 49 rfl B 5 (.int .u8 0) 1 Tryz.underlying49 (by kernel_rfl) rfl (by decide) v bs.length _ rfl (ownsRow_block hO fun g hg => heap_alloc_old w1 _ (ownsRow_lt hO hg).2) w1.heap.size 1 (.int .u8 (c.toNat : Int)) rfl (blk_cell (blk_new w1 _) 0) rfl (by omega) (by simp; omega) ?_; intro g4 cap4 w4 hO4 hg4 hsv4 hlt4; have k4 := grown_blk hg4 (blk_alloc hb _) hv; have c4 : w4.cell? ⟨b, 1, none⟩ = some v := blk_cell k4 1; have f4 : w4.frozen? ⟨b, 1, none⟩ = false := blk_frozen k4 1))
  have HB : Below B w1 w4 := Below.grown ((Below.refl B w1).alloc hB _) hg4 (by simp; omega) fun g hg => (ownsRow_lt hO hg).1
  refine bodyPost_ret (v := .nilIface) (by simp [results, Tryz.results69, go_sem]) rfl ⟨rfl, ?_, HB.setCell (p := ⟨b, 1, none⟩) hBb _⟩
  refine Lib.BuilderAt.put hBb k4 ?_ (by decide)
  have e : (bs ++ [c]).map bv = bs.map bv ++ [.int .u8 (c.toNat : Int)] := by simp [bv]
  rw [e]
  have e2 : (bs.map bv ++ [Value.int .u8 (c.toNat : Int)]).length = bs.length + 1 := by simp
  rw [e2]
  exact hO4
/-- How many signs. -/
def sizeB (n : Int) : Int := if n < 0 ∨ 1073741824 < n then 0 else (n + 2) / 3 * 4
theorem Size_c (n : Int) (w : World) : Calls Tryz.prog 68 #[.int .i64 n] w fun e w' => e = .returned (.int .i64 (sizeB n)) ∧ w' = w := by
  by_cases h0 : n < 0
  · have e : sizeB n = 0 := by simp [sizeB, h0]
    rw [e]
    go_enter Tryz.func68, Tryz.ntmps68
    go_wp2
    exact bodyPost_ret (v := .int .i64 0) (by simp [results, Tryz.results68, go_sem]) rfl ⟨rfl, rfl⟩
  by_cases h1 : 1073741824 < n
  · have e : sizeB n = 0 := by simp [sizeB, h1]
    rw [e]
    go_enter Tryz.func68, Tryz.ntmps68
    go_wp2
    exact bodyPost_ret (v := .int .i64 0) (by simp [results, Tryz.results68, go_sem]) rfl ⟨rfl, rfl⟩
  · have e : sizeB n = (n + 3 - 1) / 3 * 4 := by simp only [sizeB]; rw [if_neg (by omega)]; omega
    rw [e]
    go_enter Tryz.func68, Tryz.ntmps68
    go_wp2
    exact bodyPost_ret (v := .int .i64 ((n + 3 - 1) / 3 * 4)) (by simp [results, Tryz.results68, go_sem]) rfl ⟨rfl, rfl⟩
end Go.Proofs.YtjigckibbjfkmaaGreatDoor

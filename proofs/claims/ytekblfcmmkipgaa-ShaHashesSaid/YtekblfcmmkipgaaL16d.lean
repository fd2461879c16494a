/- The law ShaHashes, of any bytes. -/
import Derived.Test.YtekblfcmmkipgaaL16c
import Derived.Test.YtekblfcmmkipgaaOpenB
namespace Go.Proofs.Ytekblfcmmkipgaa
open Go.RowKit Go.ChangeShapes
set_option maxRecDepth 100000
set_option linter.unusedSimpArgs false
set_option linter.unusedVariables false
theorem ShaHashes_big (bs : List UInt8) (sv : Value) (a b : Int) (w : World) (hb : RowB w sv bs) (hn : 200 < bs.length) (hm : bs.length ≤ maxLen) : Calls Try.prog 8 #[sv, .int .u32 a, .int .u32 b] w fun e w' => e = .returned (.bool true) ∧ Below w.heap.size w w' := by
  obtain ⟨ao, cap, rfl, hno, hcc⟩ := hb
  unfold maxLen at hm
  have hn' : (200 : Int) < (bs.length : Int) := by omega
  go_enter Try.func8, Try.ntmps8
  go_wp2_with (go_at_call 24; refine (awake16_c _).mono ?_; rintro e w1 ⟨rfl, HB0⟩)
  exact bodyPost_ret (v := .bool true) (by simp [results, Try.results8, go_sem]) rfl ⟨rfl, HB0⟩
theorem ShaHashes_all (bs : List UInt8) (sv : Value) (a b : Int) (w : World) (hb : RowB w sv bs) (hl : ∀ ao len cap, sv = .slice ao len cap → len ≤ cap) (hm : bs.length ≤ maxLen) (ha : (Lit.int .u32 a).wf = true) (hb2 : (Lit.int .u32 b).wf = true) :
    Calls Try.prog 8 #[sv, .int .u32 a, .int .u32 b] w fun e w' => e = .returned (.bool true) ∧ Below w.heap.size w w' := by
  by_cases hn : bs.length ≤ 200
  · have h1 := bounds_u32 ha
    have h2 := bounds_u32 hb2
    rw [of_iw a (by omega) (by omega), of_iw b (by omega) (by omega)]
    exact ShaHashes_c bs sv _ _ w hb hl hn
  · exact ShaHashes_big bs sv a b w hb (by omega) hm
end Go.Proofs.Ytekblfcmmkipgaa

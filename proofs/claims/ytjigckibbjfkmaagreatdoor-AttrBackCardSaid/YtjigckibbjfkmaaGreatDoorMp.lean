/- Contracts of params.Salt, Iter and of their reference, for messages. -/
import Derived.Test.YtjigckibbjfkmaaGreatDoorGb
namespace Go.Proofs.YtjigckibbjfkmaaGreatDoor
open Go.RowKit
set_option maxRecDepth 100000
set_option linter.unusedSimpArgs false
set_option linter.unusedVariables false
/-- 0 where it may be, else the error. -/
def eo (b : Bool) (e : Int) : Int := if b = true then 0 else e
theorem when_c (b : Bool) (e : Int) (w : World) : Calls Tryz.prog 51 #[.bool b, .int .i64 e] w fun x w' => x = .returned (.int .i64 (eo (!b) e)) ∧ w' = w := by
  go_enter Tryz.func51, Tryz.ntmps51
  cases b
  · go_wp2
    go_ret
    exact ⟨rfl, rfl⟩
  · go_wp2
    go_ret
    exact ⟨rfl, rfl⟩
def inside (lo n hi : Int) : Bool := decide (lo ≤ n ∧ n ≤ hi)
theorem Iter_c (n : Int) (w : World) : Calls Tryz.prog 30 #[.int .i64 n] w fun x w' => x = .returned (.int .i64 (eo (inside 1 n 16777216) 7)) ∧ w' = w := by
  go_enter Tryz.func30, Tryz.ntmps30
  by_cases h : n < 1
  · go_wp2_with (go_at_call 51; refine (when_c _ _ _).mono ?_; rintro e w' ⟨rfl, rfl⟩)
    go_ret
    exact ⟨by (simp [eo, inside]; try omega), rfl⟩
  · go_wp2_with (go_at_call 51; refine (when_c _ _ _).mono ?_; rintro e w' ⟨rfl, rfl⟩)
    go_ret
    exact ⟨by (simp [eo, inside]; try omega), rfl⟩
theorem rIter_c (n : Int) (w : World) : Calls Tryz.prog 25 #[.int .i64 n] w fun x w' => x = .returned (.bool (inside 1 n 16777216)) ∧ w' = w := by
  go_enter Tryz.func25, Tryz.ntmps25
  by_cases h : 1 ≤ n
  · go_wp2
    go_ret
    exact ⟨by (simp [inside]; try omega), rfl⟩
  · go_wp2
    go_ret
    exact ⟨by (simp [inside]; try omega), rfl⟩
theorem Salt_c (s : ByteArray) (w : World) : Calls Tryz.prog 29 #[.string s] w fun x w' => x = .returned (.int .i64 (eo (inside 1 (s.size : Int) 64) 6)) ∧ w' = w := by
  go_enter Tryz.func29, Tryz.ntmps29
  by_cases h : (s.size : Int) < 1
  · go_wp2_with (go_at_call 51; refine (when_c _ _ _).mono ?_; rintro e w' ⟨rfl, rfl⟩)
    go_ret
    exact ⟨by (simp [eo, inside]; try omega), rfl⟩
  · go_wp2_with (go_at_call 51; refine (when_c _ _ _).mono ?_; rintro e w' ⟨rfl, rfl⟩)
    go_ret
    exact ⟨by (simp [eo, inside]; try omega), rfl⟩
theorem rSalt_c (s : ByteArray) (w : World) : Calls Tryz.prog 24 #[.string s] w fun x w' => x = .returned (.bool (inside 1 (s.size : Int) 64)) ∧ w' = w := by
  go_enter Tryz.func24, Tryz.ntmps24
  by_cases h : 1 ≤ (s.size : Int)
  · go_wp2
    go_ret
    exact ⟨by (simp [inside]; try omega), rfl⟩
  · go_wp2
    go_ret
    exact ⟨by (simp [inside]; try omega), rfl⟩
end Go.Proofs.YtjigckibbjfkmaaGreatDoor

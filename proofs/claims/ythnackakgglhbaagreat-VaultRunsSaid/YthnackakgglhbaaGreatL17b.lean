/- The law HmacSums. -/
import Derived.Test.YthnackakgglhbaaGreatL17a
import Derived.Test.YthnackakgglhbaaGreatOpenB
namespace Go.Proofs.YthnackakgglhbaaGreat
open Go.RowKit Go.Lib
set_option maxRecDepth 100000
set_option linter.unusedSimpArgs false
set_option linter.unusedVariables false
attribute [local go_sem] evR_tmp evR_const evR_global evR_func
theorem run_conv_rowBR {R : Nat → Value} {o : Oper} {w : World} {x : Operand} {sv : Value} {bs : List UInt8} (ho : o.op = .convert 36 9 x) (hx : evR R x = sv) (hr : RowB w sv bs) : (execOp (evR R) o).run Tryz.prog w = .ok (.value (.string ⟨bs.toArray⟩)) w := by
  obtain ⟨ao, cap, rfl, hno, hcc⟩ := hr
  have h1 : (convert 36 9 (.slice ao bs.length cap)).run Tryz.prog w = .ok (.string ⟨bs.toArray⟩) w := by
    cases ao with
    | none =>
      obtain ⟨rfl, rfl⟩ := hno rfl
      exact run_convert_bytes_nil w _ 5 Tryz.underlying36 Tryz.underlying5 0 0 _ Tryz.underlying9
    | some a =>
      refine run_convert_bytes_back w _ _ 5 a cap bs Tryz.underlying36 Tryz.underlying5 Tryz.underlying9 fun j hj => ?_
      obtain ⟨g, off, e, hc⟩ := hcc j hj
      cases e
      rw [Addr.add_lit]
      exact hc
  unfold execOp
  simp only [ho, hx, Sem.run_bind, h1, Result.andThen_ok]
  rfl
end Go.Proofs.YthnackakgglhbaaGreat

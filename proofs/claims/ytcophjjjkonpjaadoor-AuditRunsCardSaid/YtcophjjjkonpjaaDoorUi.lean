/- For the rows of AuditReads and AuditRuns: what a world holds; a row's wrap with the world's shape and with what is laid. -/
import Derived.Test.YtcophjjjkonpjaaDoorUh
import Derived.Stop.LaidErr
import Derived.ProofKit
import Derived.Test.YtcophjjjkonpjaaDoorRows
import Derived.HandedShaped
import Derived.Handed
import Derived.LaidSub
import Derived.LaidMore
import Derived.MakeChecks
import Derived.Lib.LaidTab
import Derived.Lib.SmallJoins
import Derived.Deep.Fields
import Derived.WideShapes
import Derived.ChangeArms
namespace Go
variable {H : Type} {enc : TypeId × Value → H}
theorem returnsInHanded_and_shaped {a : Assume} {C : Checked} {os : Os} {f : FuncId} {fn : Func} {s : ChangeSpec} {conds : List PathCond} {apart fresh handsOn again : Bool} {X : World → Array Value → Prop}
    (hX : ∀ (w w' : World) (args : Array Value), w.heap = w'.heap → X w args → X w' args)
    (own : ownKnob C.prog.godebug = none) (started : os.Started) (noInit : C.prog.inits.idxOf? f = none) (hfn : C.prog.funcs[f]? = some fn)
    (witness : ∃ (w : World) (tape : Tape) (i : Input), w.os = os ∧ (w.forCall tape i).Shaped C.prog ∧ i.vars = [] ∧ Input.okWide C.prog (w.forCall tape i) .any w.heap.size f i ∧
      ((s.pre enc C.prog fn conds apart (w.forCall tape i).memory i.args ∧ X (w.forCall tape i).memory i.args) ∧ sizedMet enc C.prog fn (OpenSpec.ofChange s) apart (w.forCall tape i).memory i.args) ∧ a.holds C.prog (lone (Frame.enter C.prog f i.args .normal) [] (w.forCall tape i)))
    (contract : ∀ (W : World) (base : Nat) (args : Array Value) (ds gs : List (DataW H)) (before : List MemPlace),
      (∀ (j : Nat) t v, fn.params[j]? = some t → args[j]? = some v → Value.okWide C.prog W .any base t v) →
      DataW.Whole enc C.prog fn.params.toList s.vars apart W args.toList ds gs before →
      conds.all (PathCond.test C.prog ⟨fn.params.toList, ds, s.plain.varTypes C.prog, gs⟩) = true →
      (DataW.weightsEach C.prog (fn.params.toList ++ s.plain.varTypes C.prog) (ds ++ gs)).all (· ≤ reachBytes) = true → X W args → W.ShapedOpen C.prog →
      a.holds C.prog (lone (Frame.enter C.prog f args .normal) [] W) →
      Calls C.prog f args W fun e W' => ∃ v, e = .returned v ∧ s.post enc C.prog fn apart fresh handsOn again W args v W') :
    ReturnsInHanded a C os f .any (fun w args => (s.pre enc C.prog fn conds apart w args ∧ X w args) ∧ sizedMet enc C.prog fn (OpenSpec.ofChange s) apart w args) (s.post enc C.prog fn apart fresh handsOn again) := by
  refine returnsInHanded_of_calls own started noInit witness ?_
  intro w tape i _ hsh _ hok hpre hholds
  obtain ⟨_, _, _, fn', hfn', _, _, _, _, hval⟩ := hok
  have e : fn' = fn := Option.some.inj (hfn'.symm.trans hfn)
  subst e
  obtain ⟨⟨⟨ds, gs, before, hw, hc⟩, hx⟩, hz⟩ := hpre
  have hw' := DataW.Whole.of_heap (w' := w.forCall tape i) (by rfl) hw
  refine (contract (w.forCall tape i) w.heap.size i.args ds gs before hval hw' hc (hz.weights hw) (hX _ _ _ (by rfl) hx) hsh hholds).mono fun e W' ⟨v, he, hp⟩ => ?_
  subst he
  exact ChangeSpec.post_blind hp
end Go
namespace Go.Proofs.YtcophjjjkonpjaaDoor
open Go Go.RowKit Go.WideShapes
set_option maxRecDepth 100000
set_option linter.unusedSimpArgs false
set_option linter.unusedVariables false
theorem tabP_ofA {W : World} (h : laidMetH Tryd.prog Rows.auditReadsRow.laid W) : TabP W := by
  have h2 := laidMetH.filter (fun x => x.1 == "internal/strconv.uint64pow10") h
  rw [MakeChecks.laidMetH_plain _ _ _ (by kernel_rfl)] at h2
  have e : (Rows.auditReadsRow.laid.filter fun x => x.1 == "internal/strconv.uint64pow10") = [("internal/strconv.uint64pow10", Lib.tabData .u64 Lib.pow10Tab)] := by rfl
  rw [e] at h2
  first
    | exact Lib.tabIs_of_head (g := 0) (t := 103) (e := 75) (n := 20) (by decide +kernel) (by kernel_rfl) (by kernel_rfl) (by kernel_rfl) (by kernel_rfl) (by kernel_rfl) h2
    | exact Lib.tabIs_of_head (g := 1) (t := 103) (e := 75) (n := 20) (by decide +kernel) (by kernel_rfl) (by kernel_rfl) (by kernel_rfl) (by kernel_rfl) (by kernel_rfl) h2
    | exact Lib.tabIs_of_head (g := 2) (t := 103) (e := 75) (n := 20) (by decide +kernel) (by kernel_rfl) (by kernel_rfl) (by kernel_rfl) (by kernel_rfl) (by kernel_rfl) h2
    | exact Lib.tabIs_of_head (g := 3) (t := 103) (e := 75) (n := 20) (by decide +kernel) (by kernel_rfl) (by kernel_rfl) (by kernel_rfl) (by kernel_rfl) (by kernel_rfl) h2
    | exact Lib.tabIs_of_head (g := 4) (t := 103) (e := 75) (n := 20) (by decide +kernel) (by kernel_rfl) (by kernel_rfl) (by kernel_rfl) (by kernel_rfl) (by kernel_rfl) h2
    | exact Lib.tabIs_of_head (g := 5) (t := 103) (e := 75) (n := 20) (by decide +kernel) (by kernel_rfl) (by kernel_rfl) (by kernel_rfl) (by kernel_rfl) (by kernel_rfl) h2
    | exact Lib.tabIs_of_head (g := 6) (t := 103) (e := 75) (n := 20) (by decide +kernel) (by kernel_rfl) (by kernel_rfl) (by kernel_rfl) (by kernel_rfl) (by kernel_rfl) h2
    | exact Lib.tabIs_of_head (g := 7) (t := 103) (e := 75) (n := 20) (by decide +kernel) (by kernel_rfl) (by kernel_rfl) (by kernel_rfl) (by kernel_rfl) (by kernel_rfl) h2
    | exact Lib.tabIs_of_head (g := 8) (t := 103) (e := 75) (n := 20) (by decide +kernel) (by kernel_rfl) (by kernel_rfl) (by kernel_rfl) (by kernel_rfl) (by kernel_rfl) h2
theorem tabP_ofB {W : World} (h : laidMetH Tryd.prog Rows.auditRunsRow.laid W) : TabP W := by
  have h2 := laidMetH.filter (fun x => x.1 == "internal/strconv.uint64pow10") h
  rw [MakeChecks.laidMetH_plain _ _ _ (by kernel_rfl)] at h2
  have e : (Rows.auditRunsRow.laid.filter fun x => x.1 == "internal/strconv.uint64pow10") = [("internal/strconv.uint64pow10", Lib.tabData .u64 Lib.pow10Tab)] := by rfl
  rw [e] at h2
  first
    | exact Lib.tabIs_of_head (g := 0) (t := 103) (e := 75) (n := 20) (by decide +kernel) (by kernel_rfl) (by kernel_rfl) (by kernel_rfl) (by kernel_rfl) (by kernel_rfl) h2
    | exact Lib.tabIs_of_head (g := 1) (t := 103) (e := 75) (n := 20) (by decide +kernel) (by kernel_rfl) (by kernel_rfl) (by kernel_rfl) (by kernel_rfl) (by kernel_rfl) h2
    | exact Lib.tabIs_of_head (g := 2) (t := 103) (e := 75) (n := 20) (by decide +kernel) (by kernel_rfl) (by kernel_rfl) (by kernel_rfl) (by kernel_rfl) (by kernel_rfl) h2
    | exact Lib.tabIs_of_head (g := 3) (t := 103) (e := 75) (n := 20) (by decide +kernel) (by kernel_rfl) (by kernel_rfl) (by kernel_rfl) (by kernel_rfl) (by kernel_rfl) h2
    | exact Lib.tabIs_of_head (g := 4) (t := 103) (e := 75) (n := 20) (by decide +kernel) (by kernel_rfl) (by kernel_rfl) (by kernel_rfl) (by kernel_rfl) (by kernel_rfl) h2
    | exact Lib.tabIs_of_head (g := 5) (t := 103) (e := 75) (n := 20) (by decide +kernel) (by kernel_rfl) (by kernel_rfl) (by kernel_rfl) (by kernel_rfl) (by kernel_rfl) h2
    | exact Lib.tabIs_of_head (g := 6) (t := 103) (e := 75) (n := 20) (by decide +kernel) (by kernel_rfl) (by kernel_rfl) (by kernel_rfl) (by kernel_rfl) (by kernel_rfl) h2
    | exact Lib.tabIs_of_head (g := 7) (t := 103) (e := 75) (n := 20) (by decide +kernel) (by kernel_rfl) (by kernel_rfl) (by kernel_rfl) (by kernel_rfl) (by kernel_rfl) h2
    | exact Lib.tabIs_of_head (g := 8) (t := 103) (e := 75) (n := 20) (by decide +kernel) (by kernel_rfl) (by kernel_rfl) (by kernel_rfl) (by kernel_rfl) (by kernel_rfl) h2
theorem star_err : "*" ++ "errors.errorString" = "*errors.errorString" := by decide
theorem row_err (u : TypeId) (h : Tryd.prog.typeName? 3 u = some "*errors.errorString") : u = 119 :=
  typeName_ptr_named (nm := "errors.errorString") (by rw [star_err]; kernel_rfl) (by kernel_rfl) (by decide) u (by rw [star_err]; exact h)
theorem errSA {W : World} (h : laidMetH Tryd.prog Rows.auditReadsRow.laid W) : ErrV W "strconv.ErrSyntax" := by
  have h2 := laidMetH.filter (fun x => x.1 == "strconv.ErrSyntax") h
  rw [MakeChecks.laidMetH_plain _ _ _ (by kernel_rfl)] at h2
  have e : (Rows.auditReadsRow.laid.filter fun x => x.1 == "strconv.ErrSyntax") = [("strconv.ErrSyntax", Rows.laid_strconv_ErrSyntax)] := by rfl
  rw [e] at h2
  unfold Rows.laid_strconv_ErrSyntax at h2
  obtain ⟨a, s, hv, _⟩ := Go.laid_sentinel h2 (g := 2) (ti := 62) (tp := 119) (te := 121) (ts := 9) (by kernel_rfl) (by kernel_rfl) Tryd.underlying62 row_err Tryd.underlying119 Tryd.underlying121 rfl rfl Tryd.underlying9 (by kernel_rfl) (by kernel_rfl)
  exact ⟨_, _, hv⟩
theorem errRA {W : World} (h : laidMetH Tryd.prog Rows.auditReadsRow.laid W) : ErrV W "strconv.ErrRange" := by
  have h2 := laidMetH.filter (fun x => x.1 == "strconv.ErrRange") h
  rw [MakeChecks.laidMetH_plain _ _ _ (by kernel_rfl)] at h2
  have e : (Rows.auditReadsRow.laid.filter fun x => x.1 == "strconv.ErrRange") = [("strconv.ErrRange", Rows.laid_strconv_ErrRange)] := by rfl
  rw [e] at h2
  unfold Rows.laid_strconv_ErrRange at h2
  obtain ⟨a, s, hv, _⟩ := Go.laid_sentinel h2 (g := 3) (ti := 62) (tp := 119) (te := 121) (ts := 9) (by kernel_rfl) (by kernel_rfl) Tryd.underlying62 row_err Tryd.underlying119 Tryd.underlying121 rfl rfl Tryd.underlying9 (by kernel_rfl) (by kernel_rfl)
  exact ⟨_, _, hv⟩
theorem errSB {W : World} (h : laidMetH Tryd.prog Rows.auditRunsRow.laid W) : ErrV W "strconv.ErrSyntax" := by
  have h2 := laidMetH.filter (fun x => x.1 == "strconv.ErrSyntax") h
  rw [MakeChecks.laidMetH_plain _ _ _ (by kernel_rfl)] at h2
  have e : (Rows.auditRunsRow.laid.filter fun x => x.1 == "strconv.ErrSyntax") = [("strconv.ErrSyntax", Rows.laid_strconv_ErrSyntax)] := by rfl
  rw [e] at h2
  unfold Rows.laid_strconv_ErrSyntax at h2
  obtain ⟨a, s, hv, _⟩ := Go.laid_sentinel h2 (g := 2) (ti := 62) (tp := 119) (te := 121) (ts := 9) (by kernel_rfl) (by kernel_rfl) Tryd.underlying62 row_err Tryd.underlying119 Tryd.underlying121 rfl rfl Tryd.underlying9 (by kernel_rfl) (by kernel_rfl)
  exact ⟨_, _, hv⟩
theorem errRB {W : World} (h : laidMetH Tryd.prog Rows.auditRunsRow.laid W) : ErrV W "strconv.ErrRange" := by
  have h2 := laidMetH.filter (fun x => x.1 == "strconv.ErrRange") h
  rw [MakeChecks.laidMetH_plain _ _ _ (by kernel_rfl)] at h2
  have e : (Rows.auditRunsRow.laid.filter fun x => x.1 == "strconv.ErrRange") = [("strconv.ErrRange", Rows.laid_strconv_ErrRange)] := by rfl
  rw [e] at h2
  unfold Rows.laid_strconv_ErrRange at h2
  obtain ⟨a, s, hv, _⟩ := Go.laid_sentinel h2 (g := 3) (ti := 62) (tp := 119) (te := 121) (ts := 9) (by kernel_rfl) (by kernel_rfl) Tryd.underlying62 row_err Tryd.underlying119 Tryd.underlying121 rfl rfl Tryd.underlying9 (by kernel_rfl) (by kernel_rfl)
  exact ⟨_, _, hv⟩
theorem envA {W : World} (hL : laidMetH Tryd.prog Rows.auditReadsRow.laid W) (hsh : W.ShapedOpen Tryd.prog) : Env W := ⟨tabP_ofA hL, Tryd.laysM146.s1_3 W hsh, errSA hL, errRA hL⟩
theorem envB {W : World} (hL : laidMetH Tryd.prog Rows.auditRunsRow.laid W) (hsh : W.ShapedOpen Tryd.prog) : Env W := ⟨tabP_ofB hL, Tryd.laysM146.s1_3 W hsh, errSB hL, errRB hL⟩
end Go.Proofs.YtcophjjjkonpjaaDoor

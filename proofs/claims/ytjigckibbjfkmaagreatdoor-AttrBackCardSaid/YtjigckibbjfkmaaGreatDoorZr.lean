/- For the rows of law 33: what a world holds; a message that came in is read; a row's wrap with the world's shape and with what is laid. -/
import Derived.Test.YtjigckibbjfkmaaGreatDoorMa
import Derived.Test.YtjigckibbjfkmaaGreatDoorMc
import Derived.Stop.LaidErr
import Derived.ProofKit
import Derived.Test.YtjigckibbjfkmaaGreatDoorRows
import Derived.HandedShaped
import Derived.Handed
import Derived.LaidSub
import Derived.LaidMore
import Derived.MakeChecks
import Derived.Lib.LaidTab
import Derived.Lib.LaidU8T
import Derived.PinnedBridge
import Derived.Lib.SmallJoins
import Derived.Deep.Fields
import Derived.WideShapes
import Derived.ChangeArms
import Derived.SizedLaws
namespace Go
variable {H : Type} {enc : TypeId × Value → H}
theorem returnsInHanded_and_shaped {a : Assume} {C : Checked} {os : Os} {f : FuncId} {fn : Func} {s : ChangeSpec} {conds : List PathCond} {apart fresh handsOn again : Bool} {X : World → Array Value → Prop}
    (hX : ∀ (w w' : World) (args : Array Value), w.heap = w'.heap → X w args → X w' args)
    (own : ownKnob C.prog.godebug = none) (started : os.Started) (noInit : C.prog.inits.idxOf? f = none) (hfn : C.prog.funcs[f]? = some fn)
    (witness : ∃ (w : World) (tape : Tape) (i : Input), w.os = os ∧ (w.forCall tape i).Shaped C.prog ∧ i.vars = [] ∧ Input.okWide C.prog (w.forCall tape i) .any w.heap.size f i ∧
      ((s.pre enc C.prog fn conds apart (w.forCall tape i).memory i.args ∧ X (w.forCall tape i).memory i.args) ∧ sizedMet enc C.prog fn (OpenSpec.ofChange s) apart (w.forCall tape i).memory i.args) ∧ a.holds C.prog (lone (Frame.enter C.prog f i.args .normal) [] (w.forCall tape i)))
    (contract : ∀ (W : World) (base : Nat) (args : Array Value) (ds gs : List (DataW H)) (before : List MemPlace),
      (∀ (j : Nat) t v, fn.params[j]? = some t → args[j]? = some v → Value.okWide C.prog W .any base t v) →
      DataW.Whole enc C.prog fn.params.toList s.vars apart W args.toList ds gs before →
      conds.all (PathCond.test C.prog ⟨fn.params.toList, ds, s.plain.varTypes C.prog, gs⟩) = true →
      (DataW.weightsEach C.prog (fn.params.toList ++ s.plain.varTypes C.prog) (ds ++ gs)).all (· ≤ reachBytes) = true → X W args → W.ShapedOpen C.prog →
      a.holds C.prog (lone (Frame.enter C.prog f args .normal) [] W) →
      Calls C.prog f args W fun e W' => ∃ v, e = .returned v ∧ s.post enc C.prog fn apart fresh handsOn again W args v W') :
    ReturnsInHanded a C os f .any (fun w args => (s.pre enc C.prog fn conds apart w args ∧ X w args) ∧ sizedMet enc C.prog fn (OpenSpec.ofChange s) apart w args) (s.post enc C.prog fn apart fresh handsOn again) := by
  refine returnsInHanded_of_calls own started noInit witness ?_
  intro w tape i _ hsh _ hok hpre hholds
  obtain ⟨_, _, _, fn', hfn', _, _, _, _, hval⟩ := hok
  have e : fn' = fn := Option.some.inj (hfn'.symm.trans hfn)
  subst e
  obtain ⟨⟨⟨ds, gs, before, hw, hc⟩, hx⟩, hz⟩ := hpre
  have hw' := DataW.Whole.of_heap (w' := w.forCall tape i) (by rfl) hw
  refine (contract (w.forCall tape i) w.heap.size i.args ds gs before hval hw' hc (hz.weights hw) (hX _ _ _ (by rfl) hx) hsh hholds).mono fun e W' ⟨v, he, hp⟩ => ?_
  subst he
  exact ChangeSpec.post_blind hp
end Go
namespace Go.Proofs.YtjigckibbjfkmaaGreatDoor
open Go Go.RowKit Go.WideShapes
set_option maxRecDepth 100000
set_option linter.unusedSimpArgs false
set_option linter.unusedVariables false
theorem array8 {α : Type} {cs : Array α} (h : cs.size = 8) : ∃ c0 c1 c2 c3 c4 c5 c6 c7, cs = #[c0, c1, c2, c3, c4, c5, c6, c7] := by
  obtain ⟨l⟩ := cs
  match l, h with
  | [c0, c1, c2, c3, c4, c5, c6, c7], _ => exact ⟨c0, c1, c2, c3, c4, c5, c6, c7, rfl⟩
theorem list8 {α : Type} {xs : List α} {n : Nat} (hn : n = 8) (h : xs.length = n) : ∃ c0 c1 c2 c3 c4 c5 c6 c7, xs = [c0, c1, c2, c3, c4, c5, c6, c7] := by
  subst hn
  match xs, h with
  | [c0, c1, c2, c3, c4, c5, c6, c7], _ => exact ⟨c0, c1, c2, c3, c4, c5, c6, c7, rfl⟩
theorem open_msg {H : Type} {enc : TypeId × Value → H} {W : World} {base : Nat} {v : Value} {d : DataW H} {p : List MemPlace} (hval : Value.okWide Tryz.prog W .any base 23 v) (h : DataW.Trod enc Tryz.prog W 0 (fun _ => true) true 23 v d p) : ∃ m : MsgS, v = mv m ∧ d = .agg [.lit (.int .i64 m.k), .lit (.string m.u.data.toList), .lit (.string m.n.data.toList), .lit (.string m.s.data.toList), .lit (.int .i64 m.i), .lit (.string m.p.data.toList), .lit (.string m.g.data.toList), .lit (.string m.f.data.toList)] := by
  obtain ⟨cs, rfl, hsz⟩ := okWide_struct Tryz.underlying23 hval
  have hC : Tryz.prog.cellsOf 23 = 8 := by kernel_rfl
  obtain ⟨c0, c1, c2, c3, c4, c5, c6, c7, rfl⟩ := array8 (hsz.trans hC)
  obtain ⟨fuel, hf⟩ := h
  obtain ⟨xs, n, _, hd, _, hlen, hx⟩ := DataW.trod_struct Tryz.underlying23 hf
  obtain ⟨y0, y1, y2, y3, y4, y5, y6, y7, rfl⟩ := list8 (by rfl) hlen
  have k3 : Tryz.prog.cellsOf 3 = 1 := by kernel_rfl
  have k9 : Tryz.prog.cellsOf 9 = 1 := by kernel_rfl
  have h0 := hx 0 _ rfl
  have h1 := hx 1 _ rfl
  have h2 := hx 2 _ rfl
  have h3 := hx 3 _ rfl
  have h4 := hx 4 _ rfl
  have h5 := hx 5 _ rfl
  have h6 := hx 6 _ rfl
  have h7 := hx 7 _ rfl
  simp [Value.cells, k3, k9] at h0 h1 h2 h3 h4 h5 h6 h7
  obtain ⟨x0, q0, e0, _⟩ := DataW.trod_int Tryz.underlying3 h0
  obtain ⟨x1, q1, e1, _⟩ := DataW.trod_string Tryz.underlying9 h1
  obtain ⟨x2, q2, e2, _⟩ := DataW.trod_string Tryz.underlying9 h2
  obtain ⟨x3, q3, e3, _⟩ := DataW.trod_string Tryz.underlying9 h3
  obtain ⟨x4, q4, e4, _⟩ := DataW.trod_int Tryz.underlying3 h4
  obtain ⟨x5, q5, e5, _⟩ := DataW.trod_string Tryz.underlying9 h5
  obtain ⟨x6, q6, e6, _⟩ := DataW.trod_string Tryz.underlying9 h6
  obtain ⟨x7, q7, e7, _⟩ := DataW.trod_string Tryz.underlying9 h7
  simp only [List.cons.injEq, and_true] at q0 q1 q2 q3 q4 q5 q6 q7
  subst q0 q1 q2 q3 q4 q5 q6 q7
  refine ⟨⟨x0, x1, x2, x3, x4, x5, x6, x7⟩, rfl, ?_⟩
  rw [(Prod.mk.inj hd).1]
  simp only [List.map_cons, List.map_nil, e0, e1, e2, e3, e4, e5, e6, e7]
theorem msg_sized {H : Type} {ds : List (DataW H)} {ts : List TypeId} {m : MsgS} (h : (DataW.weightsEach Tryz.prog ts ds).all (· ≤ reachBytes) = true) (ht : ts[0]? = some 23) (hd : ds[0]? = some (.agg [.lit (.int .i64 m.k), .lit (.string m.u.data.toList), .lit (.string m.n.data.toList), .lit (.string m.s.data.toList), .lit (.int .i64 m.i), .lit (.string m.p.data.toList), .lit (.string m.g.data.toList), .lit (.string m.f.data.toList)])) : m.u.size ≤ 140737488355328 ∧ m.n.size ≤ 140737488355328 ∧ m.s.size ≤ 140737488355328 := by
  have hb : reachBytes < 140737488355328 := reachBytes_lt
  have all : ∀ x ∈ DataW.weights Tryz.prog 23 (.agg [.lit (.int .i64 m.k), .lit (.string m.u.data.toList), .lit (.string m.n.data.toList), .lit (.string m.s.data.toList), .lit (.int .i64 m.i), .lit (.string m.p.data.toList), .lit (.string m.g.data.toList), .lit (.string m.f.data.toList)] : DataW H), x ≤ reachBytes := fun x hx => of_decide_eq_true (List.all_eq_true.1 h x (DataW.weights_mem_each ht hd x hx))
  have e : DataW.weights Tryz.prog 23 (.agg [.lit (.int .i64 m.k), .lit (.string m.u.data.toList), .lit (.string m.n.data.toList), .lit (.string m.s.data.toList), .lit (.int .i64 m.i), .lit (.string m.p.data.toList), .lit (.string m.g.data.toList), .lit (.string m.f.data.toList)] : DataW H) = [m.u.data.toList.length, m.n.data.toList.length, m.s.data.toList.length, m.p.data.toList.length, m.g.data.toList.length, m.f.data.toList.length] := by
    simp [DataW.weights, Tryz.underlying23, DataW.weightsEach]
  rw [e] at all
  have h1 := all m.u.data.toList.length (by simp)
  have h2 := all m.n.data.toList.length (by simp)
  have h3 := all m.s.data.toList.length (by simp)
  rw [zlen] at h1 h2 h3
  omega
theorem tabP_ofA {W : World} (h : laidMetH Tryz.prog Rows.attrBackRow.laid W) : TabP W := by
  have h2 := laidMetH.filter (fun x => x.1 == "internal/strconv.uint64pow10") h
  rw [MakeChecks.laidMetH_plain _ _ _ (by kernel_rfl)] at h2
  have e : (Rows.attrBackRow.laid.filter fun x => x.1 == "internal/strconv.uint64pow10") = [("internal/strconv.uint64pow10", Lib.tabData .u64 Lib.pow10Tab)] := by rfl
  rw [e] at h2
  first
    | exact Lib.tabIs_of_head (g := 0) (t := 130) (e := 104) (n := 20) (by decide +kernel) (by kernel_rfl) (by kernel_rfl) (by kernel_rfl) (by kernel_rfl) (by kernel_rfl) h2
    | exact Lib.tabIs_of_head (g := 1) (t := 130) (e := 104) (n := 20) (by decide +kernel) (by kernel_rfl) (by kernel_rfl) (by kernel_rfl) (by kernel_rfl) (by kernel_rfl) h2
    | exact Lib.tabIs_of_head (g := 2) (t := 130) (e := 104) (n := 20) (by decide +kernel) (by kernel_rfl) (by kernel_rfl) (by kernel_rfl) (by kernel_rfl) (by kernel_rfl) h2
    | exact Lib.tabIs_of_head (g := 3) (t := 130) (e := 104) (n := 20) (by decide +kernel) (by kernel_rfl) (by kernel_rfl) (by kernel_rfl) (by kernel_rfl) (by kernel_rfl) h2
    | exact Lib.tabIs_of_head (g := 4) (t := 130) (e := 104) (n := 20) (by decide +kernel) (by kernel_rfl) (by kernel_rfl) (by kernel_rfl) (by kernel_rfl) (by kernel_rfl) h2
    | exact Lib.tabIs_of_head (g := 5) (t := 130) (e := 104) (n := 20) (by decide +kernel) (by kernel_rfl) (by kernel_rfl) (by kernel_rfl) (by kernel_rfl) (by kernel_rfl) h2
    | exact Lib.tabIs_of_head (g := 6) (t := 130) (e := 104) (n := 20) (by decide +kernel) (by kernel_rfl) (by kernel_rfl) (by kernel_rfl) (by kernel_rfl) (by kernel_rfl) h2
    | exact Lib.tabIs_of_head (g := 7) (t := 130) (e := 104) (n := 20) (by decide +kernel) (by kernel_rfl) (by kernel_rfl) (by kernel_rfl) (by kernel_rfl) (by kernel_rfl) h2
    | exact Lib.tabIs_of_head (g := 8) (t := 130) (e := 104) (n := 20) (by decide +kernel) (by kernel_rfl) (by kernel_rfl) (by kernel_rfl) (by kernel_rfl) (by kernel_rfl) h2
theorem star_err : "*" ++ "errors.errorString" = "*errors.errorString" := by decide
theorem row_err (u : TypeId) (h : Tryz.prog.typeName? 3 u = some "*errors.errorString") : u = 135 :=
  typeName_ptr_named (nm := "errors.errorString") (by rw [star_err]; kernel_rfl) (by kernel_rfl) (by decide) u (by rw [star_err]; exact h)
theorem errSA {W : World} (h : laidMetH Tryz.prog Rows.attrBackRow.laid W) : ErrV W "strconv.ErrSyntax" := by
  have h2 := laidMetH.filter (fun x => x.1 == "strconv.ErrSyntax") h
  rw [MakeChecks.laidMetH_plain _ _ _ (by kernel_rfl)] at h2
  have e : (Rows.attrBackRow.laid.filter fun x => x.1 == "strconv.ErrSyntax") = [("strconv.ErrSyntax", Rows.laid_strconv_ErrSyntax)] := by rfl
  rw [e] at h2
  unfold Rows.laid_strconv_ErrSyntax at h2
  obtain ⟨a, s, hv, _⟩ := Go.laid_sentinel h2 (g := 3) (ti := 56) (tp := 135) (te := 137) (ts := 9) (by kernel_rfl) (by kernel_rfl) Tryz.underlying56 row_err Tryz.underlying135 Tryz.underlying137 rfl rfl Tryz.underlying9 (by kernel_rfl) (by kernel_rfl)
  exact ⟨_, _, hv⟩
theorem errRA {W : World} (h : laidMetH Tryz.prog Rows.attrBackRow.laid W) : ErrV W "strconv.ErrRange" := by
  have h2 := laidMetH.filter (fun x => x.1 == "strconv.ErrRange") h
  rw [MakeChecks.laidMetH_plain _ _ _ (by kernel_rfl)] at h2
  have e : (Rows.attrBackRow.laid.filter fun x => x.1 == "strconv.ErrRange") = [("strconv.ErrRange", Rows.laid_strconv_ErrRange)] := by rfl
  rw [e] at h2
  unfold Rows.laid_strconv_ErrRange at h2
  obtain ⟨a, s, hv, _⟩ := Go.laid_sentinel h2 (g := 4) (ti := 56) (tp := 135) (te := 137) (ts := 9) (by kernel_rfl) (by kernel_rfl) Tryz.underlying56 row_err Tryz.underlying135 Tryz.underlying137 rfl rfl Tryz.underlying9 (by kernel_rfl) (by kernel_rfl)
  exact ⟨_, _, hv⟩
theorem utf_of {W : World} (h : laidMetH Tryz.prog Rows.attrBackRow.laid W) : Lib.Utf8Tabs 0 1 W := by
  rw [MakeChecks.laidMetH_plain _ _ _ (by kernel_rfl)] at h
  have h1 : Lib.VarReads Tryz.prog W "unicode/utf8.first" Lib.firstData := by
    rw [← Pinned.utf8First_eq]
    exact Lib.laidMet.reads h (by simp [Rows.attrBackRow, Rows.laid_unicode_utf8_first])
  have h2 : Lib.VarReads Tryz.prog W "unicode/utf8.acceptRanges" Lib.acceptData := Lib.laidMet.reads h (.tail _ (.tail _ (.tail _ (.head _))))
  exact utf8Tabs_of_readsT (U8Types.of196 Tryz.lays196) ⟨by kernel_rfl, by kernel_rfl, by kernel_rfl, by kernel_rfl, by kernel_rfl, by kernel_rfl, by kernel_rfl⟩ h1 h2
theorem env_of {W : World} (hL : laidMetH Tryz.prog Rows.attrBackRow.laid W) (hsh : W.ShapedOpen Tryz.prog) : Env W := ⟨tabP_ofA hL, Tryz.laysM146.s1_3 W hsh, errSA hL, errRA hL, utf_of hL⟩
end Go.Proofs.YtjigckibbjfkmaaGreatDoor

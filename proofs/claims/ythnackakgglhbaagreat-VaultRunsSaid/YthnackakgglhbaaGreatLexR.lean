/- The walk of Lex.lean with the slots under a name: 'R t' is what slot t holds; of the frame itself nothing is looked at till the region's end. -/
import Derived.Test.YthnackakgglhbaaGreatLex
import Derived.Lib.Hide
namespace Go.Proofs.YthnackakgglhbaaGreat
open Go.RowKit
/-- Operands, out of what the slots hold. -/
def evR (R : Nat → Value) : Operand → Value
  | .tmp t => R t
  | .const v => v
  | .global g => .pointer (some ⟨g, 0, none⟩)
  | .func f => .func (.func f) #[] #[]
def yieldR (ops : Array Oper) (R : Nat → Value) (j : Nat) : Option Bool :=
  match (ops[j]?).bind (·.dst) with
  | some t => match R t with
    | .bool b => some b
    | _ => none
  | none => none
def slotsR (a : Act) : Nat → Value := fun t => a.tmps.getD t undef
theorem evR_slots (a : Act) : evR (slotsR a) = a.eval := by funext x; cases x <;> rfl
theorem yieldR_slots (ops : Array Oper) (a : Act) : yieldR ops (slotsR a) = yielded ops a.tmps := by
  funext j
  unfold yieldR yielded slotsR
  cases (ops[j]?).bind (·.dst) with
  | none => rfl
  | some t =>
    simp only [Option.bind_some, Array.getD_eq_getD_getElem?]
    cases a.tmps[t]? with
    | none => simp [undef]
    | some v =>
      cases v <;> rfl
section
variable {P : Program} {ops : Array Oper} {W : World} {K : List (Exp × Nat) → List (Nat × Value) → Prop} {R : Nat → Value} {o : Oper} {os : List Oper} {e : Exp} {es : List Exp} {done : List (Exp × Nat)} {acc : List (Nat × Value)} {a : Act}
def StepR (P : Program) (ops : Array Oper) (W : World) (R : Nat → Value) (o : Oper) (e : Exp) (done : List (Exp × Nat)) : Prop :=
  match e with
  | .put j cs => ∃ cs0 t g, done[j]? = some (.box cs0 t, g) ∧ cs0.size = cs.size ∧ j ∈ needs o ∧ Region.wanted o (yieldR ops R) = true ∧ (∀ p ∈ done, p.1.putAt j = none) ∧
      ∀ w old, old.size = cs.size → w.heap[g]? = some (.cells old t (0, 0)) → (execOp (evR R) o).run P w = .ok .skip (w.setRow g cs)
  | .use j v => ∃ cs0 t g, done[j]? = some (.log cs0 t, g) ∧ cs0 ≠ #[] ∧ j ∈ needs o ∧ Region.wanted o (yieldR ops R) = true ∧ (∀ p ∈ done, p.1.putAt j = none) ∧
      ∀ w, Below W.heap.size W w → W.heap.size ≤ g → w.heap[g]? = some (.cells cs0 t (0, 0)) → ∃ f args, (execOp (evR R) o).run P w = .ok (.enter f args) w ∧ Calls P f args w fun x w' => x = .returned v ∧ Below W.heap.size w w' ∧ ∀ b, b < w.heap.size → b ≠ g → w'.heap[b]? = w.heap[b]?
  | e => ∀ w, Below W.heap.size W w → depFacts (needs o) 0 done w → if Region.wanted o (yieldR ops R) then Yx P e w ((execOp (evR R) o).run P w) else e = .det undef
theorem StepR.ok (h : StepR P ops W (slotsR a) o e done) : StepOK P ops W o e done a := by
  unfold StepR at h
  rw [evR_slots, yieldR_slots] at h
  cases e <;> exact h
def accR : Option Tmp → Value → List (Nat × Value) → List (Nat × Value)
  | some t, v, acc => (t, v) :: acc
  | none, _, acc => acc
def putAll (a : Act) : List (Nat × Value) → Act
  | [] => a
  | (t, v) :: r => (putAll a r).put (some t) v
theorem putAll_accR (a : Act) (d : Option Tmp) (v : Value) (acc : List (Nat × Value)) : putAll a (accR d v acc) = (putAll a acc).put d v := by
  cases d <;> rfl
theorem putAll_size (a : Act) : ∀ acc : List (Nat × Value), (putAll a acc).tmps.size = a.tmps.size
  | [] => rfl
  | (t, v) :: r => by simp [putAll, Act.put, putAll_size a r]
theorem put_slot_ne {t u : Nat} {v : Value} (h : t ≠ u) : slotsR (a.put (some t) v) u = slotsR a u := by
  simp only [slotsR, Act.put, Array.getD_eq_getD_getElem?, Array.getElem?_setIfInBounds_ne h]
theorem put_slot {t : Nat} {v : Value} (h : t < a.tmps.size) : slotsR (a.put (some t) v) t = v := by
  simp [slotsR, Act.put, Array.getD_eq_getD_getElem?, h]
/-- The walk. -/
def LexR (P : Program) (ops : Array Oper) (W : World) (K : List (Exp × Nat) → List (Nat × Value) → Prop) (R : Nat → Value) : List Oper → List Exp → List (Exp × Nat) → List (Nat × Value) → Prop
  | [], [], done, acc => K done.reverse acc
  | o :: os, e :: es, done, acc => StepR P ops W R o e done.reverse ∧ ∀ g, (∀ t, o.dst = some t → R t = e.value g) → LexR P ops W K R os es ((e, g) :: done) (accR o.dst (e.value g) acc)
  | _, _, _, _ => False
def dsts (l : List Oper) : List Nat := l.filterMap (·.dst)
def dstOk (l : List Oper) (n : Nat) : Bool := (dsts l).all (fun t => decide (t < n)) && decide (dsts l).Nodup
theorem mem_dsts {l : List Oper} {t : Nat} : t ∈ dsts l ↔ ∃ o ∈ l, o.dst = some t := by simp [dsts]
theorem Lex_of_R {a0 : Act} {all : List Oper} {Q : List (Exp × Nat) → Act → Prop} (hd : dstOk all a0.tmps.size = true) (hQ : ∀ done acc, K done acc → Q done (putAll a0 acc)) :
    ∀ (os : List Oper) (es : List Exp) (pre : List Oper) (done : List (Exp × Nat)) (acc : List (Nat × Value)), all = pre ++ os → (∀ t, t ∉ dsts pre → slotsR (putAll a0 acc) t = slotsR a0 t) →
      (∀ R, (∀ t, t ∉ dsts all → R t = slotsR a0 t) → (∀ t, t ∈ dsts pre → R t = slotsR (putAll a0 acc) t) → LexR P ops W K R os es done acc) → Lex P ops W Q os es done.reverse (putAll a0 acc) := by
  simp only [dstOk, Bool.and_eq_true, decide_eq_true_eq, List.all_eq_true] at hd
  obtain ⟨hlt, hnd⟩ := hd
  intro os
  induction os with
  | nil =>
    intro es pre done acc hall hout h
    have z := h (slotsR (putAll a0 acc)) (fun t ht => hout t (by rw [hall, List.append_nil] at ht; exact ht)) (fun t _ => rfl)
    cases es with
    | nil => exact hQ _ _ z
    | cons e es => exact z.elim
  | cons o os ih =>
    intro es pre done acc hall hout h
    have hsub : ∀ t, t ∈ dsts pre → t ∈ dsts all := fun t ht => by rw [hall]; simp only [dsts, List.filterMap_append, List.mem_append]; exact .inl ht
    have z := h (slotsR (putAll a0 acc)) (fun t ht => hout t fun q => ht (hsub t q)) (fun t _ => rfl)
    cases es with
    | nil => exact z.elim
    | cons e es =>
      refine ⟨z.1.ok, fun g => ?_⟩
      rw [← putAll_accR, ← List.reverse_cons]
      have fresh : ∀ t, o.dst = some t → t ∉ dsts pre ∧ t < a0.tmps.size := fun t ht => by
        have ht' : t ∈ dsts all := mem_dsts.2 ⟨o, by rw [hall]; simp, ht⟩
        refine ⟨fun q => ?_, hlt t ht'⟩
        rw [hall] at hnd
        simp only [dsts, List.filterMap_append, List.filterMap_cons, ht] at hnd
        exact (List.nodup_append.1 hnd).2.2 t q t (by simp) rfl
      have far : ∀ t, t ∈ dsts pre → slotsR (putAll a0 (accR o.dst (e.value g) acc)) t = slotsR (putAll a0 acc) t := fun t ht => by
        rw [putAll_accR]
        cases q : o.dst with
        | none => rfl
        | some u => exact put_slot_ne fun z => (fresh u q).1 (by rw [z]; exact ht)
      refine ih es (pre ++ [o]) _ _ (by rw [hall]; simp) (fun t ht => ?_) fun R h1 h2 => ?_
      · have ht' : t ∉ dsts pre ∧ o.dst ≠ some t := by
          constructor
          · intro q; exact ht (by simp only [dsts, List.filterMap_append, List.mem_append]; exact .inl q)
          · intro q; exact ht (mem_dsts.2 ⟨o, by simp, q⟩)
        rw [putAll_accR]
        cases q : o.dst with
        | none => exact hout t ht'.1
        | some u => rw [put_slot_ne (fun z => ht'.2 (by rw [q, z]))]; exact hout t ht'.1
      · refine (h R h1 fun t ht => ?_).2 g fun t ht => ?_
        · rw [h2 t (by simp only [dsts, List.filterMap_append, List.mem_append]; exact .inl ht)]; exact far t ht
        · rw [h2 t (mem_dsts.2 ⟨o, by simp, ht⟩), putAll_accR, ht]
          exact put_slot (by rw [putAll_size]; exact (fresh t ht).2)
def nthR : List Value → Nat → Value
  | [], _ => undef
  | x :: _, 0 => x
  | _ :: r, n + 1 => nthR r n
theorem nthR_zero (x : Value) (r : List Value) : nthR (x :: r) 0 = x := rfl
theorem nthR_succ (x : Value) (r : List Value) (n : Nat) : nthR (x :: r) (n + 1) = nthR r n := rfl
theorem nthR_get : ∀ (l : List Value) (n : Nat), nthR l n = l.getD n undef
  | [], _ => rfl
  | _ :: _, 0 => rfl
  | _ :: r, n + 1 => by simpa [nthR] using nthR_get r n
/-- What the slots 'us' hold ahead of the region. -/
def baseR (R : Nat → Value) (l : List Value) : List Nat → Prop
  | [] => True
  | t :: r => R t = nthR l t ∧ baseR R l r
theorem baseR_of {R : Nat → Value} {l : List Value} : ∀ us : List Nat, (∀ t ∈ us, R t = nthR l t) → baseR R l us
  | [], _ => trivial
  | t :: r, h => ⟨h t (by simp), baseR_of r fun u hu => h u (by simp [hu])⟩
/-- **The region.** 'us': the slots that are read and not written in it. -/
theorem wp_region_R {id : Nat} {b : Bool} {Q : Exit → Act → World → Prop} {l : List Oper} {tl : List Value} {df : List Deferred} (n : Nat) (us : List Nat) (hm : P.follows .mixedOrders = true) (hB : headOk b l.toArray n = true) (hd : dstOk (l.take n) tl.length = true)
    (hu : us.all (fun t => !(dsts (l.take n)).contains t) = true)
    (h : ∀ (K : List (Exp × Nat) → List (Nat × Value) → Prop) (ops' : Array Oper), ops' = l.toArray → (∀ done acc, (∀ w', Below W.heap.size W w' → allFacts W.heap.size done 0 done w' → wpList P l.toArray Q (l.drop n) (putAll ⟨tl.toArray, df⟩ acc) w') → K done acc) →
      ∃ es, ∀ R, baseR R tl us → LexR P ops' W K R (l.take n) es [] []) : (Code.region id l.toArray b).wp P Q ⟨tl.toArray, df⟩ W := by
  refine wp_region_lexK n hm hB fun K' ops' hops hK => ?_
  obtain ⟨es, z⟩ := h (fun done acc => K' done (putAll ⟨tl.toArray, df⟩ acc)) ops' hops fun done acc q => hK done _ q
  refine ⟨es, Lex_of_R (a0 := ⟨tl.toArray, df⟩) (K := fun done acc => K' done (putAll ⟨tl.toArray, df⟩ acc)) (by simpa using hd) (fun _ _ q => q) (l.take n) es [] [] [] rfl (fun t _ => rfl) fun R h1 _ => z R (baseR_of us fun t ht => ?_)⟩
  have := List.all_eq_true.1 hu t ht
  rw [h1 t (by simpa using this), nthR_get]
  simp [slotsR]
theorem wanted_guard {oj : Oper} {j t : Nat} {b : Bool} (hg : o.guard = some (j, b)) (hj : ops[j]? = some oj) (hd : oj.dst = some t) (hR : R t = .bool b) : Region.wanted o (yieldR ops R) = true := by
  unfold Region.wanted yieldR
  simp [hg, hj, hd, hR]
theorem LexR_skip {t : Nat} (hd : o.dst = some t) (hw : Region.wanted o (yieldR ops R) = false) (h : ∀ g, R t = undef → LexR P ops W K R os es ((.det undef, g) :: done) ((t, undef) :: acc)) : LexR P ops W K R (o :: os) (.det undef :: es) done acc := by
  refine ⟨fun w _ _ => by rw [if_neg (by rw [hw]; exact Bool.false_ne_true)], fun g hr => ?_⟩
  rw [hd]
  exact h g (hr t hd)
theorem wanted_not {oj : Oper} {j t : Nat} {b c : Bool} (hg : o.guard = some (j, b)) (hj : ops[j]? = some oj) (hd : oj.dst = some t) (hR : R t = .bool c) (hbc : (c == b) = false) : Region.wanted o (yieldR ops R) = false := by
  unfold Region.wanted yieldR
  cases b <;> cases c <;> simp_all
theorem LexR_end (h : K done.reverse acc) : LexR P ops W K R [] [] done acc := h
theorem LexR_det {v : Value} {t : Nat} (_ : kindOf o.op = 0) (hd : o.dst = some t) (hw : Region.wanted o (yieldR ops R) = true) (hrun : ∀ w, Below W.heap.size W w → depFacts (needs o) 0 done.reverse w → (execOp (evR R) o).run P w = .ok (.value v) w)
    (h : ∀ g, R t = v → LexR P ops W K R os es ((.det v, g) :: done) ((t, v) :: acc)) : LexR P ops W K R (o :: os) (.det v :: es) done acc := by
  refine ⟨fun w h1 h2 => by rw [if_pos hw, hrun w h1 h2]; exact Came.det, fun g hr => ?_⟩
  rw [hd]
  exact h g (hr t hd)
theorem LexR_call {f : FuncId} {args : Array Value} {v : Value} {t : Nat} (_ : kindOf o.op = 1) (hd : o.dst = some t) (hw : Region.wanted o (yieldR ops R) = true) (hrun : ∀ w, (execOp (evR R) o).run P w = .ok (.enter f args) w)
    (hc : ∀ w, Below W.heap.size W w → depFacts (needs o) 0 done.reverse w → Calls P f args w fun e w' => e = .returned v ∧ Below w.heap.size w w')
    (h : ∀ g, R t = v → LexR P ops W K R os es ((.det v, g) :: done) ((t, v) :: acc)) : LexR P ops W K R (o :: os) (.det v :: es) done acc := by
  refine ⟨fun w h1 h2 => by rw [if_pos hw, hrun w]; exact ⟨rfl, (hc w h1 h2).mono fun e w' ⟨he, hb⟩ => ⟨v, he, 0, rfl, trivial, (fun z => by cases z), hb⟩⟩, fun g hr => ?_⟩
  rw [hd]
  exact h g (hr t hd)
theorem run_callR {o : Oper} {w : World} {f : FuncId} {fn : Func} {xs : Array Operand} {ats : Array TypeId} {args : Array Value} (ho : o.op = .call { callee := .value (.func f), args := xs, argTypes := ats }) (hf : P.funcs[f]? = some fn)
    (hn : (fn.name == "runtime.NumGoroutine") = false) (hb : fn.body.isNone = false) (hx : xs.map (evR R) = args) : (execOp (evR R) o).run P w = .ok (.enter f args) w := by
  have e : execOp (evR R) o = callFunc f (#[] ++ args ++ #[]) := by
    rw [← hx]; unfold execOp; rw [ho]; rfl
  rw [e]
  unfold callFunc
  rw [Sem.run_bind, run_program]
  simp only [Result.andThen_ok, hf, hn, hb, Bool.false_eq_true, if_false]
  simp
theorem LexR_callF {f : FuncId} {fn : Func} {xs : Array Operand} {ats : Array TypeId} {args : Array Value} {v : Value} {t : Nat} (ho : o.op = .call { callee := .value (.func f), args := xs, argTypes := ats }) (hd : o.dst = some t) (hw : Region.wanted o (yieldR ops R) = true) (hf : P.funcs[f]? = some fn)
    (hn : (fn.name == "runtime.NumGoroutine") = false) (hb : fn.body.isNone = false) (hx : Unit → xs.map (evR R) = args)
    (hc : ∀ w, Below W.heap.size W w → depFacts (needs o) 0 done.reverse w → Calls P f args w fun e w' => e = .returned v ∧ Below w.heap.size w w')
    (h : ∀ g, R t = v → LexR P ops W K R os es ((.det v, g) :: done) ((t, v) :: acc)) : LexR P ops W K R (o :: os) (.det v :: es) done acc := by
  refine ⟨fun w h1 h2 => by rw [if_pos hw, run_callR ho hf hn hb (hx ())]; exact ⟨rfl, (hc w h1 h2).mono fun e w' ⟨he, hb⟩ => ⟨v, he, 0, rfl, trivial, (fun z => by cases z), hb⟩⟩, fun g hr => ?_⟩
  rw [hd]
  exact h g (hr t hd)
/-- A call that makes a block and tells it. -/
theorem LexR_new {f : FuncId} {fn : Func} {xs : Array Operand} {ats : Array TypeId} {args : Array Value} {cs : Array Value} {ty : TypeId} {t : Nat} (ho : o.op = .call { callee := .value (.func f), args := xs, argTypes := ats }) (hd : o.dst = some t) (hw : Region.wanted o (yieldR ops R) = true) (hf : P.funcs[f]? = some fn)
    (hn : (fn.name == "runtime.NumGoroutine") = false) (hb : fn.body.isNone = false) (hx : Unit → xs.map (evR R) = args)
    (hc : ∀ w, Below W.heap.size W w → depFacts (needs o) 0 done.reverse w → Calls P f args w fun x w' => ∃ g, x = .returned (.pointer (some ⟨g, 0, none⟩)) ∧ w.heap.size ≤ g ∧ w'.heap[g]? = some (.cells cs ty (0, 0)) ∧ Below w.heap.size w w')
    (h : ∀ g, R t = .pointer (some ⟨g, 0, none⟩) → LexR P ops W K R os es ((.log cs ty, g) :: done) ((t, .pointer (some ⟨g, 0, none⟩)) :: acc)) : LexR P ops W K R (o :: os) (.log cs ty :: es) done acc := by
  refine ⟨fun w h1 h2 => by rw [if_pos hw, run_callR ho hf hn hb (hx ())]; exact ⟨rfl, (hc w h1 h2).mono fun e w' ⟨g, he, hg, hk, hbl⟩ => ⟨_, he, g, rfl, fun _ => hk, fun _ => ⟨hg, (Array.getElem?_eq_some_iff.1 hk).1⟩, hbl⟩⟩, fun g hr => ?_⟩
  rw [hd]
  exact h g (hr t hd)
/-- A call that uses such a block up. -/
theorem LexR_use {f : FuncId} {fn : Func} {xs : Array Operand} {ats : Array TypeId} {args : Array Value} {v : Value} {cs0 : Array Value} {ty : TypeId} {t j g : Nat} (ho : o.op = .call { callee := .value (.func f), args := xs, argTypes := ats }) (hd : o.dst = some t) (hw : Region.wanted o (yieldR ops R) = true) (hf : P.funcs[f]? = some fn)
    (hn : (fn.name == "runtime.NumGoroutine") = false) (hb : fn.body.isNone = false) (hx : Unit → xs.map (evR R) = args) (hl : j < done.length) (hj : done[done.length - 1 - j]? = some (.log cs0 ty, g)) (hne : cs0 ≠ #[]) (hnd : (needs o).contains j = true) (hu : (done.all fun p => (p.1.putAt j).isNone) = true)
    (hc : ∀ w, Below W.heap.size W w → W.heap.size ≤ g → w.heap[g]? = some (.cells cs0 ty (0, 0)) → Calls P f args w fun x w' => x = .returned v ∧ Below W.heap.size w w' ∧ ∀ b, b < w.heap.size → b ≠ g → w'.heap[b]? = w.heap[b]?)
    (h : ∀ g', R t = v → LexR P ops W K R os es ((.use j v, g') :: done) ((t, v) :: acc)) : LexR P ops W K R (o :: os) (.use j v :: es) done acc := by
  refine ⟨⟨cs0, ty, g, by rw [List.getElem?_reverse hl, hj], hne, List.contains_iff_mem.1 hnd, hw, (fun p hp => Option.isNone_iff_eq_none.1 (List.all_eq_true.1 hu p (List.mem_reverse.1 hp))), fun w h1 h2 h3 => ⟨f, args, run_callR ho hf hn hb (hx ()), hc w h1 h2 h3⟩⟩, fun g' hr => ?_⟩
  rw [hd]
  exact h g' (hr t hd)
/-- A call that makes a slice and tells it. -/
theorem LexR_own {f : FuncId} {fn : Func} {xs : Array Operand} {ats : Array TypeId} {args : Array Value} {n : Nat} {cs : List Value} {ty : TypeId} {t : Nat} (ho : o.op = .call { callee := .value (.func f), args := xs, argTypes := ats }) (hd : o.dst = some t) (hw : Region.wanted o (yieldR ops R) = true) (hf : P.funcs[f]? = some fn)
    (hn : (fn.name == "runtime.NumGoroutine") = false) (hb : fn.body.isNone = false) (hx : Unit → xs.map (evR R) = args)
    (hc : ∀ w, Below W.heap.size W w → depFacts (needs o) 0 done.reverse w → Calls P f args w fun x w' => ∃ g cap cur, x = .returned (.slice (some ⟨g, 0, none⟩) n cap) ∧ cap < 18446744073709551616 ∧ w.heap.size ≤ g ∧ w'.heap[g]? = some (.cells cur ty (0, 0)) ∧ cur.toList.take n = cs ∧ Below w.heap.size w w')
    (h : ∀ p, R t = .slice (some ⟨ownBlk p, 0, none⟩) n (ownCap p) → LexR P ops W K R os es ((.own n cs ty, p) :: done) ((t, .slice (some ⟨ownBlk p, 0, none⟩) n (ownCap p)) :: acc)) : LexR P ops W K R (o :: os) (.own n cs ty :: es) done acc := by
  have key : ∀ (w w' : World) (g cap : Nat) (cur : Array Value), cap < 18446744073709551616 → w.heap.size ≤ g → w'.heap[g]? = some (.cells cur ty (0, 0)) → cur.toList.take n = cs → Below w.heap.size w w' → Came (.own n cs ty) w (.slice (some ⟨g, 0, none⟩) n cap) w' := fun w w' g cap cur hcap hg hk hcs hbl => by
    have e1 : ownBlk (g * 18446744073709551616 + cap) = g := by unfold ownBlk; omega
    have e2 : ownCap (g * 18446744073709551616 + cap) = cap := by unfold ownCap; omega
    refine ⟨g * 18446744073709551616 + cap, ?_, ⟨cur, ?_, hcs⟩, fun _ => ?_, hbl⟩
    · show _ = Value.slice (some ⟨ownBlk (g * 18446744073709551616 + cap), 0, none⟩) n (ownCap (g * 18446744073709551616 + cap))
      rw [e1, e2]
    · rw [e1]; exact hk
    · show w.heap.size ≤ ownBlk (g * 18446744073709551616 + cap) ∧ ownBlk (g * 18446744073709551616 + cap) < w'.heap.size
      rw [e1]
      exact ⟨hg, (Array.getElem?_eq_some_iff.1 hk).1⟩
  refine ⟨fun w h1 h2 => by rw [if_pos hw, run_callR ho hf hn hb (hx ())]; exact ⟨rfl, (hc w h1 h2).mono fun e w' ⟨g, cap, cur, he, hcap, hg, hk, hcs, hbl⟩ => ⟨_, he, key w w' g cap cur hcap hg hk hcs hbl⟩⟩, fun g hr => ?_⟩
  rw [hd]
  exact h g (hr t hd)
theorem LexR_box {cs : Array Value} {t : TypeId} {s : Nat} (_ : kindOf o.op = 2) (hd : o.dst = some s) (hw : Region.wanted o (yieldR ops R) = true) (hrun : ∀ w, Below W.heap.size W w → depFacts (needs o) 0 done.reverse w → (execOp (evR R) o).run P w = .ok (.value (.pointer (some ⟨w.heap.size, 0, none⟩))) (w.alloc (.cells cs t)))
    (h : ∀ g, R s = .pointer (some ⟨g, 0, none⟩) → LexR P ops W K R os es ((.box cs t, g) :: done) ((s, .pointer (some ⟨g, 0, none⟩)) :: acc)) : LexR P ops W K R (o :: os) (.box cs t :: es) done acc := by
  refine ⟨fun w h1 h2 => by rw [if_pos hw, hrun w h1 h2]; exact ⟨w.heap.size, rfl, blk_new _ _, fun _ => ⟨Nat.le_refl _, by simp [Exp.blk]⟩, (Below.refl _ _).alloc (Nat.le_refl _) _⟩, fun g hr => ?_⟩
  rw [hd]
  exact h g (hr s hd)
theorem LexR_bs {n : Nat} {cs : Array Value} {t e : TypeId} {parts : Array (Nat × Operand)} {ps : List (Nat × Value)} {z : Value} {s : Nat} (ho : o.op = .buildSlice t n parts) (hd : o.dst = some s) (hw : Region.wanted o (yieldR ops R) = true)
    (hu : P.underlying t = some (.slice e)) (hi : (P.info? e).map (fun i => (i.zero, i.size)) = some (some z, 1)) (hn : 0 < n) (hn' : n ≤ 16777216) (hps : Unit → (parts.map fun (i, x) => (i, evR R x)).toList = ps)
    (hv : Unit → ((((ps.map (·.2)).zipIdx 0).map fun x => (x.2, x.1)) = ps ∧ (ps.map (·.2)).length = n ∧ (ps.map (·.2)).all (fun v => v.cells.size == 1) = true)) (hc : Unit → ((ps.map (·.2)).flatMap fun v => v.cells.toList).toArray = cs)
    (h : ∀ g, R s = .slice (some ⟨g, 0, none⟩) n n → LexR P ops W K R os es ((.slc n cs e, g) :: done) ((s, .slice (some ⟨g, 0, none⟩) n n) :: acc)) : LexR P ops W K R (o :: os) (.slc n cs e :: es) done acc := by
  cases hie : P.info? e with
  | none => simp [hie] at hi
  | some ie =>
    simp only [hie, Option.map_some, Option.some.injEq, Prod.mk.injEq] at hi
    obtain ⟨hz, hs⟩ := hi
    obtain ⟨v1, v2, v3⟩ := hv ()
    have hf : Instr.fill (fun i => some (i * 1, 1)) ((Array.range (n * 1)).map (z.cells[· % z.cells.size]!)) ps = some cs := by
      have := Great.fill_whole (s := 1) (by omega) (ps.map (·.2)) ((Array.range (n * 1)).map (z.cells[· % z.cells.size]!)) (fun v hv => by simpa using List.all_eq_true.1 v3 v hv) (by rw [v2]; simp)
      rw [v1, hc ()] at this
      exact this
    have run : ∀ w, (execOp (evR R) o).run P w = .ok (.value (.slice (some ⟨w.heap.size, 0, none⟩) n n)) (w.alloc (.cells cs e)) := fun w => by
      unfold execOp
      simp only [ho, Sem.run_bind, run_buildSlice w t e n _ cs ie z hu hie hz (by rw [hs]; omega) (by rw [hs]; omega) (by rw [hs, hps ()]; exact hf), Result.andThen_ok]
      rfl
    refine ⟨fun w _ _ => by rw [if_pos hw, run w]; exact ⟨w.heap.size, rfl, blk_new _ _, fun _ => ⟨Nat.le_refl _, by simp [Exp.blk]⟩, (Below.refl _ _).alloc (Nat.le_refl _) _⟩, fun g hr => ?_⟩
    rw [hd]
    exact h g (hr s hd)
theorem run_store_aggR {o : Oper} {w : World} {ty : TypeId} {x y : Operand} {g : Nat} {t : TypeId} {cs old : Array Value} (ho : o.op = .store ty x y) (hx : evR R x = .pointer (some ⟨g, 0, none⟩)) (hy : evR R y = .agg cs)
    (hi : (P.info? ty).map (·.size) = some cs.size) (h1 : cs.all (·.oneCell') = true) (hs : old.size = cs.size) (hg : w.heap[g]? = some (.cells old t (0, 0))) : (execOp (evR R) o).run P w = .ok .skip (w.setRow g cs) := by
  unfold execOp
  simp only [ho, hx, hy, Instr.storeAt, Instr.sureAddr, Sem.run_bind, Sem.run_pure, Result.andThen_ok, run_storeVar_row w g t ty old cs hg hi hs h1]
theorem LexR_put {ty : TypeId} {x y : Operand} {j g : Nat} {cs cs0 : Array Value} {t : TypeId} (ho : o.op = .store ty x y) (hx : evR R x = .pointer (some ⟨g, 0, none⟩)) (hy : evR R y = .agg cs)
    (hw : Region.wanted o (yieldR ops R) = true) (hd : o.dst = none) (hl : j < done.length) (hj : done[done.length - 1 - j]? = some (.box cs0 t, g)) (hn : (needs o).contains j = true) (hu : (done.all fun p => (p.1.putAt j).isNone) = true)
    (hi : (P.info? ty).map (·.size) = some cs0.size) (h1 : cs.all (·.oneCell') = true) (hs : cs0.size = cs.size)
    (h : ∀ g', LexR P ops W K R os es ((.put j cs, g') :: done) acc) : LexR P ops W K R (o :: os) (.put j cs :: es) done acc := by
  refine ⟨⟨cs0, t, g, by rw [List.getElem?_reverse hl, hj], hs, List.contains_iff_mem.1 hn, hw, (fun p hp => Option.isNone_iff_eq_none.1 (List.all_eq_true.1 hu p (List.mem_reverse.1 hp))), fun _ _ ho' hg' => run_store_aggR ho hx hy (by rw [hi, hs]) h1 ho' hg'⟩, fun g' _ => ?_⟩
  rw [hd]
  exact h g'
theorem run_load_rowR {o : Oper} {w : World} {ty : TypeId} {x : Operand} {g : Nat} {t : TypeId} {cs : Array Value} {d : TypeDesc} (ho : o.op = .load ty x) (hx : evR R x = .pointer (some ⟨g, 0, none⟩)) (hg : w.heap[g]? = some (.cells cs t (0, 0)))
    (hu : P.underlying ty = some d) (hd : (match d with | .struct _ | .array _ _ => true | _ => false) = true) (hi : (P.info? ty).map (·.size) = some cs.size) : (execOp (evR R) o).run P w = .ok (.value (.agg cs)) w := by
  unfold execOp
  simp only [ho, hx, Instr.loadAt, Instr.sureAddr, Sem.run_bind, Sem.run_pure, Result.andThen_ok, run_loadVar_row w g t ty cs (0, 0) d hg hu hd hi]
theorem tailR {Q : Exit → Act → World → Prop} {w : World} {a' : Act} {l l' : List Oper} (h1 : Unit → putAll a acc = a') (h2 : Unit → l = l') (h : wpList P ops Q l' a' w) : wpList P ops Q l (putAll a acc) w := by
  obtain rfl := h1 (); obtain rfl := h2 (); exact h
theorem evR_tmp (t : Nat) : evR R (.tmp t) = R t := rfl
theorem evR_const (v : Value) : evR R (.const v) = v := rfl
theorem evR_global (g : Nat) : evR R (.global g) = .pointer (some ⟨g, 0, none⟩) := rfl
theorem evR_func (f : FuncId) : evR R (.func f) = .func (.func f) #[] #[] := rfl
end
end Go.Proofs.YthnackakgglhbaaGreat

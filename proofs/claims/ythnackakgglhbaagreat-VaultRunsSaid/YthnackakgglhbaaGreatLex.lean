/- A region that draws its order, of loads, sums, calls that only make memory, new boxes and new slices: one walk of the text's order serves every order. What stands in a temporary is known as a value ('det'), or as a new block whose number is open ('box', 'slc'). -/
import Derived.Test.YthnackakgglhbaaGreatGrow
import Derived.Laws.CopyOwn
import Derived.Great.BuildSlice
namespace Go.Proofs.YthnackakgglhbaaGreat
open Go.RowKit

/-- A slice's block and capacity, both in one number. -/
def ownBlk (p : Nat) : Nat := p / 18446744073709551616
def ownCap (p : Nat) : Nat := p % 18446744073709551616
/-- What is known of an operation's value, its block's number being given. -/
inductive Exp where
  | det (v : Value)
  | box (cs : Array Value) (t : TypeId)
  | slc (n : Nat) (cs : Array Value) (t : TypeId)
  | put (j : Nat) (cs : Array Value)
  | log (cs : Array Value) (t : TypeId)
  | use (j : Nat) (v : Value)
  | own (n : Nat) (cs : List Value) (t : TypeId)
def Exp.value : Exp → Nat → Value
  | .det v, _ => v
  | .box _ _, g => .pointer (some ⟨g, 0, none⟩)
  | .slc n _ _, g => .slice (some ⟨g, 0, none⟩) n n
  | .put _ _, _ => undef
  | .log _ _, g => .pointer (some ⟨g, 0, none⟩)
  | .use _ v, _ => v
  | .own n _ _, p => .slice (some ⟨ownBlk p, 0, none⟩) n (ownCap p)
/-- Its block. -/
def Exp.blk : Exp → Nat → Nat
  | .own _ _ _, p => ownBlk p
  | _, g => g
/-- What is known of its block, 'c' saying what has been stored since. -/
def Exp.fact : Exp → (Array Value → Array Value) → Nat → World → Prop
  | .box cs t, c, g, w => w.heap[g]? = some (.cells (c cs) t (0, 0))
  | .slc _ cs t, _, g, w => w.heap[g]? = some (.cells cs t (0, 0))
  | .own n cs t, _, p, w => ∃ cur, w.heap[ownBlk p]? = some (.cells cur t (0, 0)) ∧ cur.toList.take n = cs
  | .log cs t, c, g, w => c cs = cs → w.heap[g]? = some (.cells cs t (0, 0))
  | _, _, _, _ => True
def Exp.dep : Exp → Nat → World → Prop
  | .own n cs t, p, w => ∃ cur, w.heap[ownBlk p]? = some (.cells cur t (0, 0)) ∧ cur.toList.take n = cs
  | .slc _ cs t, g, w => w.heap[g]? = some (.cells cs t (0, 0))
  | _, _, _ => True
def Exp.fresh : Exp → Bool
  | .box _ _ => true
  | .slc _ _ _ => true
  | .log _ _ => true
  | .own _ _ _ => true
  | _ => false
def Exp.putAt : Exp → Nat → Option (Array Value)
  | .put k cs, j => if k = j then some cs else none
  | .use k _, j => if k = j then some #[] else none
  | _, _ => none
theorem Exp.fact_grow {e : Exp} {c : Array Value → Array Value} {g : Nat} {w w' : World} (h : Below w.heap.size w w') (k : e.fact c g w) : e.fact c g w' := by
  cases e with
  | box cs t => exact grow_blk h k
  | slc n cs t => exact grow_blk h k
  | log cs t => exact fun q => grow_blk h (k q)
  | own n cs t => obtain ⟨cur, k1, k2⟩ := k; exact ⟨cur, grow_blk h k1, k2⟩
  | _ => trivial
theorem Exp.fact_dep {e : Exp} {c : Array Value → Array Value} {g : Nat} {w : World} (k : e.fact c g w) : e.dep g w := by
  cases e with
  | slc n cs t => exact k
  | own n cs t => exact k
  | _ => trivial
/-- What has been stored into the box of operation j by those in 'sel'. -/
def cont (ea : Nat → Exp) (sel : Nat → Bool) (n j : Nat) (cs : Array Value) : Array Value := ((List.range n).findSome? fun k => if sel k then (ea k).putAt j else none).getD cs

section
variable {P : Program} {ops : Array Oper}

/-- What an operation must come to in the world w. -/
def Came (e : Exp) (w : World) (v : Value) (w' : World) : Prop := ∃ g, v = e.value g ∧ e.fact id g w' ∧ (e.fresh = true → w.heap.size ≤ e.blk g ∧ e.blk g < w'.heap.size) ∧ Below w.heap.size w w'
def Yx (P : Program) (e : Exp) (w : World) : Result Next → Prop
  | .ok (.value v) w' => Came e w v w'
  | .ok (.enter f args) w' => w' = w ∧ Calls P f args w fun x w'' => ∃ v, x = .returned v ∧ Came e w v w''
  | _ => False
theorem Came.det {v : Value} {w : World} : Came (.det v) w v w := ⟨0, rfl, trivial, (fun h => by cases h), Below.refl _ _⟩

/-- For which operations it waits. -/
def needs (o : Oper) : List Nat := (o.after.toList.filter fun e => Region.binds .any e).map (·.on)
/-- What is known of those for which it waits. -/
def depFacts (l : List Nat) : Nat → List (Exp × Nat) → World → Prop
  | _, [], _ => True
  | k, (e, g) :: r, w => (if l.contains k then e.dep g w else True) ∧ depFacts l (k + 1) r w
/-- What was stored at last. -/
def contOf (all : List (Exp × Nat)) (j : Nat) (cs : Array Value) : Array Value := (all.findSome? fun p => p.1.putAt j).getD cs
/-- What is known of all. -/
def allFacts (B : Nat) (all : List (Exp × Nat)) : Nat → List (Exp × Nat) → World → Prop
  | _, [], _ => True
  | k, (e, g) :: r, w => e.fact (contOf all k) g w ∧ (e.fresh = true → B ≤ e.blk g) ∧ (∀ p ∈ r, e.fresh = true → p.1.fresh = true → e.blk g ≠ p.1.blk p.2) ∧ allFacts B all (k + 1) r w

/-- What one operation must do. -/
def StepOK (P : Program) (ops : Array Oper) (W : World) (o : Oper) (e : Exp) (done : List (Exp × Nat)) (a : Act) : Prop :=
  match e with
  | .put j cs => ∃ cs0 t g, done[j]? = some (.box cs0 t, g) ∧ cs0.size = cs.size ∧ j ∈ needs o ∧ Region.wanted o (yielded ops a.tmps) = true ∧ (∀ p ∈ done, p.1.putAt j = none) ∧
      ∀ w old, old.size = cs.size → w.heap[g]? = some (.cells old t (0, 0)) → (execOp a.eval o).run P w = .ok .skip (w.setRow g cs)
  | .use j v => ∃ cs0 t g, done[j]? = some (.log cs0 t, g) ∧ cs0 ≠ #[] ∧ j ∈ needs o ∧ Region.wanted o (yielded ops a.tmps) = true ∧ (∀ p ∈ done, p.1.putAt j = none) ∧
      ∀ w, Below W.heap.size W w → W.heap.size ≤ g → w.heap[g]? = some (.cells cs0 t (0, 0)) → ∃ f args, (execOp a.eval o).run P w = .ok (.enter f args) w ∧ Calls P f args w fun x w' => x = .returned v ∧ Below W.heap.size w w' ∧ ∀ b, b < w.heap.size → b ≠ g → w'.heap[b]? = w.heap[b]?
  | e => ∀ w, Below W.heap.size W w → depFacts (needs o) 0 done w → if Region.wanted o (yielded ops a.tmps) then Yx P e w ((execOp a.eval o).run P w) else e = .det undef

/-- The walk in the order of the text. -/
def Lex (P : Program) (ops : Array Oper) (W : World) (K : List (Exp × Nat) → Act → Prop) : List Oper → List Exp → List (Exp × Nat) → Act → Prop
  | [], [], done, a => K done a
  | o :: os, e :: es, done, a => StepOK P ops W o e done a ∧ ∀ g, Lex P ops W K os es (done ++ [(e, g)]) (a.put o.dst (e.value g))
  | _, _, _, _ => False

theorem depFacts_of {l : List Nat} {w : World} : ∀ (k : Nat) (done : List (Exp × Nat)), (∀ (j : Nat) (p : Exp × Nat), done[j]? = some p → l.contains (k + j) = true → p.1.dep p.2 w) → depFacts l k done w
  | _, [], _ => trivial
  | k, (e, g) :: r, h => ⟨(by
      split
      · exact h 0 (e, g) rfl (by assumption)
      · trivial), depFacts_of (k + 1) r fun j p hj hl => h (j + 1) p (by simpa using hj) (by rw [show k + (j + 1) = k + 1 + j by omega]; exact hl)⟩
theorem allFacts_of {B : Nat} {all : List (Exp × Nat)} {w : World} : ∀ (k : Nat) (done : List (Exp × Nat)), (∀ (j : Nat) (p : Exp × Nat), done[j]? = some p → p.1.fact (contOf all (k + j)) p.2 w ∧ (p.1.fresh = true → B ≤ p.1.blk p.2)) →
    (∀ (i j : Nat) (p q : Exp × Nat), i ≠ j → done[i]? = some p → done[j]? = some q → p.1.fresh = true → q.1.fresh = true → p.1.blk p.2 ≠ q.1.blk q.2) → allFacts B all k done w
  | _, [], _, _ => trivial
  | k, (e, g) :: r, h, hd => by
    refine ⟨(h 0 (e, g) rfl).1, (h 0 (e, g) rfl).2, (fun p hp hf hf' => ?_), allFacts_of (k + 1) r (fun j p hj => ?_) (fun i j p q hij hi hj => hd (i + 1) (j + 1) p q (by omega) (by simpa using hi) (by simpa using hj))⟩
    · obtain ⟨j, hj, e'⟩ := List.mem_iff_getElem.1 hp
      exact hd 0 (j + 1) (e, g) p (by omega) rfl (by simp [hj, e']) hf hf'
    · have := h (j + 1) p (by simpa using hj)
      rw [show k + (j + 1) = k + 1 + j by omega] at this
      exact this

/-- The frame: of the operations in 'sel' each has its value; all else is as it was. -/
structure Holds (ops : Array Oper) (n : Nat) (a0 : Act) (vs : Nat → Value) (sel : Nat → Prop) (a : Act) : Prop where
  defers : a.defers = a0.defers
  size : a.tmps.size = a0.tmps.size
  inn : ∀ i, i < n → sel i → ∀ o t, ops[i]? = some o → o.dst = some t → a.tmps[t]? = if t < a0.tmps.size then some (vs i) else none
  out : ∀ t, (∀ i, i < n → sel i → ∀ o, ops[i]? = some o → o.dst ≠ some t) → a.tmps[t]? = a0.tmps[t]?

/-- The region's form: checked by the kernel. -/
def headOkT (ops : Array Oper) (n : Nat) : Bool :=
  Region.noSelect ops && decide (n ≤ ops.size) &&
  (List.range ops.size).all (fun i => match ops[i]? with | some o => (needs o).all (fun d => decide (d < i)) | none => true) &&
  (List.range n).all (fun i => match ops[i]? with
    | some o => (List.range n).all (fun j => match ops[j]? with
        | some oj => (decide (i = j) || o.dst.isNone || o.dst != oj.dst) && (match oj.dst with | some t => !(o.looksAt ops).contains t || (needs o).contains j | none => true)
        | none => true)
    | none => true)
/-- Where the order is drawn: the operations behind the n-th follow one by one. -/
def headOkA (ops : Array Oper) (n : Nat) : Bool :=
  (List.range ops.size).all (fun t => decide (t < n) || match ops[t]? with
    | some o => decide (t = n) || (needs o).contains (t - 1)
    | none => true) &&
  (decide (n = ops.size) || (List.range n).all fun i => (List.range (n + 1)).any fun k => decide (i < k) && match ops[k]? with | some o => (needs o).contains i | none => false) &&
  Region.seqB .any ops (ops.size - n) n ((List.range ops.size).map (fun i => decide (i < n))).toArray

def headOk (b : Bool) (ops : Array Oper) (n : Nat) : Bool := headOkT ops n && (!b || headOkA ops n)
structure HeadOk (ops : Array Oper) (n : Nat) : Prop where
  sel : Region.noSelect ops = true
  le : n ≤ ops.size
  back : ∀ i o, ops[i]? = some o → ∀ d ∈ needs o, d < i
  ne : ∀ i j, i < n → j < n → i ≠ j → ∀ o oj t, ops[i]? = some o → ops[j]? = some oj → o.dst = some t → oj.dst ≠ some t
  reads : ∀ i j, i < n → j < n → ∀ o oj t, ops[i]? = some o → ops[j]? = some oj → oj.dst = some t → t ∈ o.looksAt ops → j ∈ needs o
structure HeadAny (ops : Array Oper) (n : Nat) : Prop where
  first : n < ops.size → ∀ i, i < n → ∃ k o, i < k ∧ k ≤ n ∧ ops[k]? = some o ∧ i ∈ needs o
  chain : ∀ t o, n < t → ops[t]? = some o → t - 1 ∈ needs o
  seq : Region.seqB .any ops (ops.size - n) n ((List.range ops.size).map (fun i => decide (i < n))).toArray = true

theorem headOkT_spec {n : Nat} (h : headOkT ops n = true) : HeadOk ops n := by
  simp only [headOkT, Bool.and_eq_true, decide_eq_true_eq] at h
  obtain ⟨⟨⟨h1, h2⟩, h3⟩, h4⟩ := h
  have H4 : ∀ i, i < n → ∀ o, ops[i]? = some o → ∀ j, j < n → ∀ oj, ops[j]? = some oj → ((i = j ∨ o.dst.isNone = true) ∨ o.dst ≠ oj.dst) ∧ ∀ t, oj.dst = some t → t ∈ o.looksAt ops → j ∈ needs o := by
    intro i hi o ho
    have z := List.all_eq_true.1 h4 i (List.mem_range.2 hi)
    simp only [ho] at z
    intro j hj oj hoj
    have y := List.all_eq_true.1 z j (List.mem_range.2 hj)
    simp only [hoj, Bool.and_eq_true, Bool.or_eq_true, decide_eq_true_eq, bne_iff_ne] at y
    refine ⟨y.1, fun t ht hm => ?_⟩
    have y2 := y.2
    simp only [ht, Bool.or_eq_true, Bool.not_eq_true', List.contains_iff_mem] at y2
    rcases y2 with y2 | y2
    · rw [← Bool.not_eq_true, List.contains_iff_mem] at y2; exact absurd hm y2
    · exact y2
  refine ⟨h1, h2, fun i o ho d hd => ?_, (fun i j hi hj hne o oj t ho hoj ht ht' => by
      rcases (H4 i hi o ho j hj oj hoj).1 with (q | q) | q
      · exact hne q
      · rw [ht] at q; cases q
      · exact q (by rw [ht, ht'])),
    fun i j hi hj o oj t ho hoj ht hm => (H4 i hi o ho j hj oj hoj).2 t ht hm⟩
  have z := List.all_eq_true.1 h3 i (List.mem_range.2 (Array.getElem?_eq_some_iff.1 ho).1)
  simp only [ho] at z
  simpa using List.all_eq_true.1 z d hd

theorem headOkA_spec {n : Nat} (h : headOkA ops n = true) : HeadAny ops n := by
  simp only [headOkA, Bool.and_eq_true] at h
  obtain ⟨⟨h5, h7⟩, h6⟩ := h
  refine ⟨fun hn i hi => ?_, fun t o ht ho => ?_, h6⟩
  · simp only [Bool.or_eq_true, decide_eq_true_eq] at h7
    rcases h7 with q | q
    · omega
    · have z := List.all_eq_true.1 q i (List.mem_range.2 hi)
      obtain ⟨k, hk, y⟩ := List.any_eq_true.1 z
      have hk' := List.mem_range.1 hk
      simp only [Bool.and_eq_true, decide_eq_true_eq] at y
      obtain ⟨y1, y2⟩ := y
      split at y2
      · rename_i o ho
        exact ⟨k, o, y1, by omega, ho, by simpa using y2⟩
      · cases y2
  · have z := List.all_eq_true.1 h5 t (List.mem_range.2 (Array.getElem?_eq_some_iff.1 ho).1)
    simp only [ho, Bool.or_eq_true, decide_eq_true_eq, List.contains_iff_mem] at z
    rcases z with z | z | z
    · omega
    · omega
    · exact z

theorem Holds.put {n : Nat} {a0 a : Act} {vs : Nat → Value} {sel : Nat → Prop} (H : HeadOk ops n) (h : Holds ops n a0 vs sel a) {i : Nat} {o : Oper} (hi : i < n) (ho : ops[i]? = some o) (v : Value) :
    Holds ops n a0 (fun j => if j = i then v else vs j) (fun j => j = i ∨ sel j) (a.put o.dst v) := by
  cases ht : o.dst with
  | none =>
    refine ⟨h.defers, h.size, fun j hj hs oj u hoj hu => ?_, fun u hu => h.out u fun j hj hs => hu j hj (.inr hs)⟩
    have e : j ≠ i := fun q => by
      subst q
      have : oj = o := Option.some.inj (hoj.symm.trans ho)
      subst this
      rw [ht] at hu; cases hu
    simp only [Act.put, if_neg e]
    exact h.inn j hj (hs.resolve_left e) oj u hoj hu
  | some t =>
    refine ⟨h.defers, by simp [Act.put, h.size], fun j hj hs oj u hoj hu => ?_, fun u hu => ?_⟩
    · by_cases e : j = i
      · subst e
        have : oj = o := Option.some.inj (hoj.symm.trans ho)
        subst this
        have : u = t := Option.some.inj (hu.symm.trans ht)
        subst this
        simp only [Act.put, if_true]
        rw [Array.getElem?_setIfInBounds]
        simp only [if_true, h.size]
      · have hne : t ≠ u := fun q => H.ne i j hi hj (Ne.symm e) o oj t ho hoj ht (by rw [hu, q])
        simp only [Act.put, if_neg e]
        rw [Array.getElem?_setIfInBounds_ne hne]
        exact h.inn j hj (hs.resolve_left e) oj u hoj hu
    · have hne : t ≠ u := fun q => hu i hi (.inl rfl) o ho (by rw [ht, q])
      simp only [Act.put]
      rw [Array.getElem?_setIfInBounds_ne hne]
      exact h.out u fun j hj hs => hu j hj (.inr hs)

theorem Holds.imp {n : Nat} {a0 a : Act} {vs vs' : Nat → Value} {sel sel' : Nat → Prop} (h : Holds ops n a0 vs sel a) (hs : ∀ i, i < n → (sel i ↔ sel' i)) (hv : ∀ i, i < n → sel i → vs i = vs' i) : Holds ops n a0 vs' sel' a :=
  ⟨h.defers, h.size, (fun i hi hl o t ho ht => by rw [← hv i hi ((hs i hi).2 hl)]; exact h.inn i hi ((hs i hi).2 hl) o t ho ht), fun t ht => h.out t fun i hi hl => ht i hi ((hs i hi).1 hl)⟩

theorem Holds.ext {n : Nat} {a0 a a' : Act} {vs : Nat → Value} {sel : Nat → Prop} (h : Holds ops n a0 vs sel a) (h' : Holds ops n a0 vs sel a') : a = a' := by
  have : a.tmps = a'.tmps := by
    apply Array.ext_getElem?
    intro t
    by_cases e : ∃ i, i < n ∧ sel i ∧ ∃ o, ops[i]? = some o ∧ o.dst = some t
    · obtain ⟨i, hi, hs, o, ho, ht⟩ := e
      rw [h.inn i hi hs o t ho ht, h'.inn i hi hs o t ho ht]
    · have q : ∀ i, i < n → sel i → ∀ o, ops[i]? = some o → o.dst ≠ some t := fun i hi hs o ho ht => e ⟨i, hi, hs, o, ho, ht⟩
      rw [h.out t q, h'.out t q]
  have d := h.defers.trans h'.defers.symm
  cases a; cases a'; simp_all

/-- Two frames that agree on what an operation looks at. -/
theorem Holds.same {n : Nat} {a0 a a' : Act} {vs : Nat → Value} {sel sel' : Nat → Prop} (H : HeadOk ops n) (h : Holds ops n a0 vs sel a) (h' : Holds ops n a0 vs sel' a') {i : Nat} {o : Oper} (hi : i < n) (ho : ops[i]? = some o)
    (hs : ∀ d ∈ needs o, d < n → sel d ∧ sel' d) : execOp a.eval o = execOp a'.eval o ∧ Region.wanted o (yielded ops a.tmps) = Region.wanted o (yielded ops a'.tmps) := by
  have at_ : ∀ t ∈ o.looksAt ops, a.tmps[t]? = a'.tmps[t]? := by
    intro t ht
    by_cases e : ∃ j, j < n ∧ ∃ oj, ops[j]? = some oj ∧ oj.dst = some t
    · obtain ⟨j, hj, oj, hoj, hd⟩ := e
      obtain ⟨s1, s2⟩ := hs j (H.reads i j hi hj o oj t ho hoj hd ht) hj
      rw [h.inn j hj s1 oj t hoj hd, h'.inn j hj s2 oj t hoj hd]
    · rw [h.out t fun j hj _ oj hoj hd => e ⟨j, hj, oj, hoj, hd⟩, h'.out t fun j hj _ oj hoj hd => e ⟨j, hj, oj, hoj, hd⟩]
  refine ⟨execOp_congr o (fun cs b => Region.noSelect_spec H.sel i o cs b ho) fun x hx => ?_, ?_⟩
  · cases x with
    | tmp t =>
      have hm : t ∈ o.looksAt ops := List.mem_append_left _ (List.mem_filterMap.2 ⟨.tmp t, by simpa using hx, rfl⟩)
      simp only [Act.eval, Array.getD_eq_getD_getElem?, at_ t hm]
    | _ => rfl
  · unfold Region.wanted
    cases hg : o.guard with
    | none => rfl
    | some gw =>
      obtain ⟨g, want⟩ := gw
      have : yielded ops a.tmps g = yielded ops a'.tmps g := by
        unfold yielded
        cases ht : (ops[g]?).bind (·.dst) with
        | none => rfl
        | some t =>
          have hm : t ∈ o.looksAt ops := List.mem_append_right _ (by simp [hg, ht])
          simp only [Option.bind_some, at_ t hm]
      simp only [this]

/-- The walk, taken apart. -/
theorem Lex.parts {W : World} {K : List (Exp × Nat) → Act → Prop} {n : Nat} {a0 : Act} (H : HeadOk ops n) (gs : Nat → Nat) (ea : Nat → Exp) : ∀ (os : List Oper) (es : List Exp) (k : Nat) (done : List (Exp × Nat)) (a : Act),
    k + os.length = n → (∀ j, j < os.length → os[j]? = ops[k + j]?) → (∀ j, j < es.length → es[j]? = some (ea (k + j))) → done = (List.range k).map (fun j => (ea j, gs j)) →
    Holds ops n a0 (fun j => (ea j).value (gs j)) (fun j => j < k) a → Lex P ops W K os es done a →
    (∃ a', Holds ops n a0 (fun j => (ea j).value (gs j)) (fun j => j < n) a' ∧ K ((List.range n).map (fun j => (ea j, gs j))) a') ∧
    ∀ i o, k ≤ i → i < n → ops[i]? = some o → ∃ a', Holds ops n a0 (fun j => (ea j).value (gs j)) (fun j => j < i) a' ∧ StepOK P ops W o (ea i) ((List.range i).map (fun j => (ea j, gs j))) a'
  | [], [], k, done, a, hk, _, _, hd, hh, h => by
    have : k = n := by simpa using hk
    subst this
    subst hd
    exact ⟨⟨a, hh, h⟩, fun i o h1 h2 => by omega⟩
  | o :: os, e :: es, k, done, a, hk, hl, he, hd, hh, h => by
    obtain ⟨h1, h2⟩ := h
    have hkn : k < n := by simp only [List.length_cons] at hk; omega
    have ho : ops[k]? = some o := by simpa using (hl 0 (by simp)).symm
    have hek : e = ea k := by simpa using he 0 (by simp)
    subst hek
    have step := h2 (gs k)
    have hh' : Holds ops n a0 (fun j => (ea j).value (gs j)) (fun j => j < k + 1) (a.put o.dst ((ea k).value (gs k))) := by
      refine (hh.put H hkn ho ((ea k).value (gs k))).imp (fun i _ => ?_) (fun i _ _ => ?_)
      · constructor <;> intro q <;> omega
      · by_cases q : i = k
        · subst q; simp
        · simp [q]
    have r := Lex.parts H gs ea os es (k + 1) _ _ (by simp only [List.length_cons] at hk; omega) (fun j hj => by have := hl (j + 1) (by simp; omega); simpa [Nat.add_assoc, Nat.add_comm 1 j] using this)
      (fun j hj => by have := he (j + 1) (by simp; omega); simpa [Nat.add_assoc, Nat.add_comm 1 j] using this) (by rw [hd, List.range_succ, List.map_append]; rfl) hh' step
    refine ⟨r.1, fun i oi hki hin hoi => ?_⟩
    by_cases q : i = k
    · subst q
      have : oi = o := Option.some.inj (hoi.symm.trans ho)
      subst this
      exact ⟨a, hh, by rw [← hd]; exact h1⟩
    · exact r.2 i oi (by omega) hin hoi
  | [], _ :: _, _, _, _, _, _, _, _, _, h => h.elim
  | _ :: _, [], _, _, _, _, _, _, _, _, h => h.elim

/-- What holds between two operations, whatever has come up. -/
structure Mid (ops : Array Oper) (n : Nat) (W : World) (a0 : Act) (ea : Nat → Exp) (gs : Nat → Nat) (listed : Array Bool) (a : Act) (w : World) : Prop where
  size : listed.size = ops.size
  tail : ∀ t, n ≤ t → listed.getD t false = false
  closed : ∀ k, k < n → listed.getD k false = true → ∀ o, ops[k]? = some o → ∀ d ∈ needs o, listed.getD d false = true
  grown : Below W.heap.size W w
  frame : Holds ops n a0 (fun j => (ea j).value (gs j)) (fun j => listed.getD j false = true) a
  facts : ∀ j, j < n → listed.getD j false = true → (ea j).fact (cont ea (fun k => listed.getD k false) n j) (gs j) w ∧ ((ea j).fresh = true → W.heap.size ≤ (ea j).blk (gs j) ∧ (ea j).blk (gs j) < w.heap.size)
  apart : ∀ i j, i < n → j < n → i ≠ j → listed.getD i false = true → listed.getD j false = true → (ea i).fresh = true → (ea j).fresh = true → (ea i).blk (gs i) ≠ (ea j).blk (gs j)

theorem set_get {listed : Array Bool} {i : Nat} (hi : i < listed.size) (j : Nat) : (listed.setIfInBounds i true).getD j false = true ↔ j = i ∨ listed.getD j false = true := by
  by_cases e : j = i
  · subst e; simp [hi]
  · rw [getD_set_ne false (Ne.symm e)]; simp [e]

theorem cont_congr {ea : Nat → Exp} {sel sel' : Nat → Bool} {n j : Nat} (h : ∀ k, k < n → (ea k).putAt j = none ∨ sel k = sel' k) : cont ea sel n j = cont ea sel' n j := by
  funext cs
  unfold cont
  have : ∀ l : List Nat, (∀ k ∈ l, k < n) → (l.findSome? fun k => if sel k then (ea k).putAt j else none) = l.findSome? fun k => if sel' k then (ea k).putAt j else none := by
    intro l
    induction l with
    | nil => intro _; rfl
    | cons k r ih =>
      intro hl
      have hk := hl k (by simp)
      have e : (if sel k then (ea k).putAt j else none) = if sel' k then (ea k).putAt j else none := by
        rcases h k hk with q | q
        · rw [q]; simp
        · rw [q]
      rw [List.findSome?_cons, List.findSome?_cons, e, ih fun k hk => hl k (by simp [hk])]
  rw [this _ fun k hk => List.mem_range.1 hk]
theorem cont_none {ea : Nat → Exp} {sel : Nat → Bool} {n j : Nat} (h : ∀ k, k < n → sel k = true → (ea k).putAt j = none) (cs : Array Value) : cont ea sel n j cs = cs := by
  unfold cont
  have : ((List.range n).findSome? fun k => if sel k then (ea k).putAt j else none) = none := by
    rw [List.findSome?_eq_none_iff]
    intro k hk
    split
    · exact h k (List.mem_range.1 hk) (by assumption)
    · rfl
  rw [this]; rfl
theorem cont_one {ea : Nat → Exp} {sel : Nat → Bool} {n j i : Nat} {cs : Array Value} (hi : i < n) (hs : sel i = true) (hp : (ea i).putAt j = some cs) (hu : ∀ k, k < n → k ≠ i → (ea k).putAt j = none) (cs0 : Array Value) : cont ea sel n j cs0 = cs := by
  unfold cont
  cases q : (List.range n).findSome? fun k => if sel k then (ea k).putAt j else none with
  | none =>
    have := (List.findSome?_eq_none_iff.1 q) i (List.mem_range.2 hi)
    simp only [hs, if_true, hp] at this
    cases this
  | some v =>
    obtain ⟨k, hk, e⟩ := List.exists_of_findSome?_eq_some q
    by_cases z : k = i
    · subst z
      simp only [hs, if_true, hp] at e
      cases e; rfl
    · rw [hu k (List.mem_range.1 hk) z] at e
      simp at e
theorem cont_all {ea : Nat → Exp} {sel : Nat → Bool} {n j : Nat} (gs : Nat → Nat) (h : ∀ k, k < n → sel k = true) : cont ea sel n j = contOf ((List.range n).map fun j => (ea j, gs j)) j := by
  funext cs
  unfold cont contOf
  rw [List.findSome?_map]
  congr 1
  have : ∀ l : List Nat, (∀ k ∈ l, k < n) → (l.findSome? fun k => if sel k then (ea k).putAt j else none) = l.findSome? ((fun p : Exp × Nat => p.1.putAt j) ∘ fun j => (ea j, gs j)) := by
    intro l
    induction l with
    | nil => intro _; rfl
    | cons k r ih =>
      intro hl
      rw [List.findSome?_cons, List.findSome?_cons, ih fun k hk => hl k (by simp [hk])]
      simp only [h k (hl k (by simp)), if_true, Function.comp]
  exact this _ fun k hk => List.mem_range.1 hk

theorem Mid.step {n : Nat} {W : World} {a0 : Act} {ea : Nat → Exp} {gs : Nat → Nat} {listed : Array Bool} {a : Act} {w w' : World} (H : HeadOk ops n) (m : Mid ops n W a0 ea gs listed a w) {i : Nat} {o : Oper} (hi : i < n) (ho : ops[i]? = some o)
    (hun : listed.getD i true = false) (need : ∀ d ∈ needs o, listed.getD d false = true) (hput : ∀ j, (ea i).putAt j = none) (puts : ∀ k, k < n → ∀ ok, ops[k]? = some ok → ∀ j cs, (ea k).putAt j = some cs → j ∈ needs ok)
    {v : Value} (hc : Came (ea i) w v w') : ∃ gs', Mid ops n W a0 ea gs' (listed.setIfInBounds i true) (a.put o.dst v) w' := by
  obtain ⟨g, hv, hf, hfr, hb⟩ := hc
  have hil : i < listed.size := by rw [m.size]; have := H.le; omega
  have hun' := getD_both hun
  have ne : ∀ j, listed.getD j false = true → j ≠ i := fun j hj q => by rw [q, hun'] at hj; cases hj
  have same : ∀ j, cont ea (fun k => (listed.setIfInBounds i true).getD k false) n j = cont ea (fun k => listed.getD k false) n j := fun j => cont_congr fun k _ => by
    by_cases q : k = i
    · subst q; exact .inl (hput j)
    · exact .inr (by rw [getD_set_ne false (Ne.symm q)])
  refine ⟨fun j => if j = i then g else gs j, by simp [m.size], fun t ht => ?_, fun k hk hl ok hok d hd => ?_, m.grown.trans (hb.mono m.grown.size), ?_, fun j hj hl => ?_, fun p q hp hq hne hlp hlq fp fq => ?_⟩
  · rw [getD_set_ne false (by omega)]; exact m.tail t ht
  · rw [set_get hil]
    rcases (set_get hil k).1 hl with q | q
    · subst q
      have : ok = o := Option.some.inj (hok.symm.trans ho)
      subst this
      exact .inr (need d hd)
    · exact .inr (m.closed k hk q ok hok d hd)
  · refine (m.frame.put H hi ho v).imp (fun j _ => ?_) (fun j _ hl => ?_)
    · exact (set_get hil j).symm
    · rcases hl with q | q
      · subst q; simp [hv]
      · simp [ne j q]
  · rw [same j]
    rcases (set_get hil j).1 hl with q | q
    · subst q
      simp only [if_true]
      have e : cont ea (fun k => listed.getD k false) n j = id := by
        funext cs
        refine cont_none (fun k hk hs => ?_) cs
        cases z : (ea k).putAt j with
        | none => rfl
        | some c =>
          obtain ⟨ok, hok⟩ : ∃ ok, ops[k]? = some ok := ⟨_, Array.getElem?_eq_getElem (by have := H.le; omega)⟩
          have := m.closed k hk hs ok hok j (puts k hk ok hok j c z)
          rw [hun'] at this
          cases this
      rw [e]
      exact ⟨hf, fun z => ⟨Nat.le_trans m.grown.size (hfr z).1, (hfr z).2⟩⟩
    · simp only [if_neg (ne j q)]
      obtain ⟨f1, f2⟩ := m.facts j hj q
      exact ⟨Exp.fact_grow hb f1, fun z => ⟨(f2 z).1, Nat.lt_of_lt_of_le (f2 z).2 hb.size⟩⟩
  · rcases (set_get hil p).1 hlp with e1 | e1 <;> rcases (set_get hil q).1 hlq with e2 | e2
    · omega
    · subst e1
      simp only [if_true, if_neg (ne q e2)]
      have := ((m.facts q hq e2).2 fq).2
      have := (hfr fp).1
      omega
    · subst e2
      simp only [if_true, if_neg (ne p e1)]
      have := ((m.facts p hp e1).2 fp).2
      have := (hfr fq).1
      omega
    · simp only [if_neg (ne p e1), if_neg (ne q e2)]
      exact m.apart p q hp hq hne e1 e2 fp fq

theorem Mid.store {n : Nat} {W : World} {a0 : Act} {ea : Nat → Exp} {gs : Nat → Nat} {listed : Array Bool} {a : Act} {w : World} (H : HeadOk ops n) (m : Mid ops n W a0 ea gs listed a w) {i j0 : Nat} {o : Oper} {cs cs0 : Array Value} {t : TypeId} (hi : i < n) (ho : ops[i]? = some o)
    (hun : listed.getD i true = false) (need : ∀ d ∈ needs o, listed.getD d false = true) (hput : ea i = .put j0 cs) (huniq : ∀ k, k < n → k ≠ i → (ea k).putAt j0 = none) (hj0 : j0 < n) (hbox : ea j0 = .box cs0 t) (hlj : listed.getD j0 false = true) :
    w.heap[gs j0]? = some (.cells cs0 t (0, 0)) ∧ Mid ops n W a0 ea gs (listed.setIfInBounds i true) (a.put o.dst undef) (w.setRow (gs j0) cs) := by
  have hil : i < listed.size := by rw [m.size]; have := H.le; omega
  have hun' := getD_both hun
  have ne : ∀ j, listed.getD j false = true → j ≠ i := fun j hj q => by rw [q, hun'] at hj; cases hj
  have hpi : (ea i).putAt j0 = some cs := by rw [hput]; simp [Exp.putAt]
  obtain ⟨f0, b0⟩ := m.facts j0 hj0 hlj
  have b0 : W.heap.size ≤ gs j0 ∧ gs j0 < w.heap.size := by
    have := b0 (by rw [hbox]; rfl)
    rw [hbox] at this; exact this
  have k0 : w.heap[gs j0]? = some (.cells cs0 t (0, 0)) := by
    rw [hbox] at f0
    have e : cont ea (fun k => listed.getD k false) n j0 cs0 = cs0 := cont_none (fun k hk hs => huniq k hk (ne k hs)) cs0
    have f0' : w.heap[gs j0]? = some (.cells (cont ea (fun k => listed.getD k false) n j0 cs0) t (0, 0)) := f0
    rw [e] at f0'
    exact f0'
  have hsz : (w.setRow (gs j0) cs).heap.size = w.heap.size := by simp [World.setRow]
  refine ⟨k0, by simp [m.size], fun t ht => ?_, fun k hk hl ok hok d hd => ?_, below_setRow m.grown b0.1 cs, ?_, fun j hj hl => ?_, fun p q hp hq hne hlp hlq fp fq => ?_⟩
  · rw [getD_set_ne false (by omega)]; exact m.tail t ht
  · rw [set_get hil]
    rcases (set_get hil k).1 hl with q | q
    · subst q
      have : ok = o := Option.some.inj (hok.symm.trans ho)
      subst this
      exact .inr (need d hd)
    · exact .inr (m.closed k hk q ok hok d hd)
  · refine (m.frame.put H hi ho undef).imp (fun j _ => ?_) (fun j _ hl => ?_)
    · exact (set_get hil j).symm
    · by_cases q : j = i
      · subst q; simp [hput, Exp.value]
      · simp [q]
  · rw [hsz]
    rcases (set_get hil j).1 hl with q | q
    · subst q
      rw [hput]
      exact ⟨trivial, fun z => by cases z⟩
    · obtain ⟨f1, f2⟩ := m.facts j hj q
      refine ⟨?_, f2⟩
      by_cases z : j = j0
      · subst z
        rw [hbox]
        show (w.setRow (gs j) cs).heap[gs j]? = some (.cells (cont ea (fun k => (listed.setIfInBounds i true).getD k false) n j cs0) t (0, 0))
        rw [cont_one hi ((set_get hil i).2 (.inl rfl)) hpi huniq]
        exact setRow_heap w _ _ cs t _ k0
      · have same : cont ea (fun k => (listed.setIfInBounds i true).getD k false) n j = cont ea (fun k => listed.getD k false) n j := cont_congr fun k _ => by
          by_cases y : k = i
          · subst y; exact .inl (by rw [hput]; simp [Exp.putAt, Ne.symm z])
          · exact .inr (by rw [getD_set_ne false (Ne.symm y)])
        rw [same]
        have hfar : (ea j).fresh = true → (ea j).blk (gs j) ≠ gs j0 := fun y => by
          have := m.apart j j0 hj hj0 z q hlj y (by rw [hbox]; rfl)
          rw [hbox] at this; exact this
        cases e : ea j with
        | box c ty =>
          rw [e] at f1 hfar
          exact (setRow_other w (gs j0) (gs j) cs (hfar rfl)).trans f1
        | slc m' c ty =>
          rw [e] at f1 hfar
          exact (setRow_other w (gs j0) (gs j) cs (hfar rfl)).trans f1
        | own m' c ty =>
          rw [e] at f1 hfar
          obtain ⟨cur, k1, k2⟩ := f1
          exact ⟨cur, (setRow_other w (gs j0) (ownBlk (gs j)) cs (hfar rfl)).trans k1, k2⟩
        | log c ty =>
          rw [e] at f1 hfar
          exact fun y => (setRow_other w (gs j0) (gs j) cs (hfar rfl)).trans (f1 y)
        | det _ => trivial
        | put _ _ => trivial
        | use _ _ => trivial
  · rcases (set_get hil p).1 hlp with e1 | e1
    · subst e1; rw [hput] at fp; cases fp
    · rcases (set_get hil q).1 hlq with e2 | e2
      · subst e2; rw [hput] at fq; cases fq
      · exact m.apart p q hp hq hne e1 e2 fp fq

/-- A call that uses a box up. -/
theorem Mid.use {n : Nat} {W : World} {a0 : Act} {ea : Nat → Exp} {gs : Nat → Nat} {listed : Array Bool} {a : Act} {w : World} (H : HeadOk ops n) (m : Mid ops n W a0 ea gs listed a w) {i j0 : Nat} {o : Oper} {v : Value} {cs0 : Array Value} {t : TypeId} (hi : i < n) (ho : ops[i]? = some o)
    (hun : listed.getD i true = false) (need : ∀ d ∈ needs o, listed.getD d false = true) (hput : ea i = .use j0 v) (huniq : ∀ k, k < n → k ≠ i → (ea k).putAt j0 = none) (hj0 : j0 < n) (hbox : ea j0 = .log cs0 t) (hne0 : cs0 ≠ #[]) (hlj : listed.getD j0 false = true) :
    W.heap.size ≤ gs j0 ∧ w.heap[gs j0]? = some (.cells cs0 t (0, 0)) ∧ ∀ w', Below W.heap.size w w' → (∀ b, b < w.heap.size → b ≠ gs j0 → w'.heap[b]? = w.heap[b]?) → Mid ops n W a0 ea gs (listed.setIfInBounds i true) (a.put o.dst v) w' := by
  have hil : i < listed.size := by rw [m.size]; have := H.le; omega
  have hun' := getD_both hun
  have ne : ∀ j, listed.getD j false = true → j ≠ i := fun j hj q => by rw [q, hun'] at hj; cases hj
  have hpi : (ea i).putAt j0 = some #[] := by rw [hput]; simp [Exp.putAt]
  obtain ⟨f0, b0⟩ := m.facts j0 hj0 hlj
  have b0 : W.heap.size ≤ gs j0 ∧ gs j0 < w.heap.size := by
    have := b0 (by rw [hbox]; rfl)
    rw [hbox] at this; exact this
  have k0 : w.heap[gs j0]? = some (.cells cs0 t (0, 0)) := by
    rw [hbox] at f0
    exact f0 (cont_none (fun k hk hs => huniq k hk (ne k hs)) cs0)
  refine ⟨b0.1, k0, fun w' hb hfar' => ⟨by simp [m.size], fun u hu => ?_, fun k hk hl ok hok d hd => ?_, m.grown.trans hb, ?_, fun j hj hl => ?_, fun p q hp hq hne hlp hlq fp fq => ?_⟩⟩
  · rw [getD_set_ne false (by omega)]; exact m.tail u hu
  · rw [set_get hil]
    rcases (set_get hil k).1 hl with q | q
    · subst q
      have : ok = o := Option.some.inj (hok.symm.trans ho)
      subst this
      exact .inr (need d hd)
    · exact .inr (m.closed k hk q ok hok d hd)
  · refine (m.frame.put H hi ho v).imp (fun j _ => ?_) (fun j _ hl => ?_)
    · exact (set_get hil j).symm
    · by_cases q : j = i
      · subst q; simp [hput, Exp.value]
      · simp [q]
  · rcases (set_get hil j).1 hl with q | q
    · subst q
      rw [hput]
      exact ⟨trivial, fun z => by cases z⟩
    · obtain ⟨f1, f2⟩ := m.facts j hj q
      refine ⟨?_, fun z => ⟨(f2 z).1, Nat.lt_of_lt_of_le (f2 z).2 hb.size⟩⟩
      by_cases z : j = j0
      · subst z
        rw [hbox]
        intro y
        rw [cont_one hi ((set_get hil i).2 (.inl rfl)) hpi huniq] at y
        exact absurd y.symm hne0
      · have same : cont ea (fun k => (listed.setIfInBounds i true).getD k false) n j = cont ea (fun k => listed.getD k false) n j := cont_congr fun k _ => by
          by_cases y : k = i
          · subst y; exact .inl (by rw [hput]; simp [Exp.putAt, Ne.symm z])
          · exact .inr (by rw [getD_set_ne false (Ne.symm y)])
        rw [same]
        have hfar : (ea j).fresh = true → w'.heap[(ea j).blk (gs j)]? = w.heap[(ea j).blk (gs j)]? := fun y => hfar' _ (f2 y).2 (by
          have := m.apart j j0 hj hj0 z q hlj y (by rw [hbox]; rfl)
          rw [hbox] at this; exact this)
        cases e : ea j with
        | box c ty => rw [e] at f1 hfar; exact (hfar rfl).trans f1
        | slc m' c ty => rw [e] at f1 hfar; exact (hfar rfl).trans f1
        | log c ty => rw [e] at f1 hfar; exact fun y => (hfar rfl).trans (f1 y)
        | own m' c ty => rw [e] at f1 hfar; obtain ⟨cur, k1, k2⟩ := f1; exact ⟨cur, (hfar rfl).trans k1, k2⟩
        | det _ => trivial
        | put _ _ => trivial
        | use _ _ => trivial
  · rcases (set_get hil p).1 hlp with e1 | e1
    · subst e1; rw [hput] at fp; cases fp
    · rcases (set_get hil q).1 hlq with e2 | e2
      · subst e2; rw [hput] at fq; cases fq
      · exact m.apart p q hp hq hne e1 e2 fp fq

/-- What the walk says of each operation. -/
structure Says (P : Program) (ops : Array Oper) (n : Nat) (W : World) (a0 : Act) (ea : Nat → Exp) (K : List (Exp × Nat) → Act → Prop) : Prop where
  last : ∀ gs : Nat → Nat, ∃ a', Holds ops n a0 (fun j => (ea j).value (gs j)) (fun j => j < n) a' ∧ K ((List.range n).map (fun j => (ea j, gs j))) a'
  step : ∀ gs : Nat → Nat, ∀ i o, i < n → ops[i]? = some o → ∃ a', Holds ops n a0 (fun j => (ea j).value (gs j)) (fun j => j < i) a' ∧ StepOK P ops W o (ea i) ((List.range i).map (fun j => (ea j, gs j))) a'
  info : ∀ i, i < n → ∀ o, ops[i]? = some o → ∀ j cs, (ea i).putAt j = some cs → ((ea i = .put j cs ∧ ∃ cs0 t, j < i ∧ ea j = .box cs0 t ∧ cs0.size = cs.size) ∨ ∃ v cs0 t, ea i = .use j v ∧ j < i ∧ ea j = .log cs0 t ∧ cs0 ≠ #[]) ∧ j ∈ needs o ∧ ∀ k, k < i → (ea k).putAt j = none

theorem Lex.says {n : Nat} {W : World} {a0 : Act} {ea : Nat → Exp} {K : List (Exp × Nat) → Act → Prop} {es : List Exp} {l : List Oper} (hops : ops = l.toArray) (H : HeadOk ops n) (hes : ∀ j, j < es.length → es[j]? = some (ea j)) (hlen : (l.take n).length = n)
    (h : Lex P ops W K (l.take n) es [] a0) : Says P ops n W a0 ea K := by
  have hpos : ∀ j, j < (l.take n).length → (l.take n)[j]? = ops[0 + j]? := fun j hj => by
    subst hops; rw [Nat.zero_add, List.getElem?_take, if_pos (by omega)]; simp
  have parts : ∀ gs : Nat → Nat, _ := fun gs => Lex.parts (a0 := a0) H gs ea (l.take n) es 0 [] a0 (by omega) hpos (fun j hj => by rw [Nat.zero_add]; exact hes j hj) rfl ⟨rfl, rfl, fun i _ hs => absurd hs (Nat.not_lt_zero _), fun t _ => rfl⟩ h
  refine ⟨fun gs => (parts gs).1, fun gs i o hi ho => (parts gs).2 i o (Nat.zero_le _) hi ho, ?_⟩
  intro i hi o ho j cs hp
  obtain ⟨a', _, hs⟩ := (parts fun _ => 0).2 i o (Nat.zero_le _) hi ho
  cases e : ea i with
  | put j' cs' =>
    rw [e] at hp
    simp only [Exp.putAt] at hp
    split at hp
    · rename_i q
      subst q
      cases hp
      rw [e] at hs
      obtain ⟨cs0, t, g, h1, h2, h3, _, h5, _⟩ := hs
      obtain ⟨h1a, h1b⟩ := List.getElem?_eq_some_iff.1 h1
      have hj : j' < i := by simpa using h1a
      have hb : ea j' = .box cs0 t := by simp only [List.getElem_map, List.getElem_range, Prod.mk.injEq] at h1b; exact h1b.1
      refine ⟨.inl ⟨rfl, ⟨cs0, t, hj, hb, h2⟩⟩, h3, fun k hk => h5 (ea k, 0) (List.mem_map.2 ⟨k, List.mem_range.2 hk, rfl⟩)⟩
    · cases hp
  | use j' v' =>
    rw [e] at hp
    simp only [Exp.putAt] at hp
    split at hp
    · rename_i q
      subst q
      cases hp
      rw [e] at hs
      obtain ⟨cs0, t, g, h1, h2, h3, _, h5, _⟩ := hs
      obtain ⟨h1a, h1b⟩ := List.getElem?_eq_some_iff.1 h1
      have hj : j' < i := by simpa using h1a
      have hb : ea j' = .log cs0 t := by simp only [List.getElem_map, List.getElem_range, Prod.mk.injEq] at h1b; exact h1b.1
      refine ⟨.inr ⟨v', cs0, t, rfl, hj, hb, h2⟩, h3, fun k hk => h5 (ea k, 0) (List.mem_map.2 ⟨k, List.mem_range.2 hk, rfl⟩)⟩
    · cases hp
  | _ => rw [e] at hp; cases hp

theorem Says.uniq {n : Nat} {W : World} {a0 : Act} {ea : Nat → Exp} {K : List (Exp × Nat) → Act → Prop} (S : Says P ops n W a0 ea K) (H : HeadOk ops n) : ∀ i, i < n → ∀ j cs, (ea i).putAt j = some cs → ∀ k, k < n → k ≠ i → (ea k).putAt j = none := by
  have oper : ∀ k, k < n → ∃ ok, ops[k]? = some ok := fun k hk => ⟨_, Array.getElem?_eq_getElem (by have := H.le; omega)⟩
  intro i hi j cs hp k hk hne
  obtain ⟨oi, hoi⟩ := oper i hi
  obtain ⟨ok, hok⟩ := oper k hk
  rcases Nat.lt_or_gt_of_ne hne with q | q
  · exact (S.info i hi oi hoi j cs hp).2.2 k q
  · cases z : (ea k).putAt j with
    | none => rfl
    | some c =>
      have := (S.info k hk ok hok j c z).2.2 i q
      rw [hp] at this
      cases this

/-- One operation that may come up now. -/
theorem Mid.next {n : Nat} {W : World} {a0 : Act} {ea : Nat → Exp} {K : List (Exp × Nat) → Act → Prop} {gs : Nat → Nat} {listed : Array Bool} {a : Act} {w : World} {Q : Exit → Act → World → Prop} {K' : Act → World → Prop} (S : Says P ops n W a0 ea K) (H : HeadOk ops n)
    (mid : Mid ops n W a0 ea gs listed a w) {i : Nat} {o : Oper} (hin : i < n) (ho : ops[i]? = some o) (hun : listed.getD i true = false) (need : ∀ d ∈ needs o, listed.getD d false = true)
    (hK : ∀ gs' a' w', Mid ops n W a0 ea gs' (listed.setIfInBounds i true) a' w' → K' a' w') : if Region.wanted o (yielded ops a.tmps) then o.wp P a w K' Q ∨ (o.asks P a w ∧ LetsOut Q) else K' (a.put o.dst undef) w := by
  have puts : ∀ k, k < n → ∀ ok, ops[k]? = some ok → ∀ j cs, (ea k).putAt j = some cs → j ∈ needs ok := fun k hk ok hok j cs hp => (S.info k hk ok hok j cs hp).2.1
  obtain ⟨a', ha', hstep⟩ := S.step gs i o hin ho
  obtain ⟨e1, e2⟩ := mid.frame.same H ha' hin ho fun d hd _ => ⟨need d hd, H.back i o ho d hd⟩
  rw [e2]
  by_cases isPut : ∃ j cs, (ea i).putAt j = some cs
  · obtain ⟨j, cs, hp⟩ := isPut
    obtain ⟨⟨hea, cs0, t, hji, hbox, hsz⟩ | ⟨v, cs0, t, hea, hji, hbox, hne0⟩, hjn, _⟩ := S.info i hin o ho j cs hp
    rotate_left 1
    · obtain ⟨g0, k0, mid'⟩ := mid.use H hin ho hun need hea (S.uniq H i hin j cs hp) (by omega) hbox hne0 (need j hjn)
      rw [hea] at hstep
      obtain ⟨cs0', t', g, h1, h2, _, h4, _, h6⟩ := hstep
      obtain ⟨h1a, h1b⟩ := List.getElem?_eq_some_iff.1 h1
      simp only [List.getElem_map, List.getElem_range, Prod.mk.injEq] at h1b
      obtain ⟨h1c, rfl⟩ := h1b
      rw [hbox] at h1c
      obtain ⟨rfl, rfl⟩ : cs0 = cs0' ∧ t = t' := by simpa using h1c
      rw [if_pos h4]
      refine .inl ?_
      obtain ⟨f, args, hrun, hcall⟩ := h6 w mid.grown g0 k0
      unfold Oper.wp
      rw [e1, hrun, Oper.upon_enter]
      exact hcall.mono fun x w'' ⟨hx, hb, hfar⟩ => by subst hx; exact hK gs _ _ (mid' w'' hb hfar)
    obtain ⟨k0, mid'⟩ := mid.store H hin ho hun need hea (S.uniq H i hin j cs hp) (by omega) hbox (need j hjn)
    rw [hea] at hstep
    obtain ⟨cs0', t', g, h1, h2, _, h4, _, h6⟩ := hstep
    obtain ⟨h1a, h1b⟩ := List.getElem?_eq_some_iff.1 h1
    simp only [List.getElem_map, List.getElem_range, Prod.mk.injEq] at h1b
    obtain ⟨h1c, rfl⟩ := h1b
    rw [hbox] at h1c
    obtain ⟨rfl, rfl⟩ : cs0 = cs0' ∧ t = t' := by simpa using h1c
    rw [if_pos h4]
    refine .inl ?_
    unfold Oper.wp
    rw [e1, h6 w cs0 hsz k0]
    exact hK gs _ _ mid'
  · have hput : ∀ j, (ea i).putAt j = none := fun j => by
      cases z : (ea i).putAt j with
      | none => rfl
      | some cs => exact absurd ⟨j, cs, z⟩ isPut
    have hstep' : ∀ w, Below W.heap.size W w → depFacts (needs o) 0 ((List.range i).map (fun j => (ea j, gs j))) w → if Region.wanted o (yielded ops a'.tmps) then Yx P (ea i) w ((execOp a'.eval o).run P w) else ea i = .det undef := by
      cases e : ea i with
      | put j cs => have := hput j; rw [e] at this; simp [Exp.putAt] at this
      | use j v => have := hput j; rw [e] at this; simp [Exp.putAt] at this
      | log _ _ => rw [e] at hstep; exact hstep
      | own _ _ _ => rw [e] at hstep; exact hstep
      | det _ => rw [e] at hstep; exact hstep
      | box _ _ => rw [e] at hstep; exact hstep
      | slc _ _ _ => rw [e] at hstep; exact hstep
    have hz := hstep' w mid.grown (depFacts_of 0 _ fun d p hd hl => by
      obtain ⟨hd1, hd2⟩ := List.getElem?_eq_some_iff.1 hd
      have hdi : d < i := by simpa using hd1
      obtain rfl : (ea d, gs d) = p := by simpa using hd2
      rw [Nat.zero_add, List.contains_iff_mem] at hl
      exact Exp.fact_dep (mid.facts d (by omega) (need d hl)).1)
    have next : ∀ v w', Came (ea i) w v w' → K' (a.put o.dst v) w' := fun v w' hc => by
      obtain ⟨gs', mid'⟩ := mid.step H hin ho hun need hput puts hc
      exact hK gs' _ _ mid'
    split
    · rename_i hw
      rw [if_pos hw] at hz
      refine .inl ?_
      unfold Oper.wp
      rw [e1]
      generalize (execOp a'.eval o).run P w = r at hz
      cases r with
      | ok nx w' =>
        cases nx <;> simp only [Yx] at hz <;> simp only [Oper.upon]
        case value v => exact next v w' hz
        case enter f args =>
          obtain ⟨rfl, hc⟩ := hz
          exact hc.mono fun x w'' ⟨v, hx, hcm⟩ => by subst hx; exact next v w'' hcm
      | halt x w' => simp only [Yx] at hz
    · rename_i hw
      rw [if_neg hw] at hz
      exact next undef w (by rw [hz]; exact Came.det)

/-- All have come up. -/
theorem Mid.all {n : Nat} {W : World} {a0 : Act} {ea : Nat → Exp} {K : List (Exp × Nat) → Act → Prop} {gs : Nat → Nat} {listed : Array Bool} {a : Act} {w : World} (S : Says P ops n W a0 ea K) (mid : Mid ops n W a0 ea gs listed a w) (all : ∀ j, j < n → listed.getD j false = true) :
    ∃ done, K done a ∧ allFacts W.heap.size done 0 done w := by
  obtain ⟨a', ha', hK⟩ := S.last gs
  have e : a = a' := (mid.frame.imp (fun j hj => ⟨fun _ => hj, fun _ => all j hj⟩) fun _ _ _ => rfl).ext ha'
  subst e
  refine ⟨_, hK, allFacts_of 0 _ (fun j p hj => ?_) (fun i j p q hij hi hj fp fq => ?_)⟩
  · obtain ⟨hj1, hj2⟩ := List.getElem?_eq_some_iff.1 hj
    have hjn : j < n := by simpa using hj1
    obtain rfl : (ea j, gs j) = p := by simpa using hj2
    rw [Nat.zero_add]
    have := mid.facts j hjn (all j hjn)
    rw [cont_all gs all] at this
    exact ⟨this.1, fun z => (this.2 z).1⟩
  · obtain ⟨hi1, hi2⟩ := List.getElem?_eq_some_iff.1 hi
    obtain ⟨hj1, hj2⟩ := List.getElem?_eq_some_iff.1 hj
    have hin : i < n := by simpa using hi1
    have hjn : j < n := by simpa using hj1
    obtain rfl : (ea i, gs i) = p := by simpa using hi2
    obtain rfl : (ea j, gs j) = q := by simpa using hj2
    exact mid.apart i j hin hjn hij (all i hin) (all j hjn) fp fq

theorem wpAny_lex {n : Nat} {W : World} {a0 : Act} {ea : Nat → Exp} {Q : Exit → Act → World → Prop} {l : List Oper} (hops : ops = l.toArray) (H : HeadOk ops n) (HA : HeadAny ops n)
    (S : Says P ops n W a0 ea fun done a' => ∀ w', Below W.heap.size W w' → allFacts W.heap.size done 0 done w' → wpList P ops Q (l.drop n) a' w') :
    ∀ (m : Nat) (listed : Array Bool) (a : Act) (w : World) (gs : Nat → Nat), ((List.range n).filter (fun j => !listed.getD j false)).length = m → Mid ops n W a0 ea gs listed a w → wpAny P .any ops Q (m + (ops.size - n)) listed a w := by
  intro m
  induction m with
  | zero =>
    intro listed a w gs hm mid
    have all : ∀ j, j < n → listed.getD j false = true := fun j hj => by
      cases q : listed.getD j false with
      | true => rfl
      | false =>
        have : j ∈ (List.range n).filter (fun j => !listed.getD j false) := List.mem_filter.2 ⟨List.mem_range.2 hj, by simp [q]⟩
        rw [List.length_eq_zero_iff.1 hm] at this
        cases this
    have hl : listed = ((List.range ops.size).map (fun i => decide (i < n))).toArray := by
      apply Array.ext_getElem?
      intro t
      rcases Nat.lt_or_ge t ops.size with q | q
      · have ht : t < listed.size := by rw [mid.size]; exact q
        by_cases z : t < n
        · have := all t z
          simp [Array.getD_eq_getD_getElem?, ht] at this
          simp [ht, q, this, z]
        · have := mid.tail t (by omega)
          simp [Array.getD_eq_getD_getElem?, ht] at this
          simp [ht, q, this, z]
      · rw [Array.getElem?_eq_none (by rw [mid.size]; exact q), Array.getElem?_eq_none (by simpa using q)]
    obtain ⟨done, hK, hf⟩ := mid.all S all
    have hw := hK w mid.grown hf
    have hg : ops.size - n = (l.drop n).length := by subst hops; simp
    rw [Nat.zero_add, hg]
    refine wpAny_of_seq (l.drop n) n listed a w (fun j => by subst hops; simp) ?_ hw
    rw [hl, ← hg]
    exact HA.seq
  | succ m ih =>
    intro listed a w gs hm mid
    have ex : ∃ j, j < n ∧ listed.getD j false = false := by
      have : (List.range n).filter (fun j => !listed.getD j false) ≠ [] := fun q => by rw [q] at hm; cases hm
      obtain ⟨j, hj⟩ := List.exists_mem_of_ne_nil _ this
      have := List.mem_filter.1 hj
      exact ⟨j, List.mem_range.1 this.1, by simpa using this.2⟩
    have low : ∀ j, j < n → listed.getD j false = false → ∃ i ∈ Region.ready .any ops listed, i < n := by
      intro j
      induction j using Nat.strongRecOn with
      | _ j ihj =>
        intro hj hu
        have hjs : j < ops.size := by have := H.le; omega
        have ho : ops[j]? = some ops[j] := Array.getElem?_eq_getElem hjs
        by_cases q : ∃ d ∈ needs ops[j], listed.getD d false = false
        · obtain ⟨d, hd, hdu⟩ := q
          have := H.back j _ ho d hd
          exact ihj d this (by omega) hdu
        · refine ⟨j, mem_ready.2 ⟨getD_in (by rw [mid.size]; exact hjs) hu, _, ho, fun e he hb => ?_⟩, hj⟩
          cases z : listed.getD e.on false with
          | true => rfl
          | false => exact absurd ⟨e.on, List.mem_map.2 ⟨e, List.mem_filter.2 ⟨by simpa using he, hb⟩, rfl⟩, z⟩ q
    have onlyHead : ∀ i ∈ Region.ready .any ops listed, i < n := by
      intro i hi
      obtain ⟨hun, o, ho, hall⟩ := mem_ready.1 hi
      have need : ∀ d ∈ needs o, listed.getD d false = true := fun d hd => by
        obtain ⟨e, he, rfl⟩ := List.mem_map.1 hd
        have := List.mem_filter.1 he
        exact hall e (by simpa using this.1) this.2
      rcases Nat.lt_or_ge i n with q | q
      · exact q
      · rcases Nat.eq_or_lt_of_le q with q | q
        · subst q
          obtain ⟨j, hj, hu⟩ := ex
          have everyone : ∀ d j, d = n - j → j < n → listed.getD j false = true := by
            intro d
            induction d using Nat.strongRecOn with
            | ind d ihd =>
              intro j hd hj
              obtain ⟨k, ok, hjk, hki, hok, hmem⟩ := HA.first (Array.getElem?_eq_some_iff.1 ho).1 j hj
              rcases Nat.lt_or_eq_of_le hki with z | z
              · exact mid.closed k z (ihd (n - k) (by omega) k rfl z) ok hok j hmem
              · subst z
                have : ok = o := Option.some.inj (hok.symm.trans ho)
                subst this
                exact need j hmem
          rw [everyone _ j rfl hj] at hu
          cases hu
        · have := need (i - 1) (HA.chain i o q ho)
          rw [mid.tail (i - 1) (by omega)] at this
          cases this
    rw [show m + 1 + (ops.size - n) = (m + (ops.size - n)) + 1 by omega]
    obtain ⟨j0, hj0, hu0⟩ := ex
    obtain ⟨i0, hi0, _⟩ := low j0 hj0 hu0
    refine ⟨(fun q => by rw [q] at hi0; cases hi0), fun i hi => ?_⟩
    have hin := onlyHead i hi
    obtain ⟨hun, o, ho, hall⟩ := mem_ready.1 hi
    have need : ∀ d ∈ needs o, listed.getD d false = true := fun d hd => by
      obtain ⟨e, he, rfl⟩ := List.mem_map.1 hd
      have := List.mem_filter.1 he
      exact hall e (by simpa using this.1) this.2
    have hil : i < listed.size := by rw [mid.size]; have := H.le; omega
    have fewer : ((List.range n).filter (fun j => !(listed.setIfInBounds i true).getD j false)).length = m := by
      have key : List.Perm ((List.range n).filter (fun j => !listed.getD j false)) (i :: (List.range n).filter (fun j => !(listed.setIfInBounds i true).getD j false)) := by
        refine (List.perm_ext_iff_of_nodup (List.nodup_range.filter _) ?_).2 fun j => ?_
        · refine List.nodup_cons.2 ⟨fun q => ?_, List.nodup_range.filter _⟩
          have := (List.mem_filter.1 q).2
          rw [(set_get hil i).2 (.inl rfl)] at this
          cases this
        · simp only [List.mem_cons, List.mem_filter, List.mem_range, Bool.not_eq_true']
          constructor
          · intro ⟨h1, h2⟩
            by_cases q : j = i
            · exact .inl q
            · exact .inr ⟨h1, by rw [getD_set_ne false (Ne.symm q)]; exact h2⟩
          · intro q
            rcases q with q | ⟨h1, h2⟩
            · subst q; exact ⟨hin, getD_both hun⟩
            · have hne : j ≠ i := fun q => by subst q; rw [(set_get hil j).2 (.inl rfl)] at h2; cases h2
              rw [getD_set_ne false (Ne.symm hne)] at h2
              exact ⟨h1, h2⟩
      have := key.length_eq
      rw [hm] at this
      simpa using this.symm
    unfold wpOp
    simp only [ho]
    exact mid.next S H hin ho hun need fun gs' a' w' mid' => ih _ _ _ gs' fewer mid'

/-- The same where the order is the text's. -/
theorem wpList_lex {n : Nat} {W : World} {a0 : Act} {ea : Nat → Exp} {Q : Exit → Act → World → Prop} {l : List Oper} (hops : ops = l.toArray) (H : HeadOk ops n)
    (S : Says P ops n W a0 ea fun done a' => ∀ w', Below W.heap.size W w' → allFacts W.heap.size done 0 done w' → wpList P ops Q (l.drop n) a' w') :
    ∀ (m k : Nat) (listed : Array Bool) (a : Act) (w : World) (gs : Nat → Nat), k + m = n → (∀ j, listed.getD j false = true ↔ j < k) → Mid ops n W a0 ea gs listed a w → wpList P ops Q (l.drop k) a w := by
  intro m
  induction m with
  | zero =>
    intro k listed a w gs hk hl mid
    have hkn : k = n := by omega
    subst hkn
    obtain ⟨done, hK, hf⟩ := mid.all S fun j hj => (hl j).2 hj
    exact hK w mid.grown hf
  | succ m ih =>
    intro k listed a w gs hk hl mid
    have hkn : k < n := by omega
    have hks : k < ops.size := by have := H.le; omega
    have hkl : k < l.length := by subst hops; simpa using hks
    have ho : ops[k]? = some l[k] := by subst hops; simp [hkl]
    rw [List.drop_eq_getElem_cons hkl]
    have hil : k < listed.size := by rw [mid.size]; exact hks
    have hun : listed.getD k true = false := getD_in hil (by
      cases q : listed.getD k false with
      | false => rfl
      | true => have := (hl k).1 q; omega)
    exact mid.next S H hkn ho hun (fun d hd => (hl d).2 (H.back k _ ho d hd)) fun gs' a' w' mid' => ih (k + 1) _ a' w' gs' (by omega) (fun j => by rw [set_get hil, hl j]; omega) mid'

theorem run_store_agg {o : Oper} {a : Act} {w : World} {ty : TypeId} {x y : Operand} {g : Nat} {t : TypeId} {cs old : Array Value} (ho : o.op = .store ty x y) (hx : a.eval x = .pointer (some ⟨g, 0, none⟩)) (hy : a.eval y = .agg cs)
    (hi : (P.info? ty).map (·.size) = some cs.size) (h1 : cs.all (·.oneCell') = true) (hs : old.size = cs.size) (hg : w.heap[g]? = some (.cells old t (0, 0))) : (execOp a.eval o).run P w = .ok .skip (w.setRow g cs) := by
  unfold execOp
  simp only [ho, hx, hy, Instr.storeAt, Instr.sureAddr, Sem.run_bind, Sem.run_pure, Result.andThen_ok, run_storeVar_row w g t ty old cs hg hi hs h1]
theorem Mid.start {n : Nat} {W w : World} {a : Act} {ea : Nat → Exp} (gs : Nat → Nat) (hw : Below W.heap.size W w) : Mid ops n W a ea gs (Array.replicate ops.size false) a w :=
  ⟨by simp, fun t _ => getD_replicate_false _ _, (fun k _ hl => by rw [getD_replicate_false] at hl; cases hl), hw, ⟨rfl, rfl, (fun i _ hs => by rw [getD_replicate_false] at hs; cases hs), fun t _ => rfl⟩, (fun j _ hl => by rw [getD_replicate_false] at hl; cases hl), fun i j _ _ _ hl => by rw [getD_replicate_false] at hl; cases hl⟩

/-- **The region.** -/
theorem wp_region_lex {id : Nat} {Q : Exit → Act → World → Prop} {a : Act} {W : World} {l : List Oper} (n : Nat) (es : List Exp) (hm : P.follows .mixedOrders = true) (hB : headOkT l.toArray n = true) (hA : headOkA l.toArray n = true)
    (h : Lex P l.toArray W (fun done a' => ∀ w', Below W.heap.size W w' → allFacts W.heap.size done 0 done w' → wpList P l.toArray Q (l.drop n) a' w') (l.take n) es [] a) : (Code.region id l.toArray true).wp P Q a W := by
  have H := headOkT_spec hB
  have hle : n ≤ l.length := by simpa using H.le
  have hlen : (l.take n).length = n := by simp; omega
  have S := Lex.says (ea := fun j => es.getD j (.det undef)) rfl H (fun j hj => by simp [hj]) hlen h
  refine wp_region_any hm ?_
  have hfil : ((List.range n).filter (fun j => !(Array.replicate l.toArray.size false).getD j false)).length = n := by
    have : (List.range n).filter (fun j => !(Array.replicate l.toArray.size false).getD j false) = List.range n := List.filter_eq_self.2 fun j _ => by rw [getD_replicate_false]; rfl
    rw [this, List.length_range]
  have hsz : l.toArray.size = n + (l.toArray.size - n) := by simp; omega
  have := wpAny_lex rfl H (headOkA_spec hA) S n (Array.replicate l.toArray.size false) a { W with drawn := W.drawn + 1 } (fun _ => 0) hfil (Mid.start _ ⟨rfl, rfl, rfl, Nat.le_refl _, fun _ _ => rfl⟩)
  rw [← hsz] at this
  exact this
theorem wp_region_text {id : Nat} {Q : Exit → Act → World → Prop} {a : Act} {W : World} {l : List Oper} (n : Nat) (hB : headOkT l.toArray n = true)
    (h : ∃ es, Lex P l.toArray W (fun done a' => ∀ w', Below W.heap.size W w' → allFacts W.heap.size done 0 done w' → wpList P l.toArray Q (l.drop n) a' w') (l.take n) es [] a) : (Code.region id l.toArray false).wp P Q a W := by
  obtain ⟨es, h⟩ := h
  have H := headOkT_spec hB
  have hle : n ≤ l.length := by simpa using H.le
  have hlen : (l.take n).length = n := by simp; omega
  have S := Lex.says (ea := fun j => es.getD j (.det undef)) rfl H (fun j hj => by simp [hj]) hlen h
  refine wp_region_lit ?_
  have := wpList_lex rfl H S n 0 (Array.replicate l.toArray.size false) a W (fun _ => 0) (by omega) (fun j => by rw [getD_replicate_false]; simp) (Mid.start _ (Below.refl _ _))
  simpa using this
/-- Which law an operation takes. -/
def kindOf (o : Op) : Nat :=
  match o with
  | .call c => match c.callee with
    | .builtin _ => 0
    | _ => 1
  | .alloc _ => 2
  | .box _ _ => 2
  | .buildSlice _ _ _ => 3
  | .store _ _ _ => 4
  | _ => 0
/-- The region, what stands behind it and the operations under names. -/
theorem wp_region_lexK {id : Nat} {b : Bool} {Q : Exit → Act → World → Prop} {a : Act} {W : World} {l : List Oper} (n : Nat) (hm : P.follows .mixedOrders = true) (hB : headOk b l.toArray n = true)
    (h : ∀ (K : List (Exp × Nat) → Act → Prop) (ops' : Array Oper), ops' = l.toArray → (∀ done a', (∀ w', Below W.heap.size W w' → allFacts W.heap.size done 0 done w' → wpList P l.toArray Q (l.drop n) a' w') → K done a') → ∃ es, Lex P ops' W K (l.take n) es [] a) : (Code.region id l.toArray b).wp P Q a W := by
  obtain ⟨es, z⟩ := h _ _ rfl fun _ _ q => q
  simp only [headOk, Bool.and_eq_true] at hB
  cases b with
  | true => exact wp_region_lex n es hm hB.1 (by simpa using hB.2) z
  | false => exact wp_region_text n hB.1 ⟨es, z⟩
variable {W : World} {K : List (Exp × Nat) → Act → Prop} {o : Oper} {os : List Oper} {es : List Exp} {done : List (Exp × Nat)} {a a' : Act}
theorem Lex_end (h : K done a) : Lex P ops W K [] [] done a := h
theorem Lex_det {v : Value} (_ : kindOf o.op = 0) (hw : Region.wanted o (yielded ops a.tmps) = true) (hrun : ∀ w, Below W.heap.size W w → depFacts (needs o) 0 done w → (execOp a.eval o).run P w = .ok (.value v) w)
    (ha : Unit → a.put o.dst v = a') (h : ∀ g, Lex P ops W K os es (done ++ [(.det v, g)]) a') : Lex P ops W K (o :: os) (.det v :: es) done a := by
  obtain rfl := ha (); exact ⟨fun w h1 h2 => by rw [if_pos hw, hrun w h1 h2]; exact Came.det, h⟩
theorem Lex_skip (hw : Region.wanted o (yielded ops a.tmps) = false) (ha : Unit → a.put o.dst undef = a') (h : ∀ g, Lex P ops W K os es (done ++ [(.det undef, g)]) a') : Lex P ops W K (o :: os) (.det undef :: es) done a := by
  obtain rfl := ha (); exact ⟨fun w _ _ => by rw [if_neg (by rw [hw]; exact Bool.false_ne_true)], h⟩
theorem Lex_call {f : FuncId} {args : Array Value} {v : Value} (_ : kindOf o.op = 1) (hw : Region.wanted o (yielded ops a.tmps) = true) (hrun : ∀ w, (execOp a.eval o).run P w = .ok (.enter f args) w)
    (hc : ∀ w, Below W.heap.size W w → depFacts (needs o) 0 done w → Calls P f args w fun e w' => e = .returned v ∧ Below w.heap.size w w')
    (ha : Unit → a.put o.dst v = a') (h : ∀ g, Lex P ops W K os es (done ++ [(.det v, g)]) a') : Lex P ops W K (o :: os) (.det v :: es) done a := by
  obtain rfl := ha (); exact ⟨fun w h1 h2 => by rw [if_pos hw, hrun w]; exact ⟨rfl, (hc w h1 h2).mono fun e w' ⟨he, hb⟩ => ⟨v, he, 0, rfl, trivial, (fun z => by cases z), hb⟩⟩, h⟩
theorem Lex_box {cs : Array Value} {t : TypeId} {a' : Nat → Act} (_ : kindOf o.op = 2) (hw : Region.wanted o (yielded ops a.tmps) = true) (hrun : ∀ w, Below W.heap.size W w → depFacts (needs o) 0 done w → (execOp a.eval o).run P w = .ok (.value (.pointer (some ⟨w.heap.size, 0, none⟩))) (w.alloc (.cells cs t)))
    (ha : ∀ g, a.put o.dst (.pointer (some ⟨g, 0, none⟩)) = a' g) (h : ∀ g, Lex P ops W K os es (done ++ [(.box cs t, g)]) (a' g)) : Lex P ops W K (o :: os) (.box cs t :: es) done a :=
  ⟨fun w h1 h2 => by rw [if_pos hw, hrun w h1 h2]; exact ⟨w.heap.size, rfl, blk_new _ _, fun _ => ⟨Nat.le_refl _, by simp [Exp.blk]⟩, (Below.refl _ _).alloc (Nat.le_refl _) _⟩, fun g => by show Lex P ops W K os es _ (a.put o.dst (.pointer (some ⟨g, 0, none⟩))); rw [ha g]; exact h g⟩
theorem Lex_slc {n : Nat} {cs : Array Value} {t : TypeId} {a' : Nat → Act} (_ : kindOf o.op = 3) (hw : Region.wanted o (yielded ops a.tmps) = true) (hrun : ∀ w, Below W.heap.size W w → depFacts (needs o) 0 done w → (execOp a.eval o).run P w = .ok (.value (.slice (some ⟨w.heap.size, 0, none⟩) n n)) (w.alloc (.cells cs t)))
    (ha : ∀ g, a.put o.dst (.slice (some ⟨g, 0, none⟩) n n) = a' g) (h : ∀ g, Lex P ops W K os es (done ++ [(.slc n cs t, g)]) (a' g)) : Lex P ops W K (o :: os) (.slc n cs t :: es) done a :=
  ⟨fun w h1 h2 => by rw [if_pos hw, hrun w h1 h2]; exact ⟨w.heap.size, rfl, blk_new _ _, fun _ => ⟨Nat.le_refl _, by simp [Exp.blk]⟩, (Below.refl _ _).alloc (Nat.le_refl _) _⟩, fun g => by show Lex P ops W K os es _ (a.put o.dst (.slice (some ⟨g, 0, none⟩) n n)); rw [ha g]; exact h g⟩
theorem Lex_bs {n : Nat} {cs : Array Value} {t e : TypeId} {parts : Array (Nat × Operand)} {ps : List (Nat × Value)} {z : Value} {a' : Nat → Act} (ho : o.op = .buildSlice t n parts) (hw : Region.wanted o (yielded ops a.tmps) = true)
    (hu : P.underlying t = some (.slice e)) (hi : (P.info? e).map (fun i => (i.zero, i.size)) = some (some z, 1)) (hn : 0 < n) (hn' : n ≤ 16777216) (hps : Unit → (parts.map fun (i, x) => (i, a.eval x)).toList = ps)
    (hv : Unit → ((((ps.map (·.2)).zipIdx 0).map fun x => (x.2, x.1)) = ps ∧ (ps.map (·.2)).length = n ∧ (ps.map (·.2)).all (fun v => v.cells.size == 1) = true)) (hc : Unit → ((ps.map (·.2)).flatMap fun v => v.cells.toList).toArray = cs)
    (ha : ∀ g, a.put o.dst (.slice (some ⟨g, 0, none⟩) n n) = a' g) (h : ∀ g, Lex P ops W K os es (done ++ [(.slc n cs e, g)]) (a' g)) : Lex P ops W K (o :: os) (.slc n cs e :: es) done a := by
  cases hie : P.info? e with
  | none => simp [hie] at hi
  | some ie =>
    simp only [hie, Option.map_some, Option.some.injEq, Prod.mk.injEq] at hi
    obtain ⟨hz, hs⟩ := hi
    obtain ⟨v1, v2, v3⟩ := hv ()
    have hf : Instr.fill (fun i => some (i * 1, 1)) ((Array.range (n * 1)).map (z.cells[· % z.cells.size]!)) ps = some cs := by
      have := Great.fill_whole (s := 1) (by omega) (ps.map (·.2)) ((Array.range (n * 1)).map (z.cells[· % z.cells.size]!)) (fun v hv => by simpa using List.all_eq_true.1 v3 v hv) (by rw [v2]; simp)
      rw [v1, hc ()] at this
      exact this
    have run : ∀ w, (execOp a.eval o).run P w = .ok (.value (.slice (some ⟨w.heap.size, 0, none⟩) n n)) (w.alloc (.cells cs e)) := fun w => by
      unfold execOp
      simp only [ho, Sem.run_bind, run_buildSlice w t e n _ cs ie z hu hie hz (by rw [hs]; omega) (by rw [hs]; omega) (by rw [hs, hps ()]; exact hf), Result.andThen_ok]
      rfl
    exact ⟨fun w _ _ => by rw [if_pos hw, run w]; exact ⟨w.heap.size, rfl, blk_new _ _, fun _ => ⟨Nat.le_refl _, by simp [Exp.blk]⟩, (Below.refl _ _).alloc (Nat.le_refl _) _⟩, fun g => by show Lex P ops W K os es _ (a.put o.dst (.slice (some ⟨g, 0, none⟩) n n)); rw [ha g]; exact h g⟩
theorem Lex_put {j g : Nat} {cs cs0 : Array Value} {t : TypeId} (hw : Region.wanted o (yielded ops a.tmps) = true) (hj : done[j]? = some (.box cs0 t, g)) (hn : (needs o).contains j = true) (hu : (done.all fun p => (p.1.putAt j).isNone) = true)
    (hrun : ∀ w old, old.size = cs.size → w.heap[g]? = some (.cells old t (0, 0)) → (execOp a.eval o).run P w = .ok .skip (w.setRow g cs)) (hs : cs0.size = cs.size)
    (h : ∀ g', Lex P ops W K os es (done ++ [(.put j cs, g')]) (a.put o.dst undef)) : Lex P ops W K (o :: os) (.put j cs :: es) done a :=
  ⟨⟨cs0, t, g, hj, hs, List.contains_iff_mem.1 hn, hw, (fun p hp => Option.isNone_iff_eq_none.1 (List.all_eq_true.1 hu p hp)), hrun⟩, h⟩
theorem Lex_put_agg {ty : TypeId} {x y : Operand} {j g : Nat} {cs cs0 : Array Value} {t : TypeId} (ho : o.op = .store ty x y) (hx : a.eval x = .pointer (some ⟨g, 0, none⟩)) (hy : a.eval y = .agg cs)
    (hw : Region.wanted o (yielded ops a.tmps) = true) (hd : o.dst = none) (hj : done[j]? = some (.box cs0 t, g)) (hn : (needs o).contains j = true) (hu : (done.all fun p => (p.1.putAt j).isNone) = true)
    (hi : (P.info? ty).map (·.size) = some cs0.size) (h1 : cs.all (·.oneCell') = true) (hs : cs0.size = cs.size)
    (h : ∀ g', Lex P ops W K os es (done ++ [(.put j cs, g')]) a) : Lex P ops W K (o :: os) (.put j cs :: es) done a :=
  Lex_put hw hj hn hu (fun _ _ ho' hg' => run_store_agg ho hx hy (by rw [hi, hs]) h1 ho' hg') hs (by rw [hd]; exact h)
end
end Go.Proofs.YthnackakgglhbaaGreat

/- Rows of bytes, appends, makes, conversions: plain words over a program. -/
import Derived.Test.YtjigckibbjfkmaaGreatDoorProg
import Derived.Test.YtjigckibbjfkmaaGreatDoorWd
import Derived.Test.YtjigckibbjfkmaaGreatDoorLexR
import Derived.KernelRfl
import Derived.Outline
import Derived.IntWalk
import Derived.Deep.DeepCutAuto
import Derived.Laws.AppendOwn
import Derived.Laws.OwnMore
import Derived.Laws.MakeOwn
import Derived.Deep.AppendLies
import Derived.OwnWalk
import Derived.Laws.BytesArg
import Derived.Lib.ConvBytes
import Derived.Lib.AppendStr
import Derived.Laws.CopyOwn
import Derived.Deep.RegionWith
import Derived.RegionTactic
namespace Go.Proofs.YtjigckibbjfkmaaGreatDoor
open Go.RowKit Go.Lib
set_option maxRecDepth 100000
set_option linter.unusedSimpArgs false
set_option linter.unusedVariables false
variable {P : Program} {R : Nat → Value} {W W1 : World}
theorem add_pl (g j : Nat) : (⟨g, 0, none⟩ : Addr).add j = ⟨g, j, none⟩ := by unfold Addr.add; split <;> simp_all
theorem grow_cell {W w : World} {p : Addr} {v : Value} (h : Below W.heap.size W w) (k : W.cell? p = some v) : w.cell? p = some v := by
  rw [h.cell (World.block_lt_of_cell? W _ k)]; exact k
theorem carry {W2 E W : World} {g : Nat} {o : Obj} (hW : W2 = E) (k : W.heap[g]? = some o) (h : W.heap[g]? = some o → E.heap[g]? = some o) : W2.heap[g]? = some o := by rw [hW]; exact h k
theorem setRow_blk {w : World} {g : Nat} {t : TypeId} {old : Array Value} (k : w.heap[g]? = some (.cells old t (0, 0))) (cs : Array Value) : (w.setRow g cs).heap[g]? = some (.cells cs t (0, 0)) := setRow_heap w g old cs t _ k
theorem setRow_far {w : World} {g k : Nat} {o : Obj} (h : w.heap[k]? = some o) (hk : k ≠ g) (cs : Array Value) : (w.setRow g cs).heap[k]? = some o := (setRow_other w g k cs hk).trans h
theorem bl_row {w W : World} (g : Nat) (cs : Array Value) (hp : w.heap.size ≤ g) (h : Below w.heap.size w W) : Below w.heap.size w (W.setRow g cs) := below_setRow h hp cs
/-- All blocks of w but those of F are as they were. -/
structure Apart (F : Nat → Prop) (w W : World) : Prop where
  os : W.os = w.os
  tape : W.tape = w.tape
  output : W.output = w.output
  size : w.heap.size ≤ W.heap.size
  block : ∀ b, b < w.heap.size → ¬ F b → W.heap[b]? = w.heap[b]?
theorem Apart.refl (F : Nat → Prop) (w : World) : Apart F w w := ⟨rfl, rfl, rfl, Nat.le_refl _, fun _ _ _ => rfl⟩
theorem Apart.below {w W : World} (h : Apart (fun _ => False) w W) : Below w.heap.size w W := ⟨h.os, h.tape, h.output, h.size, fun b hb => h.block b hb id⟩
theorem Below.apart {w W : World} {F : Nat → Prop} (h : Below w.heap.size w W) : Apart F w W := ⟨h.os, h.tape, h.output, h.size, fun b hb _ => h.block b hb⟩
theorem Apart.mono {F G : Nat → Prop} {w W : World} (h : Apart F w W) (hs : ∀ b, F b → G b) : Apart G w W := ⟨h.os, h.tape, h.output, h.size, fun b hb hn => h.block b hb fun q => hn (hs b q)⟩
/-- Only block g is another one. -/
abbrev Turned (g : Nat) (w w' : World) : Prop := Apart (fun b => b = g) w w'
theorem Apart.after {F : Nat → Prop} {w W W1 : World} (h : Apart F W W1) (hb : Below w.heap.size w W) : Apart F w W1 :=
  ⟨h.os.trans hb.os, h.tape.trans hb.tape, h.output.trans hb.output, Nat.le_trans hb.size h.size, fun b q hn => (h.block b (Nat.lt_of_lt_of_le q hb.size) hn).trans (hb.block b q)⟩
theorem Apart.then {F : Nat → Prop} {w W W1 : World} (h : Apart F w W) (hb : Below W.heap.size W W1) : Apart F w W1 :=
  ⟨hb.os.trans h.os, hb.tape.trans h.tape, hb.output.trans h.output, Nat.le_trans h.size hb.size, fun b q hn => (hb.block b (Nat.lt_of_lt_of_le q h.size)).trans (h.block b q hn)⟩
theorem turned_set (w : World) (p : Addr) (v : Value) : Turned p.block w (w.setCell p v) := ⟨rfl, rfl, rfl, by simp [World.setCell], fun b _ hn => Below.heap_setCell w p v b hn⟩
theorem cell_lt' {w : World} {a : Addr} {v : Value} (h : w.cell? a = some v) : a.block < w.heap.size := by
  apply Nat.lt_of_not_le
  intro q
  have : w.heap[a.block]? = none := Array.getElem?_eq_none q
  simp [World.cell?, this] at h
theorem cell_of_block {w w' : World} {b o : Nat} (h : w'.heap[b]? = w.heap[b]?) : w'.cell? ⟨b, o, none⟩ = w.cell? ⟨b, o, none⟩ := World.cell?_of_block (a := ⟨b, o, none⟩) h
theorem ownsRow_block {w w' : World} {base : Nat} {e : TypeId} {size : Nat} {v : Value} {n : Nat} {xs : List Value} (h : w.ownsRow base e size v n xs) (hb : ∀ g, v.ownBlock = some g → w'.heap[g]? = w.heap[g]?) : w'.ownsRow base e size v n xs := by
  refine ⟨h.1, ?_⟩
  rcases h.2 with q | ⟨g, cap, cur, hv, h1, h2, h3⟩
  · exact .inl q
  · exact .inr ⟨g, cap, cur, hv, h1, (hb g (by rw [hv]; rfl)).trans h2, h3⟩
theorem ownsRow_lt {w : World} {base : Nat} {e : TypeId} {size : Nat} {v : Value} {n : Nat} {xs : List Value} (h : w.ownsRow base e size v n xs) {g : Nat} (hg : v.ownBlock = some g) : base ≤ g ∧ g < w.heap.size := by
  rcases h.2 with ⟨q, _⟩ | ⟨g', cap, cur, hv, h1, h2, _⟩
  · rw [q] at hg; cases hg
  · rw [hv] at hg
    cases hg
    exact ⟨h1, (Array.getElem?_eq_some_iff.1 h2).1⟩
theorem wpList_app1 {ops : Array Oper} {rest : List Oper} {o : Oper} {a : Act} {w : World} {Q : Exit → Act → World → Prop} (hgd : o.guard = none) (s x : Operand) (t : TypeId)
    (ho : o.op = .call { callee := .builtin .append, args := #[s, x], argTypes := #[t, t] }) (base : Nat) (e : TypeId) (z : Value) (bytes : Nat) (ht : P.underlying t = some (.slice e))
    (hinfo : (P.info? e).map (fun i => (i.zero, i.size, i.bytes)) = some (some z, 1, bytes)) (hz : z.cells.size = 1) (hbb : bytes ≤ 1000)
    (sv : Value) (n : Nat) (vs : List Value) (hs : a.eval s = sv) (hown : w.ownsRow base e 1 sv n vs) (gx c : Nat) (y : Value) (hx : a.eval x = .slice (some ⟨gx, 0, none⟩) 1 c) (hy : w.cell? ⟨gx, 0, none⟩ = some y) (h1 : y.oneCell' = true)
    (hn : n ≤ 1000000) (hbase : base ≤ w.heap.size)
    (h : ∀ g cap w', w'.ownsRow base e 1 (.slice (some ⟨g, 0, none⟩) (n + 1) cap) (n + 1) (vs ++ [y]) → w.grownBy w' sv.ownBlock → (sv.ownBlock = some g ∨ g = w.heap.size) → g < w'.heap.size → wpList P ops Q rest (a.put o.dst (.slice (some ⟨g, 0, none⟩) (n + 1) cap)) w') : wpList P ops Q (o :: rest) a w := by
  obtain ⟨i, hi, hz0, hz1, hz2⟩ := info_parts hinfo
  refine wpList_append_lies w hgd s x t ho base e i z 1 bytes ht hi hz0 hz1 hz2 hz (by omega) sv n vs hs hown ⟨gx, 0, none⟩ 1 c [y] hx rfl (fun j u hj => ?_) (fun u hu => by rw [List.mem_singleton.1 hu]; exact h1) (by omega) (by simp only [maxLen]; omega) ?_ hbase w.heap.size rfl h
  · cases j with
    | zero => cases hj; exact hy
    | succ j => simp at hj
  · have := Nat.mul_le_mul (show n + 1 ≤ 1000001 by omega) hbb
    omega
theorem wpList_make0 {ops : Array Oper} {rest : List Oper} {o : Oper} {a : Act} {w : World} {Q : Exit → Act → World → Prop} (hg : o.guard = none) (l c : Operand) (t : TypeId) (hop : o.op = Op.makeSlice t l c)
    (base : Nat) (e : TypeId) (z : Value) (bytes : Nat) (ht : P.underlying t = some (.slice e)) (hinfo : (P.info? e).map (fun i => (i.zero, i.size, i.bytes)) = some (some z, 1, bytes)) (hbb : bytes ≤ 1000)
    (C : Int) (n : Nat) (hl : a.eval l = .int .i64 0) (hc : a.eval c = .int .i64 C) (hC : C = (n : Int)) (hn : n ≤ 1000000) (b4 : base ≤ w.heap.size)
    (hK : ∀ w', w'.ownsRow base e 1 (.slice (some ⟨w.heap.size, 0, none⟩) 0 n) 0 [] → w.grownBy w' none → wpList P ops Q rest (a.put o.dst (.slice (some ⟨w.heap.size, 0, none⟩) 0 n)) w') : wpList P ops Q (o :: rest) a w := by
  obtain ⟨i, hi, hz0, hz1, hz2⟩ := info_parts hinfo
  refine wpList_make_own w hg l c t hop base e i z 1 ht hi hz0 hz1 .i64 .i64 C n hl hc hC ?_ (by simp only [maxLen]; omega) b4 hK
  have := Nat.mul_le_mul hbb hn
  rw [hz2]; omega
theorem grown_below {B : Nat} {a w w' : World} {v : Value} (h : Below B a w) (hg : w.grownBy w' v.ownBlock) (hB : B ≤ w.heap.size) (hr : ∀ g, v.ownBlock = some g → B ≤ g) : Below B a w' := h.grown hg hB hr
theorem grown_blk {w w' : World} {r : Option Nat} {g : Nat} {o : Obj} (hg : w.grownBy w' r) (k : w.heap[g]? = some o) (hne : r ≠ some g) : w'.heap[g]? = some o := (hg.block g (blk_lt k) fun q => hne q.symm).trans k
theorem madeCells_one (c : Value) (n : Nat) : madeCells #[c] n = Array.replicate n c := by
  apply Array.ext'
  rw [toList_madeCells_one]; simp
theorem wpList_makeN {ops : Array Oper} {rest : List Oper} {o : Oper} {a : Act} {w : World} {Q : Exit → Act → World → Prop} (hg : o.guard = none) (l c : Operand) (t : TypeId) (hop : o.op = Op.makeSlice t l c)
    (e : TypeId) (z cell : Value) (bytes : Nat) (ht : P.underlying t = some (.slice e)) (hinfo : (P.info? e).map (fun i => (i.zero, i.size, i.bytes)) = some (some z, 1, bytes)) (hz : z.cells = #[cell]) (hbb : bytes ≤ 1000)
    (L : Int) (n : Nat) (hl : a.eval l = .int .i64 L) (hc : a.eval c = .int .i64 L) (hL : L = (n : Int)) (hn : n ≤ 1000000)
    (hK : wpList P ops Q rest (a.put o.dst (.slice (some ⟨w.heap.size, 0, none⟩) n n)) (w.alloc (.cells (Array.replicate n cell) e))) : wpList P ops Q (o :: rest) a w := by
  obtain ⟨i, hi, hz0, hz1, hz2⟩ := info_parts hinfo
  subst hL
  have hb : i.bytes * n ≤ 281474976710656 := by rw [hz2]; have := Nat.mul_le_mul hbb hn; omega
  refine wpList_plain hg fun K hK' => ?_
  have hb2 : (i.bytes : Int) * (n : Int) ≤ 281474976710656 := by
    have : ((i.bytes * n : Nat) : Int) ≤ 281474976710656 := by omega
    rwa [Int.natCast_mul] at this
  have hr := run_make (P := P) w t e i z ht hi hz0 .i64 .i64 (n : Int) (n : Int) (by omega) (Int.le_refl _) hb2 (by omega)
  simp only [Int.toNat_natCast, hz1, Nat.mul_one, hz, madeCells_one] at hr
  unfold Oper.wp
  simp [execOp, hop, hl, hc, hr, Result.andThen]
  exact hK' _ _ hK
/-- A byte's cell. -/
def bv (b : UInt8) : Value := .int .u8 (b.toNat : Int)
/-- A slice of these bytes. -/
def RowB (w : World) (sv : Value) (bs : List UInt8) : Prop := ∃ ao cap, sv = .slice ao bs.length cap ∧ (ao = none → bs = [] ∧ cap = 0) ∧ ∀ k (h : k < bs.length), ∃ g off, ao = some ⟨g, off, none⟩ ∧ w.cell? ⟨g, off + k, none⟩ = some (bv bs[k])
theorem RowB.nil (w : World) : RowB w (.slice none 0 0) [] := ⟨none, 0, rfl, fun _ => ⟨rfl, rfl⟩, fun k h => by simp at h⟩
theorem RowB.of {w : World} {g off cap : Nat} {bs : List UInt8} (h : ∀ k (h : k < bs.length), w.cell? ⟨g, off + k, none⟩ = some (bv bs[k])) : RowB w (.slice (some ⟨g, off, none⟩) bs.length cap) bs := ⟨_, cap, rfl, fun q => by simp at q, fun k hk => ⟨g, off, rfl, h k hk⟩⟩
/-- A slice's length. -/
def slen : Value → Nat
  | .slice _ n _ => n
  | _ => 0
theorem RowB.grow {w w' : World} {sv : Value} {bs : List UInt8} (h : RowB w sv bs) (hb : Below w.heap.size w w') : RowB w' sv bs := by
  obtain ⟨ao, cap, h1, h2, h3⟩ := h
  refine ⟨ao, cap, h1, h2, fun k hk => ?_⟩
  obtain ⟨g, off, e, hc⟩ := h3 k hk
  exact ⟨g, off, e, by rw [hb.cell (p := ⟨g, off + k, none⟩) (cell_lt' hc)]; exact hc⟩
theorem bv_cells (w : World) (g off : Nat) (bs : List UInt8) (hr : ∀ k (h : k < bs.length), w.cell? ⟨g, off + k, none⟩ = some (bv bs[k])) : ∀ j u, (bs.map bv)[j]? = some u → w.cell? ((⟨g, off, none⟩ : Addr).add j) = some u := fun j u hj => by
  have hl : j < bs.length := by
    have := (List.getElem?_eq_some_iff.1 hj).1
    simpa using this
  rw [List.getElem?_map, List.getElem?_eq_getElem hl] at hj
  have e : bv bs[j] = u := by simpa using hj
  rw [← e, Addr.add_lit]
  exact hr j hl
theorem run_append_zero {P : Program} {w : World} (base : Nat) (t ty e : TypeId) (i : TypeInfo) (size : Nat) (ht : P.underlying t = some (.slice e)) (hi : P.info? e = some i) (v : Value) (n : Nat) (xs : List Value) (hown : w.ownsRow base e size v n xs) (ad : Addr) (c : Nat) :
    (Builtin.append_ #[t, t] ty #[v, .slice (some ad) 0 c]).run P w = .ok v w := by
  rcases hown.2 with ⟨rfl, rfl⟩ | ⟨g, cap, cur, rfl, _, _, hnc, _⟩
  · simp [Builtin.append_, run_underlying ht, sizeOf, typeInfo, hi, Builtin.lenOf, Builtin.firstCells, loadCells, loadCellsFrom, storeCells]
  · simp [Builtin.append_, run_underlying ht, sizeOf, typeInfo, hi, Builtin.lenOf, Builtin.firstCells, hnc, storeCells, loadCells, loadCellsFrom]
theorem wpList_app_rowB {ops : Array Oper} {rest : List Oper} {o : Oper} {a : Act} {w : World} {Q : Exit → Act → World → Prop} (hgd : o.guard = none) (s x : Operand)
    (ho : o.op = .call { callee := .builtin .append, args := #[s, x], argTypes := #[49, 49] }) (base : Nat) (sv0 sv : Value) (n : Nat) (vs : List Value) (bs : List UInt8)
    (hs : a.eval s = sv0) (hown : w.ownsRow base 5 1 sv0 n vs) (hx : a.eval x = sv) (hr : RowB w sv bs) (hn : n + bs.length ≤ 1000000) (hbase : base ≤ w.heap.size)
    (h : ∀ sv' w', w'.ownsRow base 5 1 sv' (n + bs.length) (vs ++ bs.map bv) → w.grownBy w' sv0.ownBlock → (∀ g, sv'.ownBlock = some g → sv0.ownBlock = some g ∨ w.heap.size ≤ g) → wpList Tryz.prog ops Q rest (a.put o.dst sv') w') : wpList Tryz.prog ops Q (o :: rest) a w := by
  obtain ⟨i, hi, hz0, hz1, hz2⟩ := info_parts (P := Tryz.prog) (e := 5) (z := .int .u8 0) (size := 1) (bytes := 1) (by kernel_rfl)
  have same : bs = [] → ∀ (hrun : (Builtin.append_ #[49, 49] o.type #[sv0, sv]).run Tryz.prog w = .ok sv0 w), wpList Tryz.prog ops Q (o :: rest) a w := fun hb hrun => by
    subst hb
    refine wpList_plain hgd fun K hK' => ?_
    unfold Oper.wp
    simp [execOp, ho, resolve, invoke, builtin, hs, hx, hrun, Result.andThen]
    exact hK' _ _ (h sv0 w (by simpa using hown) (World.grownBy.refl w _) fun g hg => .inl hg)
  obtain ⟨ao, cap, rfl, hno, hcc⟩ := hr
  rcases ao with _ | ad
  · obtain ⟨hb, rfl⟩ := hno rfl
    subst hb
    exact same rfl (run_append_owned_none w base _ _ 5 i 1 Tryz.underlying49 hi sv0 n vs hown)
  · by_cases hb : bs = []
    · refine same hb ?_
      subst hb
      exact run_append_zero base _ _ 5 i 1 Tryz.underlying49 hi sv0 n vs hown _ _
    · have hpos : 0 < bs.length := List.length_pos_iff.2 hb
      obtain ⟨g, off, hgo, _⟩ := hcc 0 hpos
      have hc : ∀ k (h : k < bs.length), w.cell? ⟨g, off + k, none⟩ = some (bv bs[k]) := fun k hk => by
        obtain ⟨g', off', hgo', hc'⟩ := hcc k hk
        rw [hgo] at hgo'
        cases hgo'
        exact hc'
      cases hgo
      refine wpList_append_lies w hgd s x 49 ho base 5 i _ 1 1 Tryz.underlying49 hi hz0 hz1 hz2 rfl (by omega) sv0 n vs hs hown ⟨g, off, none⟩ bs.length cap (bs.map bv) hx (by simp) (bv_cells w g off bs hc) (fun u hu => by obtain ⟨b, _, rfl⟩ := List.mem_map.1 hu; rfl) hpos (by simp only [maxLen]; omega) (by omega) hbase w.heap.size rfl ?_
      intro g2 cap2 w' h1 h2 h3 _
      refine h _ w' h1 h2 fun g3 hg3 => ?_
      have e : g2 = g3 := by simpa [Value.ownBlock] using hg3
      rcases h3 with q | q
      · exact .inl (by rw [q, e])
      · exact .inr (by omega)
theorem empty_owns (w : World) (base : Nat) (e : TypeId) (hb : base ≤ w.heap.size) : (w.alloc (.cells #[] e)).ownsRow base e 1 (.slice (some ⟨w.heap.size, 0, none⟩) 0 0) 0 [] :=
  ⟨rfl, .inr ⟨w.heap.size, 0, #[], rfl, hb, heap_alloc_new w _, by omega, by simp [maxLen], rfl, rfl⟩⟩
/-- What a function returns that makes a slice of its own. -/
def OwnRet (ty : TypeId) (n : Nat) (cs : List Value) (w : World) (x : Ending) (w' : World) : Prop := ∃ g cap cur, x = .returned (.slice (some ⟨g, 0, none⟩) n cap) ∧ cap < 18446744073709551616 ∧ w.heap.size ≤ g ∧ w'.heap[g]? = some (.cells cur ty (0, 0)) ∧ cur.toList.take n = cs ∧ Below w.heap.size w w'
theorem RowB.block {w : World} {g cap : Nat} {cur : Array Value} {bs : List UInt8} (hk : w.heap[g]? = some (.cells cur 5 (0, 0))) (ht : cur.toList.take bs.length = bs.map bv) : RowB w (.slice (some ⟨g, 0, none⟩) bs.length cap) bs :=
  RowB.of fun k hk' => by
    have e := congrArg (fun l => l[k]?) ht
    simp only [List.getElem?_take, if_pos hk', List.getElem?_map, Array.getElem?_toList] at e
    rw [Nat.zero_add, blk_cell hk, e]
    simp [hk']
theorem RowB.owns {w : World} {base n : Nat} {sv : Value} {bs : List UInt8} (hn : n = bs.length) (h : w.ownsRow base 5 1 sv n (bs.map bv)) : RowB w sv bs := by
  subst hn
  rcases h.2 with ⟨rfl, q⟩ | ⟨g, cap, cur, rfl, _, hk, _, _, _, ht⟩
  · obtain rfl := List.eq_nil_of_length_eq_zero q
    exact RowB.nil w
  · rw [Nat.mul_one] at ht
    exact RowB.block hk ht
theorem Apart.grown {F : Nat → Prop} {w W W1 : World} {r : Option Nat} (h : Apart F w W) (hg : W.grownBy W1 r) (hr : ∀ g, r = some g → w.heap.size ≤ g) : Apart F w W1 :=
  ⟨hg.os.trans h.os, hg.tape.trans h.tape, hg.output.trans h.output, Nat.le_trans h.size hg.size, fun b q hn => (hg.block b (Nat.lt_of_lt_of_le q h.size) fun z => by have := hr b z.symm; omega).trans (h.block b q hn)⟩
theorem Apart.trans {F : Nat → Prop} {w W W1 : World} (h : Apart F w W) (h1 : Apart F W W1) : Apart F w W1 :=
  ⟨h1.os.trans h.os, h1.tape.trans h.tape, h1.output.trans h.output, Nat.le_trans h.size h1.size, fun b q hn => (h1.block b (Nat.lt_of_lt_of_le q h.size) hn).trans (h.block b q hn)⟩
theorem strCells_bv (s : List UInt8) : strCells ⟨s.toArray⟩ = s.map bv := by
  unfold strCells; simp [bv]
theorem wpList_convBS {ops : Array Oper} {rest : List Oper} {o : Oper} {a : Act} {w : World} {Q : Exit → Act → World → Prop} {x : Operand} {sv : Value} {bs : List UInt8} (hg : o.guard = none) (ho : o.op = .convert 49 9 x) (hx : a.eval x = sv) (hr : RowB w sv bs)
    (h : wpList Tryz.prog ops Q rest (a.put o.dst (.string ⟨bs.toArray⟩)) w) : wpList Tryz.prog ops Q (o :: rest) a w := by
  refine wpList_plain hg fun K hK => ?_
  obtain ⟨ao, cap, hsv, hno, hcc⟩ := hr
  have h1 : (convert 49 9 sv).run Tryz.prog w = .ok (.string ⟨bs.toArray⟩) w := by
    rw [hsv]
    cases ao with
    | none =>
      obtain ⟨rfl, rfl⟩ := hno rfl
      exact run_convert_bytes_nil w _ 5 Tryz.underlying49 Tryz.underlying5 0 0 _ Tryz.underlying9
    | some a =>
      refine run_convert_bytes_back w _ _ 5 a cap bs Tryz.underlying49 Tryz.underlying5 Tryz.underlying9 fun j hj => ?_
      obtain ⟨g, off, e, hc⟩ := hcc j hj
      cases e
      rw [Addr.add_lit]
      exact hc
  have e1 : (execOp a.eval o).run Tryz.prog w = .ok (.value (.string ⟨bs.toArray⟩)) w := by
    unfold execOp
    simp only [ho, hx]
    rw [Sem.run_bind, h1]
    rfl
  unfold Oper.wp
  rw [e1, Oper.upon_value]
  exact hK _ _ h
theorem RowB.hi {w : World} {ao : Option Addr} {cap : Nat} {bs : List UInt8} (h : RowB w (.slice ao bs.length cap) bs) (m : Nat) (hm : m ≤ bs.length) : RowB w (.slice ao m cap) (bs.take m) := by
  obtain ⟨ao', cap', h1, h2, h3⟩ := h
  cases h1
  refine ⟨ao, cap, by rw [List.length_take, Nat.min_eq_left hm], fun z => ?_, fun k hk => ?_⟩
  · obtain ⟨hb, hc⟩ := h2 z
    exact ⟨by rw [hb]; simp, hc⟩
  · have hk' : k < bs.length := by rw [List.length_take] at hk; omega
    obtain ⟨g, off, rfl, hc⟩ := h3 k hk'
    exact ⟨g, off, rfl, by rw [List.getElem_take]; exact hc⟩
theorem wpList_app_str {ops : Array Oper} {rest : List Oper} {o : Oper} {a : Act} {w : World} {Q : Exit → Act → World → Prop} (hgd : o.guard = none) (s x : Operand)
    (ho : o.op = .call { callee := .builtin .append, args := #[s, x], argTypes := #[49, 9] }) (base : Nat) (sv0 : Value) (n : Nat) (vs : List Value) (bs : List UInt8)
    (hs : a.eval s = sv0) (hown : w.ownsRow base 5 1 sv0 n vs) (hx : a.eval x = .string ⟨bs.toArray⟩) (hn : n + bs.length ≤ 1000000) (hbase : base ≤ w.heap.size)
    (h : ∀ sv' w', w'.ownsRow base 5 1 sv' (n + bs.length) (vs ++ bs.map bv) → w.grownBy w' sv0.ownBlock → wpList Tryz.prog ops Q rest (a.put o.dst sv') w') : wpList Tryz.prog ops Q (o :: rest) a w := by
  obtain ⟨i, hi, hz0, hz1, hz2⟩ := info_parts (P := Tryz.prog) (e := 5) (z := .int .u8 0) (size := 1) (bytes := 1) (by kernel_rfl)
  have hsz : (ByteArray.mk bs.toArray).size = bs.length := by simp [ByteArray.size]
  refine wpList_append_own_string w hgd s x _ _ ho base 5 i Tryz.underlying49 Tryz.underlying9 hi hz0 hz1 hz2 sv0 n vs hs hown _ hx (by rw [hsz]; simp only [maxLen]; omega) (by rw [hsz]; omega) hbase ?_
  intro v' w' h1 h2 _
  rw [hsz, strCells_bv] at h1
  exact h v' w' h1 h2
theorem Apart.set {F : Nat → Prop} {w W : World} (h : Apart F w W) (p : Addr) (v : Value) (hp : w.heap.size ≤ p.block) : Apart F w (W.setCell p v) :=
  ⟨h.os, h.tape, h.output, by rw [show (W.setCell p v).heap.size = W.heap.size by simp [World.setCell]]; exact h.size, fun b q hn => (Below.heap_setCell W p v b (by omega)).trans (h.block b q hn)⟩
theorem RowB.cells0 {w : World} {g n cap : Nat} {bs : List UInt8} (h : RowB w (.slice (some ⟨g, 0, none⟩) n cap) bs) (k : Nat) (hk : k < bs.length) : w.cell? ⟨g, k, none⟩ = some (.int .u8 (bs[k].toNat : Int)) := by
  obtain ⟨ao, cp, e1, _, h3⟩ := h
  obtain ⟨gg, off, e2, h4⟩ := h3 k hk
  rw [e2] at e1
  simp only [Value.slice.injEq, Option.some.injEq, Addr.mk.injEq] at e1
  obtain ⟨⟨rfl, rfl, _⟩, _⟩ := e1
  rw [Nat.zero_add] at h4
  exact h4
/-- A row of bytes at a place that is known. -/
def RowAt (w : World) (g off : Nat) (bs : List UInt8) : Prop := ∀ k (h : k < bs.length), w.cell? ⟨g, off + k, none⟩ = some (bv bs[k])
theorem RowB.at {w : World} {sv : Value} {bs : List UInt8} (h : RowB w sv bs) (hn : 0 < bs.length) : ∃ g off cap, sv = .slice (some ⟨g, off, none⟩) bs.length cap ∧ RowAt w g off bs := by
  obtain ⟨ao, cap, rfl, _, h3⟩ := h
  obtain ⟨g, off, rfl, _⟩ := h3 0 hn
  refine ⟨g, off, cap, rfl, fun k hk => ?_⟩
  obtain ⟨g2, off2, e, h4⟩ := h3 k hk
  cases e
  exact h4
theorem own_cell {w : World} {g n i : Nat} {cur : Array Value} {cs : List Value} {t : TypeId} (hk : w.heap[g]? = some (.cells cur t (0, 0))) (ht : cur.toList.take n = cs) (hi : i < n) : w.cell? ⟨g, i, none⟩ = cs[i]? := by
  have e1 := congrArg (fun l => l[i]?) ht
  simp only [List.getElem?_take, if_pos hi, Array.getElem?_toList] at e1
  rw [← e1]
  simp [World.cell?, hk]
/-- A text as bytes. -/
theorem wpList_convSB {P : Program} {ops : Array Oper} {rest : List Oper} {o : Oper} {a : Act} {w : World} {Q : Exit → Act → World → Prop} {src dst e : TypeId} {x : Operand} {s : ByteArray} (hg : o.guard = none) (ho : o.op = .convert src dst x) (hx : a.eval x = .string s)
    (hs : P.underlying src = some .string) (hd : P.underlying dst = some (.slice e)) (he : P.underlying e = some (.int .u8))
    (h : ∀ cap w', RowB w' (.slice (some ⟨w.heap.size, 0, none⟩) s.size cap) s.data.toList → Below w.heap.size w w' → w.heap.size < w'.heap.size → wpList P ops Q rest (a.put o.dst (.slice (some ⟨w.heap.size, 0, none⟩) s.size cap)) w') : wpList P ops Q (o :: rest) a w := by
  refine wpList_plain hg fun K hK => ?_
  have hrow : RowB (bytesWorld w e s) (.slice (some ⟨w.heap.size, 0, none⟩) s.size (grownCap w s.size 0 e)) s.data.toList := by
    refine ⟨_, grownCap w s.size 0 e, by rw [Array.length_toList]; rfl, fun q => by simp at q, fun k hk => ⟨w.heap.size, 0, rfl, ?_⟩⟩
    have hk' : k < s.size := by rw [Array.length_toList] at hk; exact hk
    rw [Nat.zero_add, bytesWorld_cell w e s k hk', List.getD_eq_getElem?_getD, List.getElem?_eq_getElem hk]
    rfl
  have main := h _ _ hrow ⟨rfl, rfl, rfl, by rw [bytesWorld_size]; omega, fun k hk => bytesWorld_at_old w e s k hk⟩ (by rw [bytesWorld_size]; omega)
  have hr := Go.Lib.run_convert_string_bytes w src dst e s hs hd he
  have e1 : (execOp a.eval o).run P w = .ok (.value (.slice (some ⟨w.heap.size, 0, none⟩) s.size (grownCap w s.size 0 e))) (bytesWorld w e s) := by
    unfold execOp
    simp only [ho, hx]
    rw [Sem.run_bind, hr]
    rfl
  unfold Oper.wp
  rw [e1, Oper.upon_value]
  exact hK _ _ main
/-- A text as bytes, the new block told: it may be written. -/
theorem wpList_convSBw {P : Program} {ops : Array Oper} {rest : List Oper} {o : Oper} {a : Act} {w : World} {Q : Exit → Act → World → Prop} {src dst e : TypeId} {x : Operand} {s : ByteArray} (hg : o.guard = none) (ho : o.op = .convert src dst x) (hx : a.eval x = .string s)
    (hs : P.underlying src = some .string) (hd : P.underlying dst = some (.slice e)) (he : P.underlying e = some (.int .u8))
    (h : ∀ cap cur w', w'.heap[w.heap.size]? = some (.cells cur e (cur.size, cur.size + 1)) → (∀ k, k < s.size → cur[k]? = some (.int .u8 (s.data.toList.getD k 0).toNat)) → Below w.heap.size w w' → wpList P ops Q rest (a.put o.dst (.slice (some ⟨w.heap.size, 0, none⟩) s.size cap)) w') : wpList P ops Q (o :: rest) a w := by
  refine wpList_plain hg fun K hK => ?_
  have hc : ∀ k, k < s.size → (bytesCells w e s)[k]? = some (.int .u8 (s.data.toList.getD k 0).toNat) := fun k hk => by
    rw [← bytesWorld_cell w e s k hk]
    simp [World.cell?, bytesWorld_at_new w e s]
  have main := h (grownCap w s.size 0 e) _ _ (bytesWorld_at_new w e s) hc ⟨rfl, rfl, rfl, by rw [bytesWorld_size]; omega, fun k hk => bytesWorld_at_old w e s k hk⟩
  have hr := Go.Lib.run_convert_string_bytes w src dst e s hs hd he
  have e1 : (execOp a.eval o).run P w = .ok (.value (.slice (some ⟨w.heap.size, 0, none⟩) s.size (grownCap w s.size 0 e))) (bytesWorld w e s) := by
    unfold execOp
    simp only [ho, hx]
    rw [Sem.run_bind, hr]
    rfl
  unfold Oper.wp
  rw [e1, Oper.upon_value]
  exact hK _ _ main
theorem run_convBS {w : World} {sv : Value} {bs : List UInt8} (hr : RowB w sv bs) : (convert 49 9 sv).run Tryz.prog w = .ok (.string ⟨bs.toArray⟩) w := by
  obtain ⟨ao, cap, hsv, hno, hcc⟩ := hr
  rw [hsv]
  cases ao with
  | none =>
    obtain ⟨rfl, rfl⟩ := hno rfl
    exact run_convert_bytes_nil w _ 5 Tryz.underlying49 Tryz.underlying5 0 0 _ Tryz.underlying9
  | some a =>
    refine run_convert_bytes_back w _ _ 5 a cap bs Tryz.underlying49 Tryz.underlying5 Tryz.underlying9 fun j hj => ?_
    obtain ⟨g, off, e, hc⟩ := hcc j hj
    cases e
    rw [Addr.add_lit]
    exact hc
theorem rowOf {w : World} {g n : Nat} {cur : Array Value} {bs : List UInt8} (cap : Nat) (hk : w.heap[g]? = some (.cells cur 5 (0, 0))) (ht : cur.toList.take n = bs.map bv) (hn : bs.length = n) : RowB w (.slice (some ⟨g, 0, none⟩) n cap) bs := by
  subst hn
  exact RowB.block hk ht
theorem take_getD {l : List UInt8} {k : Nat} (h : k < l.length) : l.take (k + 1) = l.take k ++ [l.getD k 0] := by
  rw [List.take_succ_eq_append_getElem h, List.getD_eq_getElem?_getD, List.getElem?_eq_getElem h]; rfl
theorem turn_below {B g : Nat} {w W W' : World} (hb : Below B w W) (ht : Turned g W W') (hg : B ≤ g) (hB : B ≤ W.heap.size) : Below B w W' :=
  ⟨ht.os.trans hb.os, ht.tape.trans hb.tape, ht.output.trans hb.output, Nat.le_trans hb.size ht.size, fun b q => (ht.block b (by omega) (by omega)).trans (hb.block b q)⟩
end Go.Proofs.YtjigckibbjfkmaaGreatDoor

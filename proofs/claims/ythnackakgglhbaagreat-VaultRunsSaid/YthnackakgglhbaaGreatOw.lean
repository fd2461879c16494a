/- Rows of words that a function owns: what 'append' and 'make' give; and a law for an array's element in a walk with named slots. -/
import Derived.Test.YthnackakgglhbaaGreatJn
import Derived.Laws.AppendOwn
import Derived.Laws.OwnMore
import Derived.Laws.MakeOwn
import Derived.Deep.AppendLies
import Derived.OwnWalk
namespace Go.Proofs.YthnackakgglhbaaGreat
open Go.RowKit
def sec (x : W32) : Value := .int .u32 (iw x)
/-- A slice of these words in memory made since 'base'. -/
def OwnW (w : World) (base : Nat) (sv : Value) (xs : List W32) : Prop := w.ownsRow base 80 1 sv xs.length (xs.map sec)
theorem ownsRow_block {w w' : World} {base : Nat} {e : TypeId} {size : Nat} {v : Value} {n : Nat} {xs : List Value} (h : w.ownsRow base e size v n xs) (hb : ∀ g, v.ownBlock = some g → w'.heap[g]? = w.heap[g]?) : w'.ownsRow base e size v n xs := by
  refine ⟨h.1, ?_⟩
  rcases h.2 with q | ⟨g, cap, cur, hv, h1, h2, h3⟩
  · exact .inl q
  · exact .inr ⟨g, cap, cur, hv, h1, (hb g (by rw [hv]; rfl)).trans h2, h3⟩
theorem ownsRow_lt {w : World} {base : Nat} {e : TypeId} {size : Nat} {v : Value} {n : Nat} {xs : List Value} (h : w.ownsRow base e size v n xs) {g : Nat} (hg : v.ownBlock = some g) : base ≤ g ∧ g < w.heap.size := by
  rcases h.2 with ⟨q, _⟩ | ⟨g', cap, cur, hv, h1, h2, _⟩
  · rw [q] at hg; cases hg
  · rw [hv] at hg
    cases hg
    exact ⟨h1, (Array.getElem?_eq_some_iff.1 h2).1⟩
theorem OwnW.grow {w w' : World} {base : Nat} {sv : Value} {xs : List W32} (h : OwnW w base sv xs) (hb : Below w.heap.size w w') : OwnW w' base sv xs :=
  ownsRow_block h fun g hg => hb.block g (ownsRow_lt h hg).2
theorem OwnW.sliceOf {w : World} {base : Nat} {sv : Value} {xs : List W32} (h : OwnW w base sv xs) : SliceOf w sv xs := by
  rcases h.2 with ⟨q, hn⟩ | ⟨g, cap, cur, hv, h1, h2, h3, h4, h5, h6⟩
  · exact .inl ⟨List.eq_nil_of_length_eq_zero hn, q⟩
  · refine .inr ⟨g, 0, cap, hv, by omega, fun k hk => ?_⟩
    have hk' : k < cur.size := by omega
    have e : cur[k]? = some (sec xs[k]) := by
      have := congrArg (fun l => l[k]?) h6
      simp only [List.getElem?_take, Nat.mul_one, if_pos hk, List.getElem?_map] at this
      rw [Array.getElem?_toList] at this
      rw [this]; simp [hk]
    show w.cell? ⟨g, 0 + k, none⟩ = some (sec (at32 xs k))
    rw [show at32 xs k = xs[k] by simp [at32, hk], ← e, Nat.zero_add]
    simp [World.cell?, h2]
theorem OwnW.snoc {w : World} {base : Nat} {sv : Value} {xs : List W32} {x : W32} {n : Nat} (hn : n = xs.length) (h : w.ownsRow base 80 1 sv (n + 1) (xs.map sec ++ [sec x])) : OwnW w base sv (xs ++ [x]) := by
  subst hn
  unfold OwnW
  simpa using h
theorem OwnW.empty {w : World} {base : Nat} {sv : Value} (h : w.ownsRow base 80 1 sv 0 []) : OwnW w base sv [] := h
section
variable {P : Program} {R : Nat → Value}
theorem wpList_app1 {ops : Array Oper} {rest : List Oper} {o : Oper} {a : Act} {w : World} {Q : Exit → Act → World → Prop} (hgd : o.guard = none) (s x : Operand) (t : TypeId)
    (ho : o.op = .call { callee := .builtin .append, args := #[s, x], argTypes := #[t, t] }) (base : Nat) (e : TypeId) (z : Value) (bytes : Nat) (ht : P.underlying t = some (.slice e))
    (hinfo : (P.info? e).map (fun i => (i.zero, i.size, i.bytes)) = some (some z, 1, bytes)) (hz : z.cells.size = 1) (hbb : bytes ≤ 1000)
    (sv : Value) (n : Nat) (vs : List Value) (hs : a.eval s = sv) (hown : w.ownsRow base e 1 sv n vs) (gx c : Nat) (y : Value) (hx : a.eval x = .slice (some ⟨gx, 0, none⟩) 1 c) (hy : w.cell? ⟨gx, 0, none⟩ = some y) (h1 : y.oneCell' = true)
    (hn : n ≤ 1000000) (hbase : base ≤ w.heap.size)
    (h : ∀ g cap w', w'.ownsRow base e 1 (.slice (some ⟨g, 0, none⟩) (n + 1) cap) (n + 1) (vs ++ [y]) → w.grownBy w' sv.ownBlock → (sv.ownBlock = some g ∨ g = w.heap.size) → g < w'.heap.size → wpList P ops Q rest (a.put o.dst (.slice (some ⟨g, 0, none⟩) (n + 1) cap)) w') : wpList P ops Q (o :: rest) a w := by
  obtain ⟨i, hi, hz0, hz1, hz2⟩ := info_parts hinfo
  refine wpList_append_lies w hgd s x t ho base e i z 1 bytes ht hi hz0 hz1 hz2 hz (by omega) sv n vs hs hown ⟨gx, 0, none⟩ 1 c [y] hx rfl (fun j u hj => ?_) (fun u hu => by rw [List.mem_singleton.1 hu]; exact h1) (by omega) (by simp only [maxLen]; omega) ?_ hbase w.heap.size rfl h
  · cases j with
    | zero => cases hj; exact hy
    | succ j => simp at hj
  · have := Nat.mul_le_mul (show n + 1 ≤ 1000001 by omega) hbb
    omega
theorem wpList_make0 {ops : Array Oper} {rest : List Oper} {o : Oper} {a : Act} {w : World} {Q : Exit → Act → World → Prop} (hg : o.guard = none) (l c : Operand) (t : TypeId) (hop : o.op = Op.makeSlice t l c)
    (base : Nat) (e : TypeId) (z : Value) (bytes : Nat) (ht : P.underlying t = some (.slice e)) (hinfo : (P.info? e).map (fun i => (i.zero, i.size, i.bytes)) = some (some z, 1, bytes)) (hbb : bytes ≤ 1000)
    (C : Int) (n : Nat) (hl : a.eval l = .int .i64 0) (hc : a.eval c = .int .i64 C) (hC : C = (n : Int)) (hn : n ≤ 1000000) (b4 : base ≤ w.heap.size)
    (hK : ∀ w', w'.ownsRow base e 1 (.slice (some ⟨w.heap.size, 0, none⟩) 0 n) 0 [] → w.grownBy w' none → wpList P ops Q rest (a.put o.dst (.slice (some ⟨w.heap.size, 0, none⟩) 0 n)) w') : wpList P ops Q (o :: rest) a w := by
  obtain ⟨i, hi, hz0, hz1, hz2⟩ := info_parts hinfo
  refine wpList_make_own w hg l c t hop base e i z 1 ht hi hz0 hz1 .i64 .i64 C n hl hc hC ?_ (by simp only [maxLen]; omega) b4 hK
  have := Nat.mul_le_mul hbb hn
  rw [hz2]; omega
theorem grown_below {B : Nat} {a w w' : World} {v : Value} (h : Below B a w) (hg : w.grownBy w' v.ownBlock) (hB : B ≤ w.heap.size) (hr : ∀ g, v.ownBlock = some g → B ≤ g) : Below B a w' := h.grown hg hB hr
theorem grown_blk {w w' : World} {r : Option Nat} {g : Nat} {o : Obj} (hg : w.grownBy w' r) (k : w.heap[g]? = some o) (hne : r ≠ some g) : w'.heap[g]? = some o := (hg.block g (blk_lt k) fun q => hne q.symm).trans k
theorem run_index_cellR {o : Oper} {w : World} {t e : TypeId} {x ix : Operand} {n : Nat} {cs : Array Value} {i : Int} {v : Value} {fs : Array Field} (ho : o.op = .index t x ix) (hx : evR R x = .agg cs) (hi : evR R ix = .int .i64 i)
    (hu : P.underlying t = some (.array n e)) (he : P.underlying e = some (.struct fs)) (hs : (P.info? e).map (·.size) = some 1) (h0 : 0 ≤ i) (h1 : i < n) (hv : cs[i.toNat]? = some v) : (execOp (evR R) o).run P w = .ok (.value (.agg #[v])) w := by
  unfold execOp
  simp only [ho, hx, hi, Sem.run_bind, index_cell hu he hs h0 h1 hv w, Result.andThen_ok]
  rfl
theorem run_index_wordR {o : Oper} {w : World} {t e : TypeId} {x ix : Operand} {n : Nat} {cs : Array Value} {i : Int} {v : Value} (ho : o.op = .index t x ix) (hx : evR R x = .agg cs) (hi : evR R ix = .int .i64 i)
    (hu : P.underlying t = some (.array n e)) (he : P.underlying e = some (.int .u32)) (hs : (P.info? e).map (·.size) = some 1) (h0 : 0 ≤ i) (h1 : i < n) (hv : cs[i.toNat]? = some v) : (execOp (evR R) o).run P w = .ok (.value v) w := by
  unfold execOp
  simp only [ho, hx, hi, Sem.run_bind, index_word hu he hs h0 h1 hv w, Result.andThen_ok]
  rfl
end
end Go.Proofs.YthnackakgglhbaaGreat

/- sha.hash: the pure words, and laws for its walk. -/
import Derived.Test.YthnackakgglhbaaGreatSt
import Derived.Test.YthnackakgglhbaaGreatSh5
namespace Go.Proofs.YthnackakgglhbaaGreat
open Go.RowKit
set_option linter.unusedSimpArgs false
/-- The byte at a place, 0 behind the end. -/
def bytew (n : Nat) (bs : Nat → W32) (i : Nat) : W32 := if i < n then bs i &&& kw 255 else 0#32
def fourw (n : Nat) (len : W32) (bs : Nat → W32) (b k m : Nat) : List W32 := (List.range m).map fun j => padw (bytew n bs (b * 64 + 4 * k + j)) (b * 64 + 4 * k + j) len
def blockw (n : Nat) (len : W32) (bs : Nat → W32) (b m : Nat) : List W32 := (List.range m).map fun k => wordw (fourw n len bs b k 4)
def lastw (b : Nat) (len : W32) : W32 := mk (eqw (kw b) (shrI (len + kw 8) 6))
def lastBlock (blk : List W32) (b : Nat) (len : W32) : List W32 := blk.set 15 (at32 blk 15 ||| (lastw b len &&& shlI len 3))
def selAt (m : W32) (h o : List W32) : List W32 := List.zipWith (fun x y => selw m x y) h o
/-- The sum so far, and what is told of it. -/
def hashAt (n : Nat) (len : W32) (bs : Nat → W32) : Nat → List W32 × List W32
  | 0 => (h0, List.replicate 8 0#32)
  | b + 1 => (stepw (hashAt n len bs b).1 (lastBlock (blockw n len bs b 16) b len), selAt (lastw b len) (stepw (hashAt n len bs b).1 (lastBlock (blockw n len bs b 16) b len)) (hashAt n len bs b).2)
def blocksN (n : Nat) : Nat := n / 64 + 1 + (n % 64 + 8) / 64
def hashw (n : Nat) (len : W32) (bs : Nat → W32) : List W32 := (hashAt n len bs (blocksN n)).2
/-- Words, and noughts up to m. -/
def padTo (m : Nat) (xs : List W32) : List W32 := xs ++ List.replicate (m - xs.length) 0#32
theorem padTo_nil (m : Nat) : cw (padTo m []) = Array.replicate m (.int .u32 0) := by
  simp only [padTo, List.length_nil, Nat.sub_zero, List.nil_append, cw, List.map_replicate]
  rw [show iw 0#32 = 0 from rfl]; simp
theorem padTo_length (m : Nat) (xs : List W32) (h : xs.length ≤ m) : (padTo m xs).length = m := by simp [padTo]; omega
theorem padTo_full (xs : List W32) (m : Nat) (h : xs.length = m) : padTo m xs = xs := by simp [padTo, h]
theorem padTo_set (m : Nat) (xs : List W32) (x : W32) (h : xs.length < m) : (padTo m xs).set xs.length x = padTo m (xs ++ [x]) := by
  unfold padTo
  rw [List.set_append_right _ _ (Nat.le_refl _), Nat.sub_self, show m - xs.length = (m - (xs ++ [x]).length) + 1 by simp; omega, List.replicate_succ, List.set_cons_zero]
  simp
theorem fourw_length (n len bs b k m) : (fourw n len bs b k m).length = m := by simp [fourw]
theorem blockw_length (n len bs b m) : (blockw n len bs b m).length = m := by simp [blockw]
theorem fourw_snoc (n : Nat) (len : W32) (bs : Nat → W32) (b k j : Nat) : fourw n len bs b k (j + 1) = fourw n len bs b k j ++ [padw (bytew n bs (b * 64 + 4 * k + j)) (b * 64 + 4 * k + j) len] := by
  simp [fourw, List.range_succ]
theorem blockw_snoc (n : Nat) (len : W32) (bs : Nat → W32) (b k : Nat) : blockw n len bs b (k + 1) = blockw n len bs b k ++ [wordw (fourw n len bs b k 4)] := by
  simp [blockw, List.range_succ]
theorem four_set (n : Nat) (len : W32) (bs : Nat → W32) (b k j : Nat) (h : j < 4) : (padTo 4 (fourw n len bs b k j)).set j (padw (bytew n bs (b * 64 + 4 * k + j)) (b * 64 + 4 * k + j) len) = padTo 4 (fourw n len bs b k (j + 1)) := by
  have := padTo_set 4 (fourw n len bs b k j) (padw (bytew n bs (b * 64 + 4 * k + j)) (b * 64 + 4 * k + j) len) (by rw [fourw_length]; exact h)
  rw [fourw_length] at this
  rw [this, fourw_snoc]
theorem block_set (n : Nat) (len : W32) (bs : Nat → W32) (b k : Nat) (h : k < 16) : (padTo 16 (blockw n len bs b k)).set k (wordw (fourw n len bs b k 4)) = padTo 16 (blockw n len bs b (k + 1)) := by
  have := padTo_set 16 (blockw n len bs b k) (wordw (fourw n len bs b k 4)) (by rw [blockw_length]; exact h)
  rw [blockw_length] at this
  rw [this, blockw_snoc]
theorem lastBlock_length (blk : List W32) (b : Nat) (len : W32) (h : blk.length = 16) : (lastBlock blk b len).length = 16 := by simp [lastBlock, h]
theorem selAt_length (m : W32) (h o : List W32) (hh : h.length = 8) (ho : o.length = 8) : (selAt m h o).length = 8 := by simp [selAt, hh, ho]
theorem hashAt_length (n : Nat) (len : W32) (bs : Nat → W32) : ∀ b, (hashAt n len bs b).1.length = 8 ∧ (hashAt n len bs b).2.length = 8
  | 0 => ⟨rfl, rfl⟩
  | b + 1 => by
    have h := hashAt_length n len bs b
    have h1 : (stepw (hashAt n len bs b).1 (lastBlock (blockw n len bs b 16) b len)).length = 8 := stepw_length _ _ h.1
    exact ⟨h1, selAt_length _ _ _ h1 h.2⟩
/-- The first j words taken. -/
def selTo (m : W32) (h o : List W32) (j : Nat) : List W32 := selAt m (h.take j) (o.take j) ++ o.drop j
theorem selTo_zero (m : W32) (h o : List W32) : selTo m h o 0 = o := by simp [selTo, selAt]
theorem selTo_len (m : W32) (h o : List W32) (hh : h.length = 8) (ho : o.length = 8) (j : Nat) (hj : j ≤ 8) : (selTo m h o j).length = 8 := by simp [selTo, selAt, hh, ho]; omega
theorem selTo_end (m : W32) (h o : List W32) (hh : h.length = 8) (ho : o.length = 8) : selTo m h o 8 = selAt m h o := by
  unfold selTo
  rw [List.take_of_length_le (by omega), List.take_of_length_le (by omega), List.drop_of_length_le (by omega), List.append_nil]
theorem selTo_at (m : W32) (h o : List W32) (hh : h.length = 8) (ho : o.length = 8) (j : Nat) (hj : j < 8) : at32 (selTo m h o j) j = at32 o j := by
  unfold at32 selTo
  rw [List.getD_eq_getElem?_getD, List.getD_eq_getElem?_getD, List.getElem?_append_right (by simp [selAt]; omega)]
  simp [selAt, hh, ho]
  congr 2
  omega
theorem selTo_set (m : W32) (h o : List W32) (hh : h.length = 8) (ho : o.length = 8) (j : Nat) (hj : j < 8) : (selTo m h o j).set j (selw m (at32 h j) (at32 o j)) = selTo m h o (j + 1) := by
  have e1 : at32 h j = h[j] := by simp [at32, hh, hj]
  have e2 : at32 o j = o[j] := by simp [at32, ho, hj]
  rw [e1, e2]
  apply List.ext_getElem?
  intro i
  unfold selTo selAt
  rcases Nat.lt_trichotomy i j with q | q | q
  · rw [List.getElem?_set_ne (by omega), List.getElem?_append_left (by simp; omega), List.getElem?_append_left (by simp; omega)]
    simp [List.getElem?_zipWith, List.getElem?_take, q, Nat.lt_succ_of_lt q]
  · subst q
    rw [List.getElem?_set_self (by simp; omega), List.getElem?_append_left (by simp; omega)]
    simp [List.getElem?_zipWith, List.getElem?_take, hh, ho, hj]
  · rw [List.getElem?_set_ne (by omega), List.getElem?_append_right (by simp; omega), List.getElem?_append_right (by simp; omega)]
    simp [hh, ho]
    congr 1
    omega
theorem run_callFunc {P : Program} {f : FuncId} {fn : Func} {args : Array Value} {w : World} (hf : P.funcs[f]? = some fn) (hn : (fn.name == "runtime.NumGoroutine") = false) (hb : fn.body.isNone = false) : (callFunc f args).run P w = .ok (.enter f args) w := by
  unfold callFunc
  rw [Sem.run_bind, run_program]
  simp only [Result.andThen_ok, hf, hn, hb, Bool.false_eq_true, if_false]
  simp
theorem far_eq {W W2 : World} {p : Addr} {v : Value} {g : Nat} {o : Obj} (hW : W2 = W.setCell p v) (k : W.heap[g]? = some o) (hne : g ≠ p.block) : W2.heap[g]? = some o := by subst hW; exact blk_far k hne v
theorem far_row {W W2 : World} {r g : Nat} {cs : Array Value} {o : Obj} (hW : W2 = W.setRow r cs) (k : W.heap[g]? = some o) (hne : g ≠ r) : W2.heap[g]? = some o := by subst hW; exact setRow_far k hne cs
/-- A call through a value, in a region that keeps the text's order. -/
theorem wpList_callV {P : Program} {ops : Array Oper} {Q : Exit → Act → World → Prop} {rest : List Oper} {o : Oper} {a : Act} {w : World} {d : Nat} {x : Operand} {f : FuncId} {fn : Func} {xs : Array Operand} {ts : Array TypeId} {args cap : Array Value}
    (hop : o.op = .call { callee := .value x, args := xs, argTypes := ts }) (hd : o.dst = some d) (hg : o.guard = none) (hx : a.eval x = .func (.func f) #[] cap) (hf : P.funcs[f]? = some fn) (hn : (fn.name == "runtime.NumGoroutine") = false) (hb : fn.body.isNone = false)
    (hargs : xs.map a.eval = args) (h : Calls P f (args ++ cap) w fun e w' => ∃ v, e = .returned v ∧ wpList P ops Q rest (a.put (some d) v) w') : wpList P ops Q (o :: rest) a w := by
  refine wpList_plain hg fun K hK => ?_
  have e : execOp a.eval o = callFunc f (#[] ++ args ++ cap) := by
    unfold execOp; rw [hop]; simp only [resolve, hx, hargs, Deferred.ofValue]; rfl
  have hrun : (execOp a.eval o).run P w = .ok (.enter f (args ++ cap)) w := by
    rw [e]
    unfold callFunc
    rw [Sem.run_bind, run_program]
    simp only [Result.andThen_ok, hf, hn, hb, Bool.false_eq_true, if_false]
    simp
  unfold Oper.wp
  rw [hrun, Oper.upon_enter]
  refine h.mono fun e w'' hh => ?_
  obtain ⟨v, rfl, hk⟩ := hh
  rw [hd]
  exact hK _ _ hk
end Go.Proofs.YthnackakgglhbaaGreat

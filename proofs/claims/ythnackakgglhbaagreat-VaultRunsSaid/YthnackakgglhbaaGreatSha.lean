/- SHA-256 as the program reckons it, on words. No program here. -/
import Derived.Test.YthnackakgglhbaaGreatWd
import Derived.Test.YthnackakgglhbaaGreatGrow
import Derived.Laws.CopyOwn
import Derived.Laws.Tables
namespace Go.Proofs.YthnackakgglhbaaGreat
open Go.RowKit
set_option maxRecDepth 100000
set_option linter.unusedSimpArgs false
set_option linter.unusedVariables false
def kTab : List W32 := [1116352408#32, 1899447441#32, 3049323471#32, 3921009573#32, 961987163#32, 1508970993#32, 2453635748#32, 2870763221#32, 3624381080#32, 310598401#32, 607225278#32, 1426881987#32, 1925078388#32, 2162078206#32, 2614888103#32, 3248222580#32, 3835390401#32, 4022224774#32, 264347078#32, 604807628#32, 770255983#32, 1249150122#32, 1555081692#32, 1996064986#32, 2554220882#32, 2821834349#32, 2952996808#32, 3210313671#32, 3336571891#32, 3584528711#32, 113926993#32, 338241895#32, 666307205#32, 773529912#32, 1294757372#32, 1396182291#32, 1695183700#32, 1986661051#32, 2177026350#32, 2456956037#32, 2730485921#32, 2820302411#32, 3259730800#32, 3345764771#32, 3516065817#32, 3600352804#32, 4094571909#32, 275423344#32, 430227734#32, 506948616#32, 659060556#32, 883997877#32, 958139571#32, 1322822218#32, 1537002063#32, 1747873779#32, 1955562222#32, 2024104815#32, 2227730452#32, 2361852424#32, 2428436474#32, 2756734187#32, 3204031479#32, 3329325298#32]
def h0 : List W32 := [1779033703#32, 3144134277#32, 1013904242#32, 2773480762#32, 1359893119#32, 2600822924#32, 528734635#32, 1541459225#32]
def xor3 (x y z : W32) : W32 := x ^^^ y ^^^ z
def sumw (xs : List W32) : W32 := xs.foldl (· + ·) 0#32
def smallw (x : W32) : W32 := xor3 (rotI x 7) (rotI x 18) (shrI x 3)
def greatw (x : W32) : W32 := xor3 (rotI x 17) (rotI x 19) (shrI x 10)
def selw (m a b : W32) : W32 := b ^^^ (m &&& (a ^^^ b))
def majw (a b c : W32) : W32 := (a &&& (b ||| c)) ||| (b &&& c)
def at32 (ws : List W32) (i : Nat) : W32 := ws.getD i 0#32
def nextw (ws : List W32) (n : Nat) : W32 := sumw [greatw (at32 ws (n + 14)), at32 ws (n + 9), smallw (at32 ws (n + 1)), at32 ws n]
/-- A block's words, n of them made. -/
def spreadTo (b : List W32) : Nat → List W32
  | 0 => b
  | n + 1 => spreadTo b n ++ [nextw (spreadTo b n) n]
def onew (e f g h k w : W32) : W32 := sumw [h, xor3 (rotI e 6) (rotI e 11) (rotI e 25), selw e f g, k, w]
def twow (a b c : W32) : W32 := sumw [xor3 (rotI a 2) (rotI a 13) (rotI a 22), majw a b c]
def round8 (k w : W32) : List W32 → List W32
  | [a, b, c, d, e, f, g, h] => [sumw [onew e f g h k w, twow a b c], a, b, c, sumw [d, onew e f g h k w], e, f, g]
  | s => s
def roundsTo (s ws : List W32) : Nat → List W32
  | 0 => s
  | n + 1 => round8 (at32 kTab n) (at32 ws n) (roundsTo s ws n)
def wordw (bs : List W32) : W32 := bs.foldl (fun w x => shlI w 8 ||| x) 0#32
theorem wordw_snoc (xs : List W32) (k : Nat) (h : k < xs.length) : wordw (xs.take (k + 1)) = shlI (wordw (xs.take k)) 8 ||| at32 xs k := by
  unfold wordw; rw [List.take_succ_eq_append_getElem h, List.foldl_append]; simp [at32, h]
/-- The byte at a place of a text of so many bytes, with the mark behind it. -/
def padw (b : W32) (i : Nat) (len : W32) : W32 := (mk (ltw (kw i) len) &&& b) ||| (mk (eqw (kw i) len) &&& kw 128)
def stepw (h b : List W32) : List W32 := List.zipWith (· + ·) (roundsTo h (spreadTo b 48) 64) h

theorem spreadTo_length (b : List W32) (hb : b.length = 16) : ∀ n, (spreadTo b n).length = 16 + n
  | 0 => hb
  | n + 1 => by simp [spreadTo, spreadTo_length b hb n]; omega
/-- The words made so far, and noughts. -/
def spreadAt (b : List W32) (n : Nat) : List W32 := spreadTo b n ++ List.replicate (48 - n) 0#32
theorem spreadAt_length (b : List W32) (hb : b.length = 16) (n : Nat) (hn : n ≤ 48) : (spreadAt b n).length = 64 := by
  simp [spreadAt, spreadTo_length b hb]; omega
theorem spreadAt_at (b : List W32) (hb : b.length = 16) (n j : Nat) (hj : j < n + 16) : at32 (spreadAt b n) j = at32 (spreadTo b n) j := by
  unfold at32 spreadAt
  rw [List.getD_eq_getElem?_getD, List.getD_eq_getElem?_getD, List.getElem?_append_left (by rw [spreadTo_length b hb]; omega)]
theorem spreadAt_set (b : List W32) (hb : b.length = 16) (n : Nat) (hn : n < 48) : (spreadAt b n).set (n + 16) (nextw (spreadTo b n) n) = spreadAt b (n + 1) := by
  unfold spreadAt
  rw [List.set_append_right _ _ (by rw [spreadTo_length b hb]; omega), spreadTo_length b hb, show n + 16 - (16 + n) = 0 by omega, show 48 - n = (48 - (n + 1)) + 1 by omega, List.replicate_succ, List.set_cons_zero]
  simp [spreadTo]
theorem spreadAt_end (b : List W32) : spreadAt b 48 = spreadTo b 48 := by simp [spreadAt]
theorem round8_length (k w : W32) (s : List W32) (h : s.length = 8) : (round8 k w s).length = 8 := by
  match s, h with
  | [a, b, c, d, e, f, g, h], _ => rfl
theorem roundsTo_length (s ws : List W32) (h : s.length = 8) : ∀ n, (roundsTo s ws n).length = 8
  | 0 => h
  | n + 1 => round8_length _ _ _ (roundsTo_length s ws h n)
theorem stepw_length (h b : List W32) (hh : h.length = 8) : (stepw h b).length = 8 := by simp [stepw, roundsTo_length h _ hh, hh]

/-- Words as cells. -/
def cw (xs : List W32) : Array Value := (xs.map fun x => Value.int .u32 (iw x)).toArray
theorem cw_get (xs : List W32) (i : Nat) (h : i < xs.length) : (cw xs)[i]? = some (.int .u32 (iw xs[i])) := by simp [cw, h]
theorem cw_at (xs : List W32) (i : Nat) (h : i < xs.length) : (cw xs)[i]? = some (.int .u32 (iw (at32 xs i))) := by simp [cw, h, at32]
theorem cw_size (xs : List W32) : (cw xs).size = xs.length := by simp [cw]
theorem cw_one (xs : List W32) : (cw xs).all (·.oneCell') = true := by simp [cw, Value.oneCell']
theorem cw_set (xs : List W32) (i : Nat) (x : W32) : (cw xs).setIfInBounds i (.int .u32 (iw x)) = cw (xs.set i x) := by
  apply Array.ext'
  simp [cw, List.map_set]
theorem sumw_snoc (xs : List W32) (k : Nat) (h : k < xs.length) : sumw (xs.take (k + 1)) = sumw (xs.take k) + xs[k] := by
  unfold sumw; rw [List.take_succ_eq_append_getElem h, List.foldl_append]; rfl
theorem add_pl (g j : Nat) : (⟨g, 0, none⟩ : Addr).add j = ⟨g, j, none⟩ := by unfold Addr.add; split <;> simp_all
theorem grow_cell {W w : World} {p : Addr} {v : Value} (h : Below W.heap.size W w) (k : W.cell? p = some v) : w.cell? p = some v := by
  rw [h.cell (World.block_lt_of_cell? W _ k)]; exact k
theorem carry {W2 E W : World} {g : Nat} {o : Obj} (hW : W2 = E) (k : W.heap[g]? = some o) (h : W.heap[g]? = some o → E.heap[g]? = some o) : W2.heap[g]? = some o := by rw [hW]; exact h k
theorem setRow_blk {w : World} {g : Nat} {t : TypeId} {old : Array Value} (k : w.heap[g]? = some (.cells old t (0, 0))) (cs : Array Value) : (w.setRow g cs).heap[g]? = some (.cells cs t (0, 0)) := setRow_heap w g old cs t _ k
theorem setRow_far {w : World} {g k : Nat} {o : Obj} (h : w.heap[k]? = some o) (hk : k ≠ g) (cs : Array Value) : (w.setRow g cs).heap[k]? = some o := (setRow_other w g k cs hk).trans h
theorem bl_row {w W : World} (g : Nat) (cs : Array Value) (hp : w.heap.size ≤ g) (h : Below w.heap.size w W) : Below w.heap.size w (W.setRow g cs) := below_setRow h hp cs
theorem index_word {P : Program} {t e : TypeId} {n : Nat} {cs : Array Value} {i : Int} {v : Value} (hu : P.underlying t = some (.array n e)) (he : P.underlying e = some (.int .u32)) (hs : (P.info? e).map (·.size) = some 1)
    (h0 : 0 ≤ i) (h1 : i < n) (hv : cs[i.toNat]? = some v) (w : World) : (Instr.index t (.agg cs) (.int .i64 i)).run P w = .ok v w := by
  cases hq : P.info? e with
  | none => simp [hq] at hs
  | some x =>
    have hs' : x.size = 1 := by simpa [hq] using hs
    have hagg : (isAgg e).run P w = .ok false w := by
      unfold isAgg; rw [Sem.run_bind, run_underlying he w]; rfl
    have hsz : (sizeOf e).run P w = .ok 1 w := by simp [sizeOf, typeInfo, hq, hs']
    simp [Instr.index, asIntOf, Sem.run_bind, run_underlying hu w, h0, h1, part, hagg, hsz, hv]
theorem index_cell {P : Program} {t e : TypeId} {n : Nat} {cs : Array Value} {i : Int} {v : Value} {fs : Array Field} (hu : P.underlying t = some (.array n e)) (he : P.underlying e = some (.struct fs)) (hs : (P.info? e).map (·.size) = some 1)
    (h0 : 0 ≤ i) (h1 : i < n) (hv : cs[i.toNat]? = some v) (w : World) : (Instr.index t (.agg cs) (.int .i64 i)).run P w = .ok (.agg #[v]) w := by
  cases hq : P.info? e with
  | none => simp [hq] at hs
  | some x =>
    have hs' : x.size = 1 := by simpa [hq] using hs
    have hagg : (isAgg e).run P w = .ok true w := by
      unfold isAgg; rw [Sem.run_bind, run_underlying he w]; rfl
    have hsz : (sizeOf e).run P w = .ok 1 w := by simp [sizeOf, typeInfo, hq, hs']
    have hx : cs.extract i.toNat (i.toNat + 1) = #[v] := by
      obtain ⟨hl, hv'⟩ := Array.getElem?_eq_some_iff.1 hv
      apply Array.ext'
      simp [hl, List.take_one, List.head?_drop, hv']
    simp [Instr.index, asIntOf, Sem.run_bind, run_underlying hu w, h0, h1, part, hagg, hsz, hx]

theorem run_load_row {P : Program} {o : Oper} {a : Act} {w : World} {ty : TypeId} {x : Operand} {g : Nat} {t : TypeId} {cs : Array Value} {d : TypeDesc} (ho : o.op = .load ty x) (hx : a.eval x = .pointer (some ⟨g, 0, none⟩)) (hg : w.heap[g]? = some (.cells cs t (0, 0)))
    (hu : P.underlying ty = some d) (hd : (match d with | .struct _ | .array _ _ => true | _ => false) = true) (hi : (P.info? ty).map (·.size) = some cs.size) : (execOp a.eval o).run P w = .ok (.value (.agg cs)) w := by
  unfold execOp
  simp only [ho, hx, Instr.loadAt, Instr.sureAddr, Sem.run_bind, Sem.run_pure, Result.andThen_ok, run_loadVar_row w g t ty cs (0, 0) d hg hu hd hi]
end Go.Proofs.YthnackakgglhbaaGreat

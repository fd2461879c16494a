/- audit.like; rows of structs that grow; runs without program. -/
import Derived.Test.YtcophjjjkonpjaaDoorAw
namespace Go.Proofs.YtcophjjjkonpjaaDoor
open Go.RowKit
set_option maxRecDepth 100000
set_option linter.unusedSimpArgs false
set_option linter.unusedVariables false
/-- Alike: of one kind and value. -/
def lk (x y : Evt) : Bool := decide (x.k = y.k) && decide (x.v = y.v)
theorem like_c (x y : Evt) (w : World) : Calls Tryd.prog 26 #[.agg #[.int .i64 x.k, .int .i64 x.i, .int .u32 x.v], .agg #[.int .i64 y.k, .int .i64 y.i, .int .u32 y.v]] w fun e w' => e = .returned (.bool (lk x y)) ∧ Below w.heap.size w w' := by
  obtain ⟨xk, xi, xv⟩ := x
  obtain ⟨yk, yi, yv⟩ := y
  unfold lk
  simp only
  go_enter Tryd.func26, Tryd.ntmps26
  go_upto_region 1 with fail
  refine gen_world fun W hW => ?_
  have k1 : W.heap[w.heap.size]? = some (.cells #[.int .i64 xk, .int .i64 xi, .int .u32 xv] 28 (0, 0)) := by subst hW; (repeat (first | (with_reducible assumption) | ((with_reducible refine blk_new' ?_ _); (simp; done)) | ((with_reducible refine blk_alloc ?_ _)) | ((with_reducible refine blk_far ?_ ?_ _); (simp <;> omega))))
  have k2 : W.heap[w.heap.size + 1]? = some (.cells #[.int .i64 yk, .int .i64 yi, .int .u32 yv] 28 (0, 0)) := by subst hW; (repeat (first | (with_reducible assumption) | ((with_reducible refine blk_new' ?_ _); (simp; done)) | ((with_reducible refine blk_alloc ?_ _)) | ((with_reducible refine blk_far ?_ ?_ _); (simp <;> omega))))
  have HB : Below w.heap.size w W := by subst hW; (repeat (first | exact Below.refl _ _ | (refine bl_alloc ?_ _) | (refine bl_drewN ?_ _) | (refine bl_drew ?_) | (refine bl_call (by assumption) ?_) | (refine bl_set _ _ (by simp <;> omega) ?_) | assumption))
  clear hW
  have a0 := blk_cell k1 0
  have a2 := blk_cell k1 2
  have b0 := blk_cell k2 0
  have b2 := blk_cell k2 2
  clear k1 k2
  by_cases h1 : xk = yk
  · by_cases h2 : xv = yv
    · subst h1 h2
      go_wp2_with fail
      exact bodyPost_ret (v := .bool true) (by simp [results, Tryd.results26, go_sem]) rfl ⟨by simp, HB⟩
    · have q : (xv == yv) = false := by simp [h2]
      subst h1
      go_wp2_with fail
      exact bodyPost_ret (v := .bool false) (by simp [results, Tryd.results26, go_sem]) rfl ⟨by simp [h2], HB⟩
  · have q : (xk == yk) = false := by simp [h1]
    go_wp2_with fail
    exact bodyPost_ret (v := .bool false) (by simp [results, Tryd.results26, go_sem]) rfl ⟨by simp [h1], HB⟩
/-- One struct more behind a row that is the call's own. -/
theorem wpList_appS {P : Program} {ops : Array Oper} {rest : List Oper} {o : Oper} {a : Act} {w : World} {Q : Exit → Act → World → Prop} (hgd : o.guard = none) (s x : Operand) (t : TypeId)
    (ho : o.op = .call { callee := .builtin .append, args := #[s, x], argTypes := #[t, t] }) (base : Nat) (e : TypeId) (z : Value) (size bytes : Nat) (ht : P.underlying t = some (.slice e))
    (hinfo : (P.info? e).map (fun i => (i.zero, i.size, i.bytes)) = some (some z, size, bytes)) (hz : z.cells.size = size) (hsz : 0 < size) (hbb : bytes ≤ 1000)
    (sv : Value) (n : Nat) (vs : List Value) (hs : a.eval s = sv) (hown : w.ownsRow base e size sv n vs) (gx c : Nat) (ys : List Value) (hx : a.eval x = .slice (some ⟨gx, 0, none⟩) 1 c) (hl : ys.length = size) (hy : ∀ j u, ys[j]? = some u → w.cell? ⟨gx, j, none⟩ = some u) (h1 : ∀ u ∈ ys, u.oneCell' = true)
    (hn : n ≤ 1000000) (hbase : base ≤ w.heap.size)
    (h : ∀ g cap w', w'.ownsRow base e size (.slice (some ⟨g, 0, none⟩) (n + 1) cap) (n + 1) (vs ++ ys) → w.grownBy w' sv.ownBlock → (sv.ownBlock = some g ∨ g = w.heap.size) → g < w'.heap.size → wpList P ops Q rest (a.put o.dst (.slice (some ⟨g, 0, none⟩) (n + 1) cap)) w') : wpList P ops Q (o :: rest) a w := by
  obtain ⟨i, hi, hz0, hz1, hz2⟩ : ∃ i, P.info? e = some i ∧ i.zero = some z ∧ i.size = size ∧ i.bytes = bytes := by
    cases hi : P.info? e with
    | none => rw [hi] at hinfo; cases hinfo
    | some i =>
      rw [hi] at hinfo
      simp only [Option.map_some, Option.some.injEq, Prod.mk.injEq] at hinfo
      exact ⟨i, rfl, hinfo.1, hinfo.2.1, hinfo.2.2⟩
  refine wpList_append_lies w hgd s x t ho base e i z size bytes ht hi hz0 hz1 hz2 hz hsz sv n vs hs hown ⟨gx, 0, none⟩ 1 c ys hx (by omega) (fun j u hj => ?_) h1 (by omega) (by simp only [maxLen]; omega) ?_ hbase w.heap.size rfl h
  · rw [add_pl]; exact hy j u hj
  · have := Nat.mul_le_mul (show n + 1 ≤ 1000001 by omega) hbb
    omega
/-- A run of events. -/
structure Rn where
  k : Int
  i : Int
  s : Int
  c : Int
  v : Int
deriving DecidableEq
def rc (r : Rn) : List Value := [.int .i64 r.k, .int .i64 r.i, .int .i64 r.s, .int .i64 r.c, .int .u32 r.v]
/-- How far the next one is. -/
def far (x y : Evt) : Int := wrap64 (y.i - x.i)
/-- How many of what follows go on by these steps. -/
def ext (p : Evt) (s : Int) : List Evt → Nat
  | [] => 0
  | f :: r => if lk p f = true ∧ far p f = s then ext f s r + 1 else 0
theorem ext_le (p : Evt) (s : Int) (l : List Evt) : ext p s l ≤ l.length := by
  induction l generalizing p with
  | nil => simp [ext]
  | cons f r ih =>
    unfold ext
    split
    · have := ih f; simp; omega
    · simp
def nxt (e : Evt) : List Evt → Bool
  | [] => false
  | f :: _ => lk e f
def stepOf (e : Evt) : List Evt → Int
  | [] => 0
  | f :: _ => if lk e f = true then far e f else 0
/-- Goes the run on? -/
def gox (p : Evt) (s : Int) : List Evt → Bool
  | [] => false
  | f :: _ => lk p f && decide (far p f = s)
theorem ext_go (p f : Evt) (s : Int) (r : List Evt) (h : gox p s (f :: r) = true) : ext p s (f :: r) = ext f s r + 1 := by
  simp only [gox, Bool.and_eq_true, decide_eq_true_eq] at h
  rw [ext, if_pos h]
theorem ext_stop (p : Evt) (s : Int) (l : List Evt) (h : gox p s l = false) : ext p s l = 0 := by
  cases l with
  | nil => rfl
  | cons f r =>
    simp only [gox, Bool.and_eq_false_iff, decide_eq_false_iff_not] at h
    rw [ext, if_neg (by rintro ⟨h1, h2⟩; rcases h with h | h; · rw [h1] at h; cases h
                        · exact h h2)]
def runsL : List Evt → List Rn
  | [] => []
  | e :: r => ⟨e.k, e.i, stepOf e r, (ext e (stepOf e r) r : Int) + 1, e.v⟩ :: runsL (r.drop (ext e (stepOf e r) r))
termination_by l => l.length
decreasing_by simp; omega
end Go.Proofs.YtcophjjjkonpjaaDoor

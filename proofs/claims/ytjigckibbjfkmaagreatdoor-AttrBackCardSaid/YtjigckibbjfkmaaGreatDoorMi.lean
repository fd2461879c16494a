/- attr.read. -/
import Derived.Test.YtjigckibbjfkmaaGreatDoorMh
namespace Go.Proofs.YtjigckibbjfkmaaGreatDoor
open Go.RowKit
set_option maxRecDepth 100000
set_option linter.unusedSimpArgs false
set_option linter.unusedVariables false
theorem vals_size : ∀ (cs : List UInt8) (ps : List (List UInt8)) (l : List (List UInt8)) (n : Nat), valsC cs ps = some l → (∀ p ∈ ps, p.length ≤ n) → l.length = cs.length ∧ ∀ a ∈ l, a.length ≤ n
  | [], [], l, n, h, _ => by
    obtain rfl := Option.some.inj h
    exact ⟨rfl, fun a ha => absurd ha (by simp)⟩
  | [], p :: ps, l, n, h, _ => by cases h
  | c :: cs, [], l, n, h, _ => by cases h
  | c :: cs, p :: ps, l, n, h, hp => by
    rw [valsC] at h
    cases hc : partC c p with
    | none => rw [hc] at h; cases h
    | some a =>
      cases hv : valsC cs ps with
      | none => rw [hc, hv] at h; cases h
      | some r =>
        rw [hc, hv] at h
        obtain rfl := Option.some.inj h
        obtain ⟨h1, h2⟩ := vals_size cs ps r n hv (fun q hq => hp q (List.mem_cons_of_mem _ hq))
        refine ⟨by simp [h1], fun x hx => ?_⟩
        rcases List.mem_cons.1 hx with rfl | hx
        · have := partC_some _ _ _ hc
          have hpl := hp p (by simp)
          rw [this] at hpl
          simp at hpl
          omega
        · exact h2 x hx
theorem valsM_size (cs s : List UInt8) (l : List (List UInt8)) (h : valsM cs s = some l) : l.length = cs.length ∧ ∀ a ∈ l, a.length ≤ s.length :=
  vals_size cs (splitL 44 s) l s.length h (split_part 44 s)
theorem escL_le (l : List UInt8) : l.length ≤ (escL l).length := by
  induction l with
  | nil => exact Nat.le_refl _
  | cons b r ih =>
    show _ ≤ (escB b ++ escL r).length
    rw [List.length_append]
    have : 1 ≤ (escB b).length := by unfold escB; split; decide; split; decide; exact Nat.le_refl _
    simp; omega
theorem unesc_le (s : List UInt8) : ((unescR s).getD []).length ≤ s.length := by
  cases h : unescR s with
  | none => simp
  | some x =>
    have := esc_unesc s.length s x (Nat.le_refl _) h
    have h2 := escL_le x
    rw [this] at h2
    exact h2
theorem b64_le (s : List UInt8) : (b64 s).length ≤ s.length := by
  unfold b64
  cases h : decL s with
  | none => simp
  | some x =>
    have := enc_dec _ _ h
    have h2 := encL_length x
    rw [this] at h2
    simp only [Option.getD_some]
    omega
theorem unV_form (x : Option (List UInt8)) : ∃ b, unV x = .tuple #[.string ⟨(x.getD []).toArray⟩, .bool b] := by
  cases x with
  | none => exact ⟨false, rfl⟩
  | some l => exact ⟨true, rfl⟩
def noM : MsgS := ⟨0, ⟨#[]⟩, ⟨#[]⟩, ⟨#[]⟩, 0, ⟨#[]⟩, ⟨#[]⟩, ⟨#[]⟩⟩
/-- What read answers. -/
def RdM (k : Int) (l : List UInt8) (e : Ending) : Prop := ∃ (m : MsgS) (b : Bool), e = .returned (.tuple #[mv m, .bool b]) ∧ SzT m ∧ ((b = true ∧ readM k l = some (toM m)) ∨ (b = false ∧ readM k l = none))
theorem mset0 (m : MsgS) (v : Int) : (mA m).setIfInBounds 0 (.int .i64 v) = mA ⟨v, m.u, m.n, m.s, m.i, m.p, m.g, m.f⟩ := rfl
theorem mset1 (m : MsgS) (v : ByteArray) : (mA m).setIfInBounds 1 (.string v) = mA ⟨m.k, v, m.n, m.s, m.i, m.p, m.g, m.f⟩ := rfl
theorem mset2 (m : MsgS) (v : ByteArray) : (mA m).setIfInBounds 2 (.string v) = mA ⟨m.k, m.u, v, m.s, m.i, m.p, m.g, m.f⟩ := rfl
theorem mset3 (m : MsgS) (v : ByteArray) : (mA m).setIfInBounds 3 (.string v) = mA ⟨m.k, m.u, m.n, v, m.i, m.p, m.g, m.f⟩ := rfl
theorem mset4 (m : MsgS) (v : Int) : (mA m).setIfInBounds 4 (.int .i64 v) = mA ⟨m.k, m.u, m.n, m.s, v, m.p, m.g, m.f⟩ := rfl
theorem mset5 (m : MsgS) (v : ByteArray) : (mA m).setIfInBounds 5 (.string v) = mA ⟨m.k, m.u, m.n, m.s, m.i, v, m.g, m.f⟩ := rfl
theorem mset6 (m : MsgS) (v : ByteArray) : (mA m).setIfInBounds 6 (.string v) = mA ⟨m.k, m.u, m.n, m.s, m.i, m.p, v, m.f⟩ := rfl
theorem mset7 (m : MsgS) (v : ByteArray) : (mA m).setIfInBounds 7 (.string v) = mA ⟨m.k, m.u, m.n, m.s, m.i, m.p, m.g, v⟩ := rfl
/-- The whole message is written into the result's block. -/
theorem Ret8 {w W : World} {B A : Nat} {a b : Array Value} (h : DR w B A W a b) (ha : a = mA noM) (m : MsgS) : ∃ W3, W3 = (((((((W.setCell ⟨B, 0, none⟩ (.int .i64 m.k)).setCell ⟨B, 1, none⟩ (.string m.u)).setCell ⟨B, 2, none⟩ (.string m.n)).setCell ⟨B, 3, none⟩ (.string m.s)).setCell ⟨B, 4, none⟩ (.int .i64 m.i)).setCell ⟨B, 5, none⟩ (.string m.p)).setCell ⟨B, 6, none⟩ (.string m.g)).setCell ⟨B, 7, none⟩ (.string m.f) ∧ W3.heap[B]? = some (.cells (mA m) 23 (0, 0)) ∧ Below w.heap.size w W3 := by
  subst ha
  have hk := h.kB
  have hB := h.hB
  have hW := h.hW
  clear h
  obtain ⟨W0, e0⟩ : ∃ V_ : World, V_ = W.setCell ⟨B, 0, none⟩ (.int .i64 m.k) := ⟨_, rfl⟩
  rw [← e0]
  have hk := blk_set hk 0 (.int .i64 m.k)
  rw [← e0, mset0] at hk
  have hW : Below w.heap.size w W0 := by rw [e0]; exact bl_set _ _ hB hW
  clear e0
  obtain ⟨W1, e1⟩ : ∃ V_ : World, V_ = W0.setCell ⟨B, 1, none⟩ (.string m.u) := ⟨_, rfl⟩
  rw [← e1]
  have hk := blk_set hk 1 (.string m.u)
  rw [← e1, mset1] at hk
  have hW : Below w.heap.size w W1 := by rw [e1]; exact bl_set _ _ hB hW
  clear e1
  obtain ⟨W2, e2⟩ : ∃ V_ : World, V_ = W1.setCell ⟨B, 2, none⟩ (.string m.n) := ⟨_, rfl⟩
  rw [← e2]
  have hk := blk_set hk 2 (.string m.n)
  rw [← e2, mset2] at hk
  have hW : Below w.heap.size w W2 := by rw [e2]; exact bl_set _ _ hB hW
  clear e2
  obtain ⟨W3, e3⟩ : ∃ V_ : World, V_ = W2.setCell ⟨B, 3, none⟩ (.string m.s) := ⟨_, rfl⟩
  rw [← e3]
  have hk := blk_set hk 3 (.string m.s)
  rw [← e3, mset3] at hk
  have hW : Below w.heap.size w W3 := by rw [e3]; exact bl_set _ _ hB hW
  clear e3
  obtain ⟨W4, e4⟩ : ∃ V_ : World, V_ = W3.setCell ⟨B, 4, none⟩ (.int .i64 m.i) := ⟨_, rfl⟩
  rw [← e4]
  have hk := blk_set hk 4 (.int .i64 m.i)
  rw [← e4, mset4] at hk
  have hW : Below w.heap.size w W4 := by rw [e4]; exact bl_set _ _ hB hW
  clear e4
  obtain ⟨W5, e5⟩ : ∃ V_ : World, V_ = W4.setCell ⟨B, 5, none⟩ (.string m.p) := ⟨_, rfl⟩
  rw [← e5]
  have hk := blk_set hk 5 (.string m.p)
  rw [← e5, mset5] at hk
  have hW : Below w.heap.size w W5 := by rw [e5]; exact bl_set _ _ hB hW
  clear e5
  obtain ⟨W6, e6⟩ : ∃ V_ : World, V_ = W5.setCell ⟨B, 6, none⟩ (.string m.g) := ⟨_, rfl⟩
  rw [← e6]
  have hk := blk_set hk 6 (.string m.g)
  rw [← e6, mset6] at hk
  have hW : Below w.heap.size w W6 := by rw [e6]; exact bl_set _ _ hB hW
  clear e6
  obtain ⟨W7, e7⟩ : ∃ V_ : World, V_ = W6.setCell ⟨B, 7, none⟩ (.string m.f) := ⟨_, rfl⟩
  rw [← e7]
  have hk := blk_set hk 7 (.string m.f)
  rw [← e7, mset7] at hk
  have hW : Below w.heap.size w W7 := by rw [e7]; exact bl_set _ _ hB hW
  clear e7
  exact ⟨W7, rfl, hk, hW⟩
end Go.Proofs.YtjigckibbjfkmaaGreatDoor

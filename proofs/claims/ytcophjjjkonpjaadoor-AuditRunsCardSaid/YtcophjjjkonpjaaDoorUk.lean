/- Runs without program: they expand to their log; what their text is read as. -/
import Derived.Test.YtcophjjjkonpjaaDoorUa
namespace Go.Proofs.YtcophjjjkonpjaaDoor
open Go.RowKit
set_option maxRecDepth 100000
set_option linter.unusedSimpArgs false
set_option linter.unusedVariables false
theorem wrap_step (p f : Evt) (h1 : -9223372036854775808 ≤ f.i) (h2 : f.i ≤ 9223372036854775807) : wrap64 (p.i + far p f) = f.i := by
  unfold far
  unfold wrap64
  omega
theorem far_range (p f : Evt) : -9223372036854775808 ≤ far p f ∧ far p f ≤ 9223372036854775807 := by
  unfold far
  unfold wrap64
  omega
theorem lk_eq {x y : Evt} (h : lk x y = true) : x.k = y.k ∧ x.v = y.v := by
  simpa [lk] using h
theorem byS_ext : ∀ (r : List Evt) (p : Evt) (s : Int), WfE (p :: r) → byS p.k p.v s (ext p s r) (wrap64 (p.i + s)) = r.take (ext p s r)
  | [], p, s, _ => rfl
  | f :: r, p, s, h => by
    unfold ext
    split
    · rename_i q
      obtain ⟨q1, q2⟩ := q
      obtain ⟨k1, k2⟩ := lk_eq q1
      have hf := h f (by simp)
      have hi := wrap_step p f hf.2.2.1 hf.2.2.2.1
      rw [q2] at hi
      have hr : WfE (f :: r) := fun e he => h e (by
        simp only [List.mem_cons] at he ⊢
        rcases he with he | he
        · exact .inr (.inl he)
        · exact .inr (.inr he))
      rw [byS, hi, List.take_succ_cons, k1, k2, byS_ext r f s hr]
    · rw [List.take_zero]; rfl
theorem expL_runs : ∀ (n : Nat) (l : List Evt), l.length ≤ n → WfE l → expL (runsL l) = l
  | 0, l, hn, _ => by
    have : l = [] := List.length_eq_zero_iff.1 (by omega)
    subst this
    rw [runsL]
    rfl
  | n + 1, [], _, _ => by rw [runsL]; rfl
  | n + 1, e :: r, hn, h => by
    rw [runsL]
    have hx := ext_le e (stepOf e r) r
    have hb := byS_ext r e (stepOf e r) h
    generalize hm : ext e (stepOf e r) r = m at hx hb ⊢
    have ih := expL_runs n (r.drop m) (by rw [List.length_drop]; simp at hn; omega) (fun x hx => h x (by simp; exact .inr (List.mem_of_mem_drop hx)))
    show byS e.k e.v (stepOf e r) ((m : Int) + 1).toNat e.i ++ expL (runsL (r.drop m)) = e :: r
    rw [ih, show ((m : Int) + 1).toNat = m + 1 by omega, byS, hb, List.cons_append, List.take_append_drop]
theorem runs_len : ∀ (n : Nat) (l : List Evt), l.length ≤ n → (runsL l).length ≤ l.length
  | 0, l, hn => by
    have : l = [] := List.length_eq_zero_iff.1 (by omega)
    subst this
    rw [runsL]; simp
  | n + 1, [], _ => by rw [runsL]; simp
  | n + 1, e :: r, hn => by
    rw [runsL]
    have := runs_len n (r.drop (ext e (stepOf e r) r)) (by rw [List.length_drop]; simp at hn; omega)
    rw [List.length_drop] at this
    simp only [List.length_cons]
    omega
theorem stepOf_cons (e f : Evt) (t : List Evt) : stepOf e (f :: t) = if lk e f = true then far e f else 0 := rfl
theorem step_range (e : Evt) (r : List Evt) : -9223372036854775808 ≤ stepOf e r ∧ stepOf e r ≤ 9223372036854775807 := by
  cases r with
  | nil => simp [stepOf]
  | cons f t =>
    by_cases hq : lk e f = true
    · rw [stepOf_cons, if_pos hq]; exact far_range e f
    · rw [stepOf_cons, if_neg hq]; omega
theorem runs_wf : ∀ (n : Nat) (l : List Evt), l.length ≤ n → n ≤ 1000000 → WfE l → WfN (runsL l) ∧ ∀ r ∈ runsL l, 1 ≤ r.c
  | 0, l, hn, _, _ => by
    have : l = [] := List.length_eq_zero_iff.1 (by omega)
    subst this
    rw [runsL]
    exact ⟨fun r hr => by simp at hr, fun r hr => by simp at hr⟩
  | n + 1, [], _, _, _ => by
    rw [runsL]
    exact ⟨fun r hr => by simp at hr, fun r hr => by simp at hr⟩
  | n + 1, e :: r, hn, hb, h => by
    rw [runsL]
    have hx := ext_le e (stepOf e r) r
    have hs := step_range e r
    have he := h e (by simp)
    simp only [List.length_cons] at hn
    obtain ⟨i1, i2⟩ := runs_wf n (r.drop (ext e (stepOf e r) r)) (by rw [List.length_drop]; omega) (by omega) (fun x hx => h x (by simp; exact .inr (List.mem_of_mem_drop hx)))
    constructor
    · intro x hx2
      rcases List.mem_cons.1 hx2 with rfl | hx2
      · exact ⟨⟨he.2.2.1, he.2.2.2.1⟩, hs, ⟨by simp only; omega, by simp only; omega⟩, he.2.2.2.2.1, he.2.2.2.2.2⟩
      · exact i1 x hx2
    · intro x hx2
      rcases List.mem_cons.1 hx2 with rfl | hx2
      · simp only; omega
      · exact i2 x hx2
theorem all_byS (k v s : Int) (K : Int → Bool) : ∀ (n : Nat) (i : Int), (byS k v s (n + 1) i).all (fun e => K e.k) = K k
  | 0, i => by simp [byS]
  | n + 1, i => by
    rw [byS, List.all_cons, all_byS k v s K n]
    simp
def namedL (l : List Evt) : Bool := l.all fun e => decide (1 ≤ e.k ∧ e.k ≤ 5)
theorem named_exp : ∀ (rs : List Rn), (∀ r ∈ rs, 1 ≤ r.c) → namedL (expL rs) = namedR rs
  | [], _ => rfl
  | r :: rs, h => by
    have h1 := h r (by simp)
    have e : expL (r :: rs) = byS r.k r.v r.s r.c.toNat r.i ++ expL rs := rfl
    have ih := named_exp rs (fun x hx => h x (by simp [hx]))
    have h2 := all_byS r.k r.v r.s (fun k => decide (1 ≤ k ∧ k ≤ 5)) (r.c.toNat - 1) r.i
    rw [show r.c.toNat - 1 + 1 = r.c.toNat by omega] at h2
    unfold namedL at ih ⊢
    rw [e, List.all_append, h2, ih]
    rfl
theorem named_runs (l : List Evt) (h : WfE l) (hl : l.length ≤ 1000000) : namedR (runsL l) = namedL l := by
  have h1 := expL_runs l.length l (Nat.le_refl _) h
  have h2 := (runs_wf l.length l (Nat.le_refl _) hl h).2
  rw [← named_exp _ h2, h1]
theorem cnt_runs (l : List Evt) (h : WfE l) : cnt (runsL l) = l.length := by
  rw [← expL_length, expL_runs l.length l (Nat.le_refl _) h]
theorem ext_zero (e : Evt) (r : List Evt) (h : ext e (stepOf e r) r = 0) : stepOf e r = 0 := by
  cases r with
  | nil => rfl
  | cons f t =>
    by_cases hq : lk e f = true
    · exfalso
      rw [stepOf_cons, if_pos hq] at h
      unfold ext at h
      rw [if_pos ⟨hq, rfl⟩] at h
      omega
    · rw [stepOf_cons, if_neg hq]
theorem ext_pos (e f : Evt) (t : List Evt) (h : 0 < ext e (stepOf e (f :: t)) (f :: t)) : lk e f = true ∧ stepOf e (f :: t) = far e f := by
  unfold ext at h
  split at h
  · rename_i q
    exact ⟨q.1, q.2.symm⟩
  · omega
end Go.Proofs.YtcophjjjkonpjaaDoor

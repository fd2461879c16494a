/- The contract of audit.read: a line. -/
import Derived.Test.YtcophjjjkonpjaaDoorUb
import Derived.Deep.CutRange
namespace Go.Proofs.YtcophjjjkonpjaaDoor
open Go.RowKit
set_option maxRecDepth 100000
set_option linter.unusedSimpArgs false
set_option linter.unusedVariables false
attribute [local go_sem] evR_tmp evR_const evR_global evR_func
def runV (r : Rn) : Value := .agg #[.int .i64 r.k, .int .i64 r.i, .int .i64 r.s, .int .i64 r.c, .int .u32 r.v]
def rcA (r : Rn) : Array Value := #[.int .i64 r.k, .int .i64 r.i, .int .i64 r.s, .int .i64 r.c, .int .u32 r.v]
def noRn : Rn := ⟨0, 0, 0, 0, 0⟩
def RdE (l : List UInt8) (x : Ending) : Prop := ∃ r b, x = .returned (.tuple #[runV r, .bool b]) ∧ ((b = true ∧ readA l = some r) ∨ (b = false ∧ readA l = none))
def nmsA : Array Value := #[.string nm0, .string nm1, .string nm2, .string nm3, .string nm4, .string nm5]
def idxI (x : ByteArray) : Int := Lib.idxOfS [nm0, nm1, nm2, nm3, nm4, nm5] x
theorem idx_c (x : ByteArray) (g : Nat) (w : World) (hk : w.heap[g]? = some (.cells nmsA 9 (0, 0))) : Calls Tryd.prog 30 #[.slice (some ⟨g, 0, none⟩) 6 6, .string x] w fun e w' => e = .returned (.int .i64 (idxI x)) ∧ w' = w := by
  refine Tryd.slices_Index_string g 0 6 6 [nm0, nm1, nm2, nm3, nm4, nm5] x w (by decide) (by decide) (fun j hj => ?_)
  have := blk_cell hk j
  rw [Nat.zero_add, this]
  have hj6 : j = 0 ∨ j = 1 ∨ j = 2 ∨ j = 3 ∨ j = 4 ∨ j = 5 := by simp at hj; omega
  rcases hj6 with rfl | rfl | rfl | rfl | rfl | rfl <;> rfl
theorem idx_kind (x : ByteArray) : (kindA x.data.toList : Int) = if 1 ≤ idxI x then idxI x else 0 := by
  have hx : ∀ b : ByteArray, x.data.toList = b.data.toList ↔ x = b := fun b => ⟨fun q => ByteArray.ext (Array.ext' q), fun q => by rw [q]⟩
  unfold kindA idxI
  simp only [hx]
  by_cases h0 : x = nm0
  · subst h0; decide
  by_cases h1 : x = nm1
  · subst h1; decide
  by_cases h2 : x = nm2
  · subst h2; decide
  by_cases h3 : x = nm3
  · subst h3; decide
  by_cases h4 : x = nm4
  · subst h4; decide
  by_cases h5 : x = nm5
  · subst h5; decide
  have hi : Lib.idxOfS [nm0, nm1, nm2, nm3, nm4, nm5] x = -1 := by
    unfold Lib.idxOfS
    have n0 : ¬ nm0 = x := fun q => h0 q.symm
    have n1 : ¬ nm1 = x := fun q => h1 q.symm
    have n2 : ¬ nm2 = x := fun q => h2 q.symm
    have n3 : ¬ nm3 = x := fun q => h3 q.symm
    have n4 : ¬ nm4 = x := fun q => h4 q.symm
    have n5 : ¬ nm5 = x := fun q => h5 q.symm
    simp [Lib.idxFromS, n0, n1, n2, n3, n4, n5]
  rw [hi]
  simp [h1, h2, h3, h4, h5]
def strsV (l : List ByteArray) : Array Value := (l.map Value.string).toArray
theorem aSplit_c (s : ByteArray) (hs : s.size ≤ 100000) (w : World) (hm : MaxL w) : Calls Tryd.prog 29 #[.string s, .string ⟨#[32]⟩] w fun e w' =>
      e = .returned (.slice (some ⟨w.heap.size, 0, none⟩) (splitS 32 s).length (splitS 32 s).length) ∧ w'.heap[w.heap.size]? = some (.cells (strsV (splitS 32 s)) 9 (0, 0)) ∧ Below w.heap.size w w' := by
  obtain ⟨m, hm⟩ := hm
  refine (Tryd.strings_Split s ⟨#[32]⟩ m w (by omega) hm (by decide)).mono ?_
  rintro e w' ⟨rfl, rfl⟩
  have h := splitB_is 32 s
  have hl := splitS_length 32 s
  refine ⟨by rw [hl], ?_, (Below.refl _ _).alloc (Nat.le_refl _) _⟩
  first | exact blk_new _ _ | (rw [h]; exact blk_new _ _)
theorem read_len (s : ByteArray) (h : (splitS 32 s).length ≠ 5) : readA s.data.toList = none := by
  unfold readA
  unfold splitS at h
  rw [List.length_map] at h
  split
  · rename_i hs
    rw [hs] at h
    exact absurd rfl h
  · rfl
theorem Ret5A {w W : World} (kR : W.heap[w.heap.size]? = some (.cells (rcA noRn) 49 (0, 0))) (hA : Below w.heap.size w W) (r : Rn) : ∃ W3, W3 = ((((W.setCell ⟨w.heap.size, 0, none⟩ (.int .i64 r.k)).setCell ⟨w.heap.size, 1, none⟩ (.int .i64 r.i)).setCell ⟨w.heap.size, 2, none⟩ (.int .i64 r.s)).setCell ⟨w.heap.size, 3, none⟩ (.int .i64 r.c)).setCell ⟨w.heap.size, 4, none⟩ (.int .u32 r.v) ∧ W3.heap[w.heap.size]? = some (.cells (rcA r) 49 (0, 0)) ∧ Below w.heap.size w W3 := by
  refine ⟨_, rfl, ?_, ?_⟩
  · exact blk_set (blk_set (blk_set (blk_set (blk_set kR 0 _) 1 _) 2 _) 3 _) 4 _
  · exact bl_set _ _ (Nat.le_refl _) (bl_set _ _ (Nat.le_refl _) (bl_set _ _ (Nat.le_refl _) (bl_set _ _ (Nat.le_refl _) (bl_set _ _ (Nat.le_refl _) hA))))
set_option maxHeartbeats 2000000 in
theorem read_form (s : ByteArray) (hs : s.size ≤ 100000) (hl : (splitS 32 s).length ≠ 5) (w : World) (he : Env w) : Calls Tryd.prog 18 #[.string s] w fun x w' => RdE s.data.toList x ∧ Below w.heap.size w w' := by
  have hS := fun w hm => aSplit_c s hs w hm
  have hr := Lib.hid (read_len s hl)
  generalize splitS 32 s = LS at hS hl
  have q5 : ¬ (LS.length : Int) = 5 := by omega
  have d5 : ((LS.length : Int) != 5) = true := bne_iff_ne.2 q5
  generalize LS.length = LL at hS q5 d5
  clear hl
  replace he := Lib.hid he
  go_enter Tryd.func18, Tryd.ntmps18
  go_upto_region 1 with fail
  refine gen_world fun W hW => ?_
  have kR : W.heap[w.heap.size]? = some (.cells (rcA noRn) 49 (0, 0)) := by subst hW; exact blk_new _ _
  have hA : Below w.heap.size w W := by subst hW; (repeat (first | exact Below.refl _ _ | (refine bl_alloc ?_ _) | (refine bl_drewN ?_ _) | (refine bl_drew ?_) | (refine bl_call (by assumption) ?_) | (refine bl_set _ _ (by simp <;> omega) ?_) | assumption))
  clear hW
  have he1 := Lib.hid (he.out.below hA)
  go_upto_region 2 with (go_at_call 29; refine (hS _ he1.out.max).mono ?_; rintro e w5 ⟨rfl, kL, hb⟩)
  have k5 := grow_blk hb kR
  have hA5 := bl_call hb hA
  clear kL hb kR hA hS he he1
  have r0 : w5.cell? ⟨w.heap.size, 0, none⟩ = some (.int .i64 0) := blk_cell k5 0
  have r1 : w5.cell? ⟨w.heap.size, 1, none⟩ = some (.int .i64 0) := blk_cell k5 1
  have r2 : w5.cell? ⟨w.heap.size, 2, none⟩ = some (.int .i64 0) := blk_cell k5 2
  have r3 : w5.cell? ⟨w.heap.size, 3, none⟩ = some (.int .i64 0) := blk_cell k5 3
  have r4 : w5.cell? ⟨w.heap.size, 4, none⟩ = some (.int .u32 0) := blk_cell k5 4
  have g0 := blk_frozen k5 0
  have g1 := blk_frozen k5 1
  have g2 := blk_frozen k5 2
  have g3 := blk_frozen k5 3
  have g4 := blk_frozen k5 4
  go_wp2_with fail
  obtain ⟨W3, hW3, k3, hb3⟩ := Ret5A k5 hA5 noRn
  simp only [noRn] at hW3
  rw [← hW3]
  clear hW3 r0 r1 r2 r3 r4 g0 g1 g2 g3 g4 k5 hA5
  exact bodyPost_ret (v := .tuple #[runV noRn, .bool false]) (by simp [results, Tryd.results18, go_sem, blk_cell k3 0, blk_cell k3 1, blk_cell k3 2, blk_cell k3 3, blk_cell k3 4, runV, noRn, rcA]) rfl ⟨⟨noRn, false, rfl, .inr ⟨rfl, hr.out⟩⟩, hb3⟩
theorem cell_alloc {w : World} {p : Addr} {v : Value} (k : w.cell? p = some v) (o : Obj) : (w.alloc o).cell? p = some v := grow_cell ((Below.refl _ _).alloc (Nat.le_refl _) _) k
theorem names_own (w : World) : Calls Tryd.prog 31 #[] w fun x w' => ∃ g cap cur, x = .returned (.slice (some ⟨g, 0, none⟩) 6 cap) ∧ cap < 18446744073709551616 ∧ w.heap.size ≤ g ∧ w'.heap[g]? = some (.cells cur 9 (0, 0)) ∧ cur.toList.take 6 = nmsA.toList ∧ Below w.heap.size w w' := by
  refine (names_c w).mono ?_
  rintro e w' ⟨rfl, hk, hb⟩
  exact ⟨_, 6, _, rfl, by decide, Nat.le_refl _, hk, rfl, hb⟩
theorem idx_own (x : ByteArray) (g cap : Nat) (cur : Array Value) (w : World) (hk : w.heap[g]? = some (.cells cur 9 (0, 0))) (ht : cur.toList.take 6 = nmsA.toList) : Calls Tryd.prog 30 #[.slice (some ⟨g, 0, none⟩) 6 cap, .string x] w fun e w' => e = .returned (.int .i64 (idxI x)) ∧ Below w.heap.size w w' := by
  refine (Tryd.slices_Index_string g 0 6 cap [nm0, nm1, nm2, nm3, nm4, nm5] x w (by decide) (by decide) (fun j hj => ?_)).mono (by rintro e w' ⟨rfl, rfl⟩; exact ⟨rfl, Below.refl _ _⟩)
  have hj6 : j < 6 := hj
  rw [Nat.zero_add, own_cell hk ht hj6]
  have hj6 : j = 0 ∨ j = 1 ∨ j = 2 ∨ j = 3 ∨ j = 4 ∨ j = 5 := by omega
  rcases hj6 with rfl | rfl | rfl | rfl | rfl | rfl <;> rfl
structure DA (w : World) (L V U P : Nat) (W : World) (l : List ByteArray) (r : Rn) (u : Int) : Prop where
  kR : W.heap[w.heap.size]? = some (.cells (rcA noRn) 49 (0, 0))
  kL : W.heap[L]? = some (.cells (strsV l) 9 (0, 0))
  kV : W.heap[V]? = some (.cells (rcA r) 49 (0, 0))
  kU : W.heap[U]? = some (.cells #[.int .i64 u] 3 (0, 0))
  kP : W.heap[P]? = some (.cells #[.pointer (some ⟨V, 1, none⟩), .pointer (some ⟨V, 2, none⟩), .pointer (some ⟨V, 3, none⟩), .pointer (some ⟨U, 0, none⟩)] 73 (0, 0))
  hA : Below w.heap.size w W
  hL : w.heap.size < L
  hV : L < V
  hU : V < U
  hP : U < P
section
variable {w W w1 : World} {L V U P : Nat} {l : List ByteArray} {r : Rn} {u : Int}
theorem DA.grow (h : DA w L V U P W l r u) (hb : Below W.heap.size W w1) : DA w L V U P w1 l r u := ⟨grow_blk hb h.kR, grow_blk hb h.kL, grow_blk hb h.kV, grow_blk hb h.kU, grow_blk hb h.kP, bl_call hb h.hA, h.hL, h.hV, h.hU, h.hP⟩
theorem DA.setV (h : DA w L V U P W l r u) (i : Nat) (v : Value) (r2 : Rn) (hr : (rcA r).setIfInBounds i v = rcA r2) : DA w L V U P (W.setCell ⟨V, i, none⟩ v) l r2 u := by
  have a1 := h.hL
  have a2 := h.hV
  have a3 := h.hU
  have a4 := h.hP
  refine ⟨blk_far h.kR (by simp; omega) v, blk_far h.kL (by simp; omega) v, ?_, blk_far h.kU (by simp; omega) v, blk_far h.kP (by simp; omega) v, bl_set _ _ (by simp; omega) h.hA, h.hL, h.hV, h.hU, h.hP⟩
  rw [← hr]
  exact blk_set h.kV i v
theorem DA.setU (h : DA w L V U P W l r u) (n : Int) : DA w L V U P (W.setCell ⟨U, 0, none⟩ (.int .i64 n)) l r n := by
  have a1 := h.hL
  have a2 := h.hV
  have a3 := h.hU
  have a4 := h.hP
  exact ⟨blk_far h.kR (by simp; omega) _, blk_far h.kL (by simp; omega) _, blk_far h.kV (by simp; omega) _, blk_set h.kU 0 _, blk_far h.kP (by simp; omega) _, bl_set _ _ (by simp; omega) h.hA, h.hL, h.hV, h.hU, h.hP⟩
end
def rdN (h : List UInt8) (a b c d : Option Int) : Option Rn := if kindA h = 0 then none else match a, b, c, d with
  | some i, some s, some n, some v => if okA n v = true then some ⟨(kindA h : Int), i, s, n, v⟩ else none
  | _, _, _, _ => none
theorem rdN_no (h : List UInt8) (a b c d : Option Int) (q : a = none ∨ b = none ∨ c = none ∨ d = none) : rdN h a b c d = none := by
  unfold rdN
  split
  · rfl
  · rcases q with rfl | rfl | rfl | rfl
    · rfl
    · cases a <;> rfl
    · cases a <;> cases b <;> rfl
    · cases a <;> cases b <;> cases c <;> rfl
theorem read_of (s h a b c d : ByteArray) (hl : splitS 32 s = [h, a, b, c, d]) : readA s.data.toList = rdN h.data.toList (numA a.data.toList) (numA b.data.toList) (numA c.data.toList) (numA d.data.toList) := by
  have e : splitL 32 s.data.toList = [h.data.toList, a.data.toList, b.data.toList, c.data.toList, d.data.toList] := by
    have := congrArg (fun l : List ByteArray => l.map (·.data.toList)) hl
    unfold splitS at this
    simp only [List.map_map, List.map_cons, List.map_nil] at this
    rw [← this]
    conv => lhs; rw [← List.map_id (splitL 32 s.data.toList)]
    apply List.map_congr_left
    intro x _
    simp
  unfold readA
  rw [e]
  rfl
set_option maxHeartbeats 4000000 in
theorem read_five (s : ByteArray) (hs : s.size ≤ 100000) (h a b c d : ByteArray) (hl : splitS 32 s = [h, a, b, c, d]) (hz : a.size ≤ 100000 ∧ b.size ≤ 100000 ∧ c.size ≤ 100000 ∧ d.size ≤ 100000) (w : World) (he : Env w) : Calls Tryd.prog 18 #[.string s] w fun x w' => RdE s.data.toList x ∧ Below w.heap.size w w' := by
  have hS := fun w hm => aSplit_c s hs w hm
  rw [hl] at hS
  have h5 : ([h, a, b, c, d] : List ByteArray).length = 5 := rfl
  rw [h5] at hS
  clear h5
  replace he := Lib.hid he
  go_enter Tryd.func18, Tryd.ntmps18
  go_upto_region 1 with fail
  refine gen_world fun W hW => ?_
  have kR : W.heap[w.heap.size]? = some (.cells (rcA noRn) 49 (0, 0)) := by subst hW; exact blk_new _ _
  have hA : Below w.heap.size w W := by subst hW; (repeat (first | exact Below.refl _ _ | (refine bl_alloc ?_ _) | (refine bl_drewN ?_ _) | (refine bl_drew ?_) | (refine bl_call (by assumption) ?_) | (refine bl_set _ _ (by simp <;> omega) ?_) | assumption))
  clear hW
  have he1 := Lib.hid (he.out.below hA)
  go_upto_region 4 with (go_at_call 29; refine (hS _ he1.out.max).mono ?_; rintro e w5 ⟨rfl, kL, hb⟩)
  obtain ⟨L, hL⟩ : ∃ L, L = W.heap.size := ⟨_, rfl⟩
  have hRL : w.heap.size < L := by rw [hL]; exact blk_lt kR
  rw [← hL] at kL ⊢
  have k5 := grow_blk hb kR
  have hA5 := bl_call hb hA
  clear hb kR hA hS he1 hL
  have l0 : w5.cell? ⟨L, 0, none⟩ = some (.string h) := blk_cell kL 0
  refine wp_region_R 7 [4] (by kernel_rfl) (by kernel_rfl) (by kernel_rfl) (by kernel_rfl) ?_
  intro K_ ops_ hops_ hK
  replace hops_ := Lib.hid hops_
  apply Exists.intro
  intro R_ hb_
  simp only [↓baseR, ↓nthR_succ, ↓nthR_zero] at hb_
  simp only [List.take_succ_cons, List.take_zero, List.drop_succ_cons, List.drop_zero]
  repeat (first
    
    
    | (apply LexR_own (f := 31) (by rfl) (by rfl) (by rfl) Tryd.func31 (by kernel_rfl) (by kernel_rfl) (fun _ => ?_) (fun w1 hw1 hd1 => ?_) (fun _ hr_ => ?_); rotate_right 3; (go_simp; first | done | rfl); exact (names_own w1)) | (apply LexR_callF (f := 30) (by rfl) (by rfl) (by rfl) Tryd.func30 (by kernel_rfl) (by kernel_rfl) (fun _ => ?_) (fun w1 hw1 hd1 => ?_) (fun _ hr_ => ?_); rotate_right 3; (go_simp; first | done | rfl); (simp [depFacts, needs, Region.binds, Exp.dep] at hd1; obtain ⟨cur_, hk_, ht_⟩ := hd1; exact idx_own h _ _ cur_ w1 hk_ (by first | exact ht_ | simpa using ht_)))
    | (apply LexR_det (by rfl) (by rfl) (by rfl) (fun w1 hw1 hd1 => ?_) (fun _ hr_ => ?_); rotate_right 2; (go_simp; first | done | rfl | (rw [grow_cell hw1 l0]; focus ((try simp); first | done | rfl))))
    | (apply LexR_box (by rfl) (by rfl) (by rfl) (fun w1 hw1 hd1 => ?_) (fun _ hr_ => ?_); rotate_right 2; (go_simp; first | done | rfl))
    )
  apply LexR_end
  refine hK _ _ ?_
  clear hK K_
  repeat clear hr_
  clear hb_ R_ hops_ ops_
  intro w1 hw1 hf1
  apply tailR (fun _ => ?_) (fun _ => ?_) ?_
  rotate_right 2
  · simp only [putAll, Act.put, List.setIfInBounds_toArray, List.set_cons_succ, List.set_cons_zero]; first | done | rfl
  · simp only [List.drop_succ_cons, List.drop_zero]; first | done | rfl
  simp [allFacts, contOf, Exp.putAt, Exp.fact, Exp.fresh, Exp.blk] at hf1
  obtain ⟨_, _, _, kV0, hVB⟩ := hf1
  obtain ⟨V, e_⟩ := name_blk kV0
  subst e_
  have z0 : w1.cell? ⟨V, 0, none⟩ = some (.int .i64 0) := blk_cell kV0 0
  have z1 : w1.cell? ⟨V, 1, none⟩ = some (.int .i64 0) := blk_cell kV0 1
  have z2 : w1.cell? ⟨V, 2, none⟩ = some (.int .i64 0) := blk_cell kV0 2
  have z3 : w1.cell? ⟨V, 3, none⟩ = some (.int .i64 0) := blk_cell kV0 3
  have z4 : w1.cell? ⟨V, 4, none⟩ = some (.int .u32 0) := blk_cell kV0 4
  have y0 := blk_frozen kV0 0
  have y1 := blk_frozen kV0 1
  have y2 := blk_frozen kV0 2
  have y3 := blk_frozen kV0 3
  have y4 := blk_frozen kV0 4
  have hLV : L < V := by have := blk_lt kL; omega
  have kR1 := grow_blk hw1 k5
  have kL1 := grow_blk hw1 kL
  have hA1 := bl_call hw1 hA5
  have hRV : w.heap.size < V := by omega
  clear k5 kL l0 hw1 hA5 hVB
  go_upto_region 5 with fail
  refine gen_world fun W2 hW => ?_
  have kV2 : W2.heap[V]? = some (.cells (rcA ⟨idxI h, 0, 0, 0, 0⟩) 49 (0, 0)) := by rw [hW]; exact blk_set (blk_set (blk_set (blk_set (blk_set kV0 0 _) 1 _) 2 _) 3 _) 4 _
  have kR2 : W2.heap[w.heap.size]? = some (.cells (rcA noRn) 49 (0, 0)) := by rw [hW]; exact blk_far (blk_far (blk_far (blk_far (blk_far kR1 (by simp; omega) _) (by simp; omega) _) (by simp; omega) _) (by simp; omega) _) (by simp; omega) _
  have kL2 : W2.heap[L]? = some (.cells (strsV [h, a, b, c, d]) 9 (0, 0)) := by rw [hW]; exact blk_far (blk_far (blk_far (blk_far (blk_far kL1 (by simp; omega) _) (by simp; omega) _) (by simp; omega) _) (by simp; omega) _) (by simp; omega) _
  have hA2 : Below w.heap.size w W2 := by rw [hW]; exact bl_set _ _ (by simp; omega) (bl_set _ _ (by simp; omega) (bl_set _ _ (by simp; omega) (bl_set _ _ (by simp; omega) (bl_set _ _ (by simp; omega) hA1))))
  clear hW kR1 kL1 hA1 kV0 z0 z1 z2 z3 z4 y0 y1 y2 y3 y4
  go_upto_region 7 with fail
  refine gen_world fun W4 hW => ?_
  obtain ⟨U, hU⟩ : ∃ U, U = W2.heap.size := ⟨_, rfl⟩
  have hVU : V < U := by rw [hU]; exact blk_lt kV2
  rw [← hU] at hW ⊢
-- @TAIL
  obtain ⟨P, hP⟩ : ∃ P, P = U + 1 := ⟨_, rfl⟩
  rw [← hP]
  have D0 : DA w L V U P W4 [h, a, b, c, d] ⟨idxI h, 0, 0, 0, 0⟩ 0 := by
    refine ⟨by rw [hW]; exact blk_alloc (blk_alloc kR2 _) _, by rw [hW]; exact blk_alloc (blk_alloc kL2 _) _, by rw [hW]; exact blk_alloc (blk_alloc kV2 _) _, by rw [hW]; exact blk_alloc (blk_new' hU _) _, by rw [hW]; exact blk_new' (by rw [hP, hU]; exact (Array.size_push _).symm) _, by rw [hW]; exact bl_alloc (bl_alloc hA2 _) _, hRL, hLV, hVU, by omega⟩
  clear hW hU hP kV2 kR2 kL2 hA2 hVU hLV hRV hRL
  have hRA := Lib.hid (read_of s h a b c d hl)
  clear hl
  obtain ⟨za, zb, zc, zd⟩ := hz
  go_wp2_with fail
  refine wp_loop_rounds 5 ?_
  rw [rounds_succ]
  have lx : W4.cell? ⟨L, 1, none⟩ = some (.string a) := blk_cell D0.kL 1
  have px : W4.cell? ⟨P, 0, none⟩ = some (.pointer (some ⟨V, 1, none⟩)) := blk_cell D0.kP 0
  go_upto_region 10 with (go_at_call 32; refine (number_c a za _ (he.out.below D0.hA)).mono ?_; rintro e v6 ⟨⟨n0, ok, rfl, hO⟩, hb⟩)
  have Dx := D0.grow hb
  clear lx px D0 hb
  rcases hO with ⟨rfl, h0⟩ | ⟨rfl, h0⟩
  rotate_left
  · have hno : readA s.data.toList = none := by rw [hRA.out]; exact rdN_no _ _ _ _ _ (by left; exact h0)
    clear hRA h0
    have r0 : v6.cell? ⟨w.heap.size, 0, none⟩ = some (.int .i64 0) := blk_cell Dx.kR 0
    have r1 : v6.cell? ⟨w.heap.size, 1, none⟩ = some (.int .i64 0) := blk_cell Dx.kR 1
    have r2 : v6.cell? ⟨w.heap.size, 2, none⟩ = some (.int .i64 0) := blk_cell Dx.kR 2
    have r3 : v6.cell? ⟨w.heap.size, 3, none⟩ = some (.int .i64 0) := blk_cell Dx.kR 3
    have r4 : v6.cell? ⟨w.heap.size, 4, none⟩ = some (.int .u32 0) := blk_cell Dx.kR 4
    have g0 := blk_frozen Dx.kR 0
    have g1 := blk_frozen Dx.kR 1
    have g2 := blk_frozen Dx.kR 2
    have g3 := blk_frozen Dx.kR 3
    have g4 := blk_frozen Dx.kR 4
    go_wp2_with fail
    obtain ⟨W3, hW3, k3, hb3⟩ := Ret5A Dx.kR Dx.hA noRn
    simp only [noRn] at hW3
    rw [← hW3]
    clear hW3 r0 r1 r2 r3 r4 g0 g1 g2 g3 g4 Dx
    exact bodyPost_ret (v := .tuple #[runV noRn, .bool false]) (by simp [results, Tryd.results18, go_sem, blk_cell k3 0, blk_cell k3 1, blk_cell k3 2, blk_cell k3 3, blk_cell k3 4, runV, noRn, rcA]) rfl ⟨⟨noRn, false, rfl, .inr ⟨rfl, hno⟩⟩, hb3⟩
  have cx : v6.cell? ⟨V, 1, none⟩ = some (.int .i64 0) := blk_cell Dx.kV 1
  have fx := blk_frozen Dx.kV 1
  go_upto_region 13 with fail
  refine gen_world fun X0 hX => ?_
  have D1 : DA w L V U P X0 [h, a, b, c, d] ⟨idxI h, n0, 0, 0, 0⟩ 0 := by rw [hX]; exact Dx.setV 1 _ _ rfl
  clear hX cx fx Dx
  go_wp2_with fail
  rw [rounds_succ]
  have lx : X0.cell? ⟨L, 2, none⟩ = some (.string b) := blk_cell D1.kL 2
  have px : X0.cell? ⟨P, 1, none⟩ = some (.pointer (some ⟨V, 2, none⟩)) := blk_cell D1.kP 1
  go_upto_region 10 with (go_at_call 32; refine (number_c b zb _ (he.out.below D1.hA)).mono ?_; rintro e v6 ⟨⟨n1, ok, rfl, hO⟩, hb⟩)
  have Dx := D1.grow hb
  clear lx px D1 hb
  rcases hO with ⟨rfl, h1⟩ | ⟨rfl, h1⟩
  rotate_left
  · have hno : readA s.data.toList = none := by rw [hRA.out]; exact rdN_no _ _ _ _ _ (by right; left; exact h1)
    clear hRA h1
    have r0 : v6.cell? ⟨w.heap.size, 0, none⟩ = some (.int .i64 0) := blk_cell Dx.kR 0
    have r1 : v6.cell? ⟨w.heap.size, 1, none⟩ = some (.int .i64 0) := blk_cell Dx.kR 1
    have r2 : v6.cell? ⟨w.heap.size, 2, none⟩ = some (.int .i64 0) := blk_cell Dx.kR 2
    have r3 : v6.cell? ⟨w.heap.size, 3, none⟩ = some (.int .i64 0) := blk_cell Dx.kR 3
    have r4 : v6.cell? ⟨w.heap.size, 4, none⟩ = some (.int .u32 0) := blk_cell Dx.kR 4
    have g0 := blk_frozen Dx.kR 0
    have g1 := blk_frozen Dx.kR 1
    have g2 := blk_frozen Dx.kR 2
    have g3 := blk_frozen Dx.kR 3
    have g4 := blk_frozen Dx.kR 4
    go_wp2_with fail
    obtain ⟨W3, hW3, k3, hb3⟩ := Ret5A Dx.kR Dx.hA noRn
    simp only [noRn] at hW3
    rw [← hW3]
    clear hW3 r0 r1 r2 r3 r4 g0 g1 g2 g3 g4 Dx
    exact bodyPost_ret (v := .tuple #[runV noRn, .bool false]) (by simp [results, Tryd.results18, go_sem, blk_cell k3 0, blk_cell k3 1, blk_cell k3 2, blk_cell k3 3, blk_cell k3 4, runV, noRn, rcA]) rfl ⟨⟨noRn, false, rfl, .inr ⟨rfl, hno⟩⟩, hb3⟩
  have cx : v6.cell? ⟨V, 2, none⟩ = some (.int .i64 0) := blk_cell Dx.kV 2
  have fx := blk_frozen Dx.kV 2
  go_upto_region 13 with fail
  refine gen_world fun X1 hX => ?_
  have D2 : DA w L V U P X1 [h, a, b, c, d] ⟨idxI h, n0, n1, 0, 0⟩ 0 := by rw [hX]; exact Dx.setV 2 _ _ rfl
  clear hX cx fx Dx
  go_wp2_with fail
  rw [rounds_succ]
  have lx : X1.cell? ⟨L, 3, none⟩ = some (.string c) := blk_cell D2.kL 3
  have px : X1.cell? ⟨P, 2, none⟩ = some (.pointer (some ⟨V, 3, none⟩)) := blk_cell D2.kP 2
  go_upto_region 10 with (go_at_call 32; refine (number_c c zc _ (he.out.below D2.hA)).mono ?_; rintro e v6 ⟨⟨n2, ok, rfl, hO⟩, hb⟩)
  have Dx := D2.grow hb
  clear lx px D2 hb
  rcases hO with ⟨rfl, h2⟩ | ⟨rfl, h2⟩
  rotate_left
  · have hno : readA s.data.toList = none := by rw [hRA.out]; exact rdN_no _ _ _ _ _ (by right; right; left; exact h2)
    clear hRA h2
    have r0 : v6.cell? ⟨w.heap.size, 0, none⟩ = some (.int .i64 0) := blk_cell Dx.kR 0
    have r1 : v6.cell? ⟨w.heap.size, 1, none⟩ = some (.int .i64 0) := blk_cell Dx.kR 1
    have r2 : v6.cell? ⟨w.heap.size, 2, none⟩ = some (.int .i64 0) := blk_cell Dx.kR 2
    have r3 : v6.cell? ⟨w.heap.size, 3, none⟩ = some (.int .i64 0) := blk_cell Dx.kR 3
    have r4 : v6.cell? ⟨w.heap.size, 4, none⟩ = some (.int .u32 0) := blk_cell Dx.kR 4
    have g0 := blk_frozen Dx.kR 0
    have g1 := blk_frozen Dx.kR 1
    have g2 := blk_frozen Dx.kR 2
    have g3 := blk_frozen Dx.kR 3
    have g4 := blk_frozen Dx.kR 4
    go_wp2_with fail
    obtain ⟨W3, hW3, k3, hb3⟩ := Ret5A Dx.kR Dx.hA noRn
    simp only [noRn] at hW3
    rw [← hW3]
    clear hW3 r0 r1 r2 r3 r4 g0 g1 g2 g3 g4 Dx
    exact bodyPost_ret (v := .tuple #[runV noRn, .bool false]) (by simp [results, Tryd.results18, go_sem, blk_cell k3 0, blk_cell k3 1, blk_cell k3 2, blk_cell k3 3, blk_cell k3 4, runV, noRn, rcA]) rfl ⟨⟨noRn, false, rfl, .inr ⟨rfl, hno⟩⟩, hb3⟩
  have cx : v6.cell? ⟨V, 3, none⟩ = some (.int .i64 0) := blk_cell Dx.kV 3
  have fx := blk_frozen Dx.kV 3
  go_upto_region 13 with fail
  refine gen_world fun X2 hX => ?_
  have D3 : DA w L V U P X2 [h, a, b, c, d] ⟨idxI h, n0, n1, n2, 0⟩ 0 := by rw [hX]; exact Dx.setV 3 _ _ rfl
  clear hX cx fx Dx
  go_wp2_with fail
  rw [rounds_succ]
  have lx : X2.cell? ⟨L, 4, none⟩ = some (.string d) := blk_cell D3.kL 4
  have px : X2.cell? ⟨P, 3, none⟩ = some (.pointer (some ⟨U, 0, none⟩)) := blk_cell D3.kP 3
  go_upto_region 10 with (go_at_call 32; refine (number_c d zd _ (he.out.below D3.hA)).mono ?_; rintro e v6 ⟨⟨n3, ok, rfl, hO⟩, hb⟩)
  have Dx := D3.grow hb
  clear lx px D3 hb
  rcases hO with ⟨rfl, h3⟩ | ⟨rfl, h3⟩
  rotate_left
  · have hno : readA s.data.toList = none := by rw [hRA.out]; exact rdN_no _ _ _ _ _ (by right; right; right; exact h3)
    clear hRA h3
    have r0 : v6.cell? ⟨w.heap.size, 0, none⟩ = some (.int .i64 0) := blk_cell Dx.kR 0
    have r1 : v6.cell? ⟨w.heap.size, 1, none⟩ = some (.int .i64 0) := blk_cell Dx.kR 1
    have r2 : v6.cell? ⟨w.heap.size, 2, none⟩ = some (.int .i64 0) := blk_cell Dx.kR 2
    have r3 : v6.cell? ⟨w.heap.size, 3, none⟩ = some (.int .i64 0) := blk_cell Dx.kR 3
    have r4 : v6.cell? ⟨w.heap.size, 4, none⟩ = some (.int .u32 0) := blk_cell Dx.kR 4
    have g0 := blk_frozen Dx.kR 0
    have g1 := blk_frozen Dx.kR 1
    have g2 := blk_frozen Dx.kR 2
    have g3 := blk_frozen Dx.kR 3
    have g4 := blk_frozen Dx.kR 4
    go_wp2_with fail
    obtain ⟨W3, hW3, k3, hb3⟩ := Ret5A Dx.kR Dx.hA noRn
    simp only [noRn] at hW3
    rw [← hW3]
    clear hW3 r0 r1 r2 r3 r4 g0 g1 g2 g3 g4 Dx
    exact bodyPost_ret (v := .tuple #[runV noRn, .bool false]) (by simp [results, Tryd.results18, go_sem, blk_cell k3 0, blk_cell k3 1, blk_cell k3 2, blk_cell k3 3, blk_cell k3 4, runV, noRn, rcA]) rfl ⟨⟨noRn, false, rfl, .inr ⟨rfl, hno⟩⟩, hb3⟩
  have cx : v6.cell? ⟨U, 0, none⟩ = some (.int .i64 0) := blk_cell Dx.kU 0
  have fx := blk_frozen Dx.kU 0
  go_upto_region 13 with fail
  refine gen_world fun X3 hX => ?_
  have D4 : DA w L V U P X3 [h, a, b, c, d] ⟨idxI h, n0, n1, n2, 0⟩ n3 := by rw [hX]; exact Dx.setU _
  clear hX cx fx Dx
  go_wp2_with fail
  rw [rounds_succ]
  have ux : X3.cell? ⟨U, 0, none⟩ = some (.int .i64 n3) := blk_cell D4.kU 0
  have cx : X3.cell? ⟨V, 4, none⟩ = some (.int .u32 0) := blk_cell D4.kV 4
  have fx := blk_frozen D4.kV 4
  go_upto_region 15 with fail
  refine gen_world fun Y hY => ?_
  have hm : n3 % 4294967296 = n3 ∨ ¬ (0 ≤ n3 ∧ n3 < 4294967296) := by omega
  obtain ⟨m, hmd⟩ : ∃ m, m = n3 % 4294967296 := ⟨_, rfl⟩
  rw [← hmd] at hm hY
  have D5 : DA w L V U P Y [h, a, b, c, d] ⟨idxI h, n0, n1, n2, m⟩ n3 := by rw [hY]; exact D4.setV 4 _ _ rfl
  clear hY cx fx ux D4 hmd za zb zc zd
  have hki := idx_kind h
  have hrd := hRA.out
  rw [h0, h1, h2, h3] at hrd
  unfold rdN okA at hrd
  clear hRA h0 h1 h2 h3
  have ux : Y.cell? ⟨U, 0, none⟩ = some (.int .i64 n3) := blk_cell D5.kU 0
  have v0 : Y.cell? ⟨V, 0, none⟩ = some (.int .i64 (idxI h)) := blk_cell D5.kV 0
  have v1 : Y.cell? ⟨V, 1, none⟩ = some (.int .i64 n0) := blk_cell D5.kV 1
  have v2 : Y.cell? ⟨V, 2, none⟩ = some (.int .i64 n1) := blk_cell D5.kV 2
  have v3 : Y.cell? ⟨V, 3, none⟩ = some (.int .i64 n2) := blk_cell D5.kV 3
  have v4 : Y.cell? ⟨V, 4, none⟩ = some (.int .u32 m) := blk_cell D5.kV 4
  have r0 : Y.cell? ⟨w.heap.size, 0, none⟩ = some (.int .i64 0) := blk_cell D5.kR 0
  have r1 : Y.cell? ⟨w.heap.size, 1, none⟩ = some (.int .i64 0) := blk_cell D5.kR 1
  have r2 : Y.cell? ⟨w.heap.size, 2, none⟩ = some (.int .i64 0) := blk_cell D5.kR 2
  have r3 : Y.cell? ⟨w.heap.size, 3, none⟩ = some (.int .i64 0) := blk_cell D5.kR 3
  have r4 : Y.cell? ⟨w.heap.size, 4, none⟩ = some (.int .u32 0) := blk_cell D5.kR 4
  have g0 := blk_frozen D5.kR 0
  have g1 := blk_frozen D5.kR 1
  have g2 := blk_frozen D5.kR 2
  have g3 := blk_frozen D5.kR 3
  have g4 := blk_frozen D5.kR 4
  have kR := D5.kR
  have hA := D5.hA
  have uR : ¬ w.heap.size = U := by have := D5.hL; have := D5.hV; have := D5.hU; omega
  have uR' : ¬ U = w.heap.size := by have := D5.hL; have := D5.hV; have := D5.hU; omega
  have vR : ¬ w.heap.size = V := by have := D5.hL; have := D5.hV; omega
  have vR' : ¬ V = w.heap.size := by have := D5.hL; have := D5.hV; omega
  clear D5
  generalize idxI h = kk at *
  by_cases q1 : 1 ≤ kk
  rotate_left
  · have hno : readA s.data.toList = none := by rw [hrd]; rw [if_neg q1] at hki; rw [if_pos (by omega)]
    have d1 : decide (1 ≤ kk) = false := decide_eq_false q1
    have l1 : kk < 1 := by omega
    clear hrd hki hm
    go_region
    go_wp2_with fail
    obtain ⟨W3, hW3, k3, hb3⟩ := Ret5A kR hA ⟨kk, n0, n1, n2, m⟩
    have k3d : (W3.drew).heap[w.heap.size]? = some (.cells (rcA ⟨kk, n0, n1, n2, m⟩) 49 (0, 0)) := k3
    simp only at hW3
    rw [← hW3]
    clear hW3 r0 r1 r2 r3 r4 g0 g1 g2 g3 g4 kR hA v0 v1 v2 v3 v4 ux
    exact bodyPost_ret (v := .tuple #[runV ⟨kk, n0, n1, n2, m⟩, .bool false]) (by simp [results, Tryd.results18, go_sem, blk_cell k3d 0, blk_cell k3d 1, blk_cell k3d 2, blk_cell k3d 3, blk_cell k3d 4, blk_cell k3 0, blk_cell k3 1, blk_cell k3 2, blk_cell k3 3, blk_cell k3 4, runV, rcA]) rfl ⟨⟨⟨kk, n0, n1, n2, m⟩, false, rfl, .inr ⟨rfl, hno⟩⟩, by first | exact bl_drew hb3 | exact hb3⟩
  rw [if_pos q1] at hki
  rw [if_neg (by omega)] at hrd
  simp only [hki] at hrd
  have d1 : decide (1 ≤ kk) = true := decide_eq_true q1
  by_cases q2 : 1 ≤ n2
  rotate_left
  · have hno : readA s.data.toList = none := by rw [hrd, if_neg (by simp; omega)]
    have d2 : decide (1 ≤ n2) = false := decide_eq_false q2
    have l2 : n2 < 1 := by omega
    clear hrd hki hm
    go_region
    go_wp2_with fail
    obtain ⟨W3, hW3, k3, hb3⟩ := Ret5A kR hA ⟨kk, n0, n1, n2, m⟩
    have k3d : (W3.drew).heap[w.heap.size]? = some (.cells (rcA ⟨kk, n0, n1, n2, m⟩) 49 (0, 0)) := k3
    simp only at hW3
    rw [← hW3]
    clear hW3 r0 r1 r2 r3 r4 g0 g1 g2 g3 g4 kR hA v0 v1 v2 v3 v4 ux
    exact bodyPost_ret (v := .tuple #[runV ⟨kk, n0, n1, n2, m⟩, .bool false]) (by simp [results, Tryd.results18, go_sem, blk_cell k3d 0, blk_cell k3d 1, blk_cell k3d 2, blk_cell k3d 3, blk_cell k3d 4, blk_cell k3 0, blk_cell k3 1, blk_cell k3 2, blk_cell k3 3, blk_cell k3 4, runV, rcA]) rfl ⟨⟨⟨kk, n0, n1, n2, m⟩, false, rfl, .inr ⟨rfl, hno⟩⟩, by first | exact bl_drew hb3 | exact hb3⟩
  have d2 : decide (1 ≤ n2) = true := decide_eq_true q2
  by_cases q3 : 0 ≤ n3
  rotate_left
  · have hno : readA s.data.toList = none := by rw [hrd, if_neg (by simp; omega)]
    have d3 : decide (0 ≤ n3) = false := decide_eq_false q3
    have l3 : n3 < 0 := by omega
    clear hrd hki hm
    go_region
    go_wp2_with fail
    obtain ⟨W3, hW3, k3, hb3⟩ := Ret5A kR hA ⟨kk, n0, n1, n2, m⟩
    have k3d : (W3.drew).heap[w.heap.size]? = some (.cells (rcA ⟨kk, n0, n1, n2, m⟩) 49 (0, 0)) := k3
    simp only at hW3
    rw [← hW3]
    clear hW3 r0 r1 r2 r3 r4 g0 g1 g2 g3 g4 kR hA v0 v1 v2 v3 v4 ux
    exact bodyPost_ret (v := .tuple #[runV ⟨kk, n0, n1, n2, m⟩, .bool false]) (by simp [results, Tryd.results18, go_sem, blk_cell k3d 0, blk_cell k3d 1, blk_cell k3d 2, blk_cell k3d 3, blk_cell k3d 4, blk_cell k3 0, blk_cell k3 1, blk_cell k3 2, blk_cell k3 3, blk_cell k3 4, runV, rcA]) rfl ⟨⟨⟨kk, n0, n1, n2, m⟩, false, rfl, .inr ⟨rfl, hno⟩⟩, by first | exact bl_drew hb3 | exact hb3⟩
  have d3 : decide (0 ≤ n3) = true := decide_eq_true q3
  by_cases q4 : n3 < 4294967296
  rotate_left
  · have hno : readA s.data.toList = none := by rw [hrd, if_neg (by simp; omega)]
    have d4 : decide (n3 < 4294967296) = false := decide_eq_false q4
    have l4 : 4294967296 ≤ n3 := by omega
    clear hrd hki hm
    go_region
    go_wp2_with fail
    obtain ⟨W3, hW3, k3, hb3⟩ := Ret5A kR hA ⟨kk, n0, n1, n2, m⟩
    have k3d : (W3.drew).heap[w.heap.size]? = some (.cells (rcA ⟨kk, n0, n1, n2, m⟩) 49 (0, 0)) := k3
    simp only at hW3
    rw [← hW3]
    clear hW3 r0 r1 r2 r3 r4 g0 g1 g2 g3 g4 kR hA v0 v1 v2 v3 v4 ux
    exact bodyPost_ret (v := .tuple #[runV ⟨kk, n0, n1, n2, m⟩, .bool false]) (by simp [results, Tryd.results18, go_sem, blk_cell k3d 0, blk_cell k3d 1, blk_cell k3d 2, blk_cell k3d 3, blk_cell k3d 4, blk_cell k3 0, blk_cell k3 1, blk_cell k3 2, blk_cell k3 3, blk_cell k3 4, runV, rcA]) rfl ⟨⟨⟨kk, n0, n1, n2, m⟩, false, rfl, .inr ⟨rfl, hno⟩⟩, by first | exact bl_drew hb3 | exact hb3⟩
  have d4 : decide (n3 < 4294967296) = true := decide_eq_true q4
  obtain rfl : m = n3 := by omega
  have hyes : readA s.data.toList = some ⟨kk, n0, n1, n2, m⟩ := by rw [hrd, if_pos (by simp; omega)]
  clear hrd hki hm
  go_region
  go_wp2_with fail
  obtain ⟨W3, hW3, k3, hb3⟩ := Ret5A kR hA ⟨kk, n0, n1, n2, m⟩
  have k3d : (W3.drew).heap[w.heap.size]? = some (.cells (rcA ⟨kk, n0, n1, n2, m⟩) 49 (0, 0)) := k3
  simp only at hW3
  rw [← hW3]
  clear hW3 r0 r1 r2 r3 r4 g0 g1 g2 g3 g4 kR hA v0 v1 v2 v3 v4 ux
  exact bodyPost_ret (v := .tuple #[runV ⟨kk, n0, n1, n2, m⟩, .bool true]) (by simp [results, Tryd.results18, go_sem, blk_cell k3d 0, blk_cell k3d 1, blk_cell k3d 2, blk_cell k3d 3, blk_cell k3d 4, blk_cell k3 0, blk_cell k3 1, blk_cell k3 2, blk_cell k3 3, blk_cell k3 4, runV, rcA]) rfl ⟨⟨⟨kk, n0, n1, n2, m⟩, true, rfl, .inl ⟨rfl, hyes⟩⟩, by first | exact bl_drew hb3 | exact hb3⟩
theorem read_c (s : ByteArray) (hs : s.size ≤ 100000) (w : World) (he : Env w) : Calls Tryd.prog 18 #[.string s] w fun x w' => RdE s.data.toList x ∧ Below w.heap.size w w' := by
  by_cases hl : (splitS 32 s).length = 5
  · have hz : ∀ x ∈ splitS 32 s, x.size ≤ 100000 := fun x hx => by
      unfold splitS at hx
      obtain ⟨p, hp, rfl⟩ := List.mem_map.1 hx
      have := split_part 32 _ p hp
      have e : s.data.toList.length = s.size := Array.length_toList
      show p.toArray.size ≤ _
      rw [List.size_toArray]
      omega
    match hq : splitS 32 s, hl with
    | [h, a, b, c, d], _ =>
      rw [hq] at hz
      exact read_five s hs h a b c d hq ⟨hz _ (by simp), hz _ (by simp), hz _ (by simp), hz _ (by simp)⟩ w he
  · exact read_form s hs hl w he
end Go.Proofs.YtcophjjjkonpjaaDoor

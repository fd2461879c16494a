/- attr.Right. -/
import Derived.Test.YtjigckibbjfkmaaGreatDoorMb
import Derived.Test.YtjigckibbjfkmaaGreatDoorMp
namespace Go.Proofs.YtjigckibbjfkmaaGreatDoor
open Go.RowKit
set_option maxRecDepth 100000
set_option linter.unusedSimpArgs false
set_option linter.unusedVariables false
structure MsgS where
  k : Int
  u : ByteArray
  n : ByteArray
  s : ByteArray
  i : Int
  p : ByteArray
  g : ByteArray
  f : ByteArray
def mA (m : MsgS) : Array Value := #[.int .i64 m.k, .string m.u, .string m.n, .string m.s, .int .i64 m.i, .string m.p, .string m.g, .string m.f]
def mv (m : MsgS) : Value := .agg #[.int .i64 m.k, .string m.u, .string m.n, .string m.s, .int .i64 m.i, .string m.p, .string m.g, .string m.f]
def toM (m : MsgS) : Msg := ⟨m.k, m.u.data.toList, m.n.data.toList, m.s.data.toList, m.i, m.p.data.toList, m.g.data.toList, m.f.data.toList⟩
structure SzM (m : MsgS) : Prop where
  u : m.u.size ≤ 100000
  n : m.n.size ≤ 100000
  s : m.s.size ≤ 100000
  p : m.p.size ≤ 100000
  g : m.g.size ≤ 100000
  f : m.f.size ≤ 100000
theorem toList_inj {a b : ByteArray} (h : a.toList = b.toList) : a = b := by
  rw [ByteArray.toList_eq, ByteArray.toList_eq] at h
  exact ByteArray.ext (Array.ext' h)
theorem run_eqin_yes (a : MsgS) (w : World) : (Op.equalIn 10000 23 (mv a) (mv a)).run Tryz.prog w = .ok true w := by
  have hu := Tryz.underlying23
  unfold mv
  go_simp
theorem run_eqin_no (a b : MsgS) (h : a ≠ b) (w : World) : (Op.equalIn 10000 23 (mv a) (mv b)).run Tryz.prog w = .ok false w := by
  have hu := Tryz.underlying23
  unfold mv
  go_simp
  intro h1 h2 h3 h4 h5 h6 h7 h8
  refine absurd ?_ h
  obtain ⟨k, u, n, s, i, p, g, f⟩ := a
  obtain ⟨k', u', n', s', i', p', g', f'⟩ := b
  simp only at h1 h2 h3 h4 h5 h6 h7 h8
  rw [h1, toList_inj h2, toList_inj h3, toList_inj h4, h5, toList_inj h6, toList_inj h7, toList_inj h8]
theorem run_eql_yes (a : MsgS) (w : World) : (binOp .eql 23 (mv a) (mv a)).run Tryz.prog w = .ok (.bool true) w := by
  rw [mv, run_eql_struct]
  have := run_eqin_yes a w
  rw [mv] at this
  rw [this]
  rfl
theorem run_eql_no (a b : MsgS) (h : a ≠ b) (w : World) : (binOp .eql 23 (mv a) (mv b)).run Tryz.prog w = .ok (.bool false) w := by
  rw [mv, mv, run_eql_struct]
  have := run_eqin_no a b h w
  rw [mv, mv] at this
  rw [this]
  rfl
theorem run_neq_yes (a : MsgS) (w : World) : (binOp .neq 23 (mv a) (mv a)).run Tryz.prog w = .ok (.bool false) w := by
  rw [mv, run_neq_struct]
  have := run_eqin_yes a w
  rw [mv] at this
  rw [this]
  rfl
theorem run_neq_no (a b : MsgS) (h : a ≠ b) (w : World) : (binOp .neq 23 (mv a) (mv b)).run Tryz.prog w = .ok (.bool true) w := by
  rw [mv, mv, run_neq_struct]
  have := run_eqin_no a b h w
  rw [mv, mv] at this
  rw [this]
  rfl
/-- A message and its copy, in their two blocks. -/
structure DR (w : World) (B A : Nat) (W : World) (a b : Array Value) : Prop where
  kB : W.heap[B]? = some (.cells a 23 (0, 0))
  kA : W.heap[A]? = some (.cells b 23 (0, 0))
  hW : Below w.heap.size w W
  hB : w.heap.size ≤ B
  hA : B < A
section
variable {w W w1 : World} {B A : Nat} {a b : Array Value}
theorem DR.grow (h : DR w B A W a b) (hb : Below W.heap.size W w1) : DR w B A w1 a b := ⟨grow_blk hb h.kB, grow_blk hb h.kA, bl_call hb h.hW, h.hB, h.hA⟩
theorem DR.set (h : DR w B A W a b) (i : Nat) (v : Value) : DR w B A (W.setCell ⟨A, i, none⟩ v) a (b.setIfInBounds i v) := by
  have h1 := h.hB
  have h2 := h.hA
  exact ⟨blk_far h.kB (by simp; omega) v, blk_set h.kA i v, bl_set _ _ (by simp; omega) h.hW, h.hB, h.hA⟩
theorem DR.draw (h : DR w B A W a b) : DR w B A W.drew a b := ⟨h.kB, h.kA, bl_drew h.hW, h.hB, h.hA⟩
end
theorem DR_new (w : World) (a b : Array Value) : DR w w.heap.size (w.heap.size + 1) ((w.alloc (.cells a 23)).alloc (.cells b 23)) a b :=
  ⟨blk_alloc (blk_new _ _) _, blk_new' (Array.size_push _).symm _, bl_alloc (bl_alloc (Below.refl _ _) _) _, Nat.le_refl _, Nat.lt_succ_self _⟩
/-- The same message, all but its own parts struck. -/
def only1 (m : MsgS) : MsgS := ⟨1, m.u, m.n, ⟨#[]⟩, 0, ⟨#[]⟩, ⟨#[]⟩, ⟨#[]⟩⟩
set_option maxHeartbeats 1000000 in
theorem Right_1 (m : MsgS) (hk : m.k = 1) (hz : SzM m) (w : World) (he : Env w) : Calls Tryz.prog 10 #[mv m] w fun e w' => e = .returned (.bool (decide (rightM (toM m)))) ∧ Below w.heap.size w w' := by
  obtain ⟨k, u, n, s, i, p, g, f⟩ := m
  simp only at hk
  subst hk
  have hN := fun w => anonce_c n hz.n w
  have hU := fun w he => aname_c u hz.u w he
  by_cases ho : (⟨1, u, n, s, i, p, g, f⟩ : MsgS) = only1 ⟨1, u, n, s, i, p, g, f⟩
  · have hE := fun w => run_eql_yes (only1 ⟨1, u, n, s, i, p, g, f⟩) w
    simp only [mv, only1] at hE
    unfold only1 at ho
    simp only [MsgS.mk.injEq, true_and, and_true] at ho
    obtain ⟨rfl, rfl, rfl, rfl, rfl⟩ := ho
    have hR : decide (rightM (toM ⟨1, u, n, ⟨#[]⟩, 0, ⟨#[]⟩, ⟨#[]⟩, ⟨#[]⟩⟩)) = (nameOk u.data.toList && nonceOk n.data.toList) := by
      rw [Bool.eq_iff_iff, decide_eq_true_iff]
      simp [rightM, toM]
    rw [hR]
    clear hR hz
    generalize nameOk u.data.toList = U at hU ⊢
    generalize nonceOk n.data.toList = C at hN ⊢
    replace he := Lib.hid he
    unfold mv
    go_enter Tryz.func10, Tryz.ntmps10
    go_upto_region 4 with fail
    have D := DR_new w #[Value.int IntKind.i64 1, Value.string u, Value.string n, Value.string ⟨#[]⟩, Value.int IntKind.i64 0, Value.string ⟨#[]⟩, Value.string ⟨#[]⟩, Value.string ⟨#[]⟩] #[Value.int IntKind.i64 1, Value.string ⟨#[]⟩, Value.string ⟨#[]⟩, Value.string ⟨#[]⟩, Value.int IntKind.i64 0, Value.string ⟨#[]⟩, Value.string ⟨#[]⟩, Value.string ⟨#[]⟩]
    refine gen_world fun W hW => ?_
    rw [← hW] at D
    clear hW
    obtain ⟨B, hB⟩ : ∃ B, B = w.heap.size := ⟨_, rfl⟩
    obtain ⟨A, hA⟩ : ∃ A, A = w.heap.size + 1 := ⟨_, rfl⟩
    rw [← hA, ← hB] at D
    rw [← hA, ← hB]
    clear hA hB
    have b1 := blk_cell D.kB 1
    have z1 := blk_frozen D.kA 1
    have a1 := blk_cell D.kA 1
    have b2 := blk_cell D.kB 2
    have z2 := blk_frozen D.kA 2
    have a2 := blk_cell D.kA 2
    go_region
    go_upto_region 5 with fail
    have D2 := ((D.set 1 (Value.string u)).set 2 (Value.string n)).draw
    refine gen_world fun W2 hW2 => ?_
    rw [← hW2] at D2
    have he2 := Lib.hid (he.out.below D2.hW)
    clear hW2 D b1 z1 a1 b2 z2 a2
    replace D2 : DR w B A W2 #[Value.int IntKind.i64 1, Value.string u, Value.string n, Value.string ⟨#[]⟩, Value.int IntKind.i64 0, Value.string ⟨#[]⟩, Value.string ⟨#[]⟩, Value.string ⟨#[]⟩] #[Value.int IntKind.i64 1, Value.string u, Value.string n, Value.string ⟨#[]⟩, Value.int IntKind.i64 0, Value.string ⟨#[]⟩, Value.string ⟨#[]⟩, Value.string ⟨#[]⟩] := D2
    have b0 := blk_cell D2.kB 0
    have b1 := blk_cell D2.kB 1
    have b2 := blk_cell D2.kB 2
    have b3 := blk_cell D2.kB 3
    have b4 := blk_cell D2.kB 4
    have b5 := blk_cell D2.kB 5
    have b6 := blk_cell D2.kB 6
    have b7 := blk_cell D2.kB 7
    have a0 := blk_cell D2.kA 0
    have a1 := blk_cell D2.kA 1
    have a2 := blk_cell D2.kA 2
    have a3 := blk_cell D2.kA 3
    have a4 := blk_cell D2.kA 4
    have a5 := blk_cell D2.kA 5
    have a6 := blk_cell D2.kA 6
    have a7 := blk_cell D2.kA 7
    cases U
    · go_wp2_with (first | (go_at_call 27; refine (hU _ he2.out).mono ?_; rintro e w5 ⟨rfl, hb5⟩; have D5 := D2.grow hb5; have c2 := blk_cell D5.kB 2) | (go_at_call 28; refine (hN _).mono ?_; rintro e w6 ⟨rfl, hb6⟩))
      exact bodyPost_ret (v := .bool false) (by simp [results, Tryz.results10, go_sem]) rfl ⟨rfl, D5.hW⟩
    · cases C
      · go_wp2_with (first | (go_at_call 27; refine (hU _ he2.out).mono ?_; rintro e w5 ⟨rfl, hb5⟩; have D5 := D2.grow hb5; have c2 := blk_cell D5.kB 2) | (go_at_call 28; refine (hN _).mono ?_; rintro e w6 ⟨rfl, hb6⟩))
        exact bodyPost_ret (v := .bool false) (by simp [results, Tryz.results10, go_sem]) rfl ⟨rfl, bl_call hb6 D5.hW⟩
      · go_wp2_with (first | (go_at_call 27; refine (hU _ he2.out).mono ?_; rintro e w5 ⟨rfl, hb5⟩; have D5 := D2.grow hb5; have c2 := blk_cell D5.kB 2) | (go_at_call 28; refine (hN _).mono ?_; rintro e w6 ⟨rfl, hb6⟩))
        exact bodyPost_ret (v := .bool true) (by simp [results, Tryz.results10, go_sem]) rfl ⟨rfl, bl_call hb6 D5.hW⟩
  · have hE := fun w => run_eql_no ⟨1, u, n, s, i, p, g, f⟩ (only1 ⟨1, u, n, s, i, p, g, f⟩) ho w
    simp only [mv, only1] at hE
    have hR : decide (rightM (toM ⟨1, u, n, s, i, p, g, f⟩)) = false := by
      rw [decide_eq_false_iff_not]
      intro q
      apply ho
      simp [rightM, toM] at q
      simp [only1, ByteArray.ext_iff, q]
    rw [hR]
    clear hR ho hz
    replace he := Lib.hid he
    unfold mv
    go_enter Tryz.func10, Tryz.ntmps10
    go_upto_region 4 with fail
    have D := DR_new w #[Value.int IntKind.i64 1, Value.string u, Value.string n, Value.string s, Value.int IntKind.i64 i, Value.string p, Value.string g, Value.string f] #[Value.int IntKind.i64 1, Value.string ⟨#[]⟩, Value.string ⟨#[]⟩, Value.string ⟨#[]⟩, Value.int IntKind.i64 0, Value.string ⟨#[]⟩, Value.string ⟨#[]⟩, Value.string ⟨#[]⟩]
    refine gen_world fun W hW => ?_
    rw [← hW] at D
    clear hW
    obtain ⟨B, hB⟩ : ∃ B, B = w.heap.size := ⟨_, rfl⟩
    obtain ⟨A, hA⟩ : ∃ A, A = w.heap.size + 1 := ⟨_, rfl⟩
    rw [← hA, ← hB] at D
    rw [← hA, ← hB]
    clear hA hB
    have b1 := blk_cell D.kB 1
    have z1 := blk_frozen D.kA 1
    have a1 := blk_cell D.kA 1
    have b2 := blk_cell D.kB 2
    have z2 := blk_frozen D.kA 2
    have a2 := blk_cell D.kA 2
    go_region
    go_upto_region 5 with fail
    have D2 := ((D.set 1 (Value.string u)).set 2 (Value.string n)).draw
    refine gen_world fun W2 hW2 => ?_
    rw [← hW2] at D2
    have he2 := Lib.hid (he.out.below D2.hW)
    clear hW2 D b1 z1 a1 b2 z2 a2
    replace D2 : DR w B A W2 #[Value.int IntKind.i64 1, Value.string u, Value.string n, Value.string s, Value.int IntKind.i64 i, Value.string p, Value.string g, Value.string f] #[Value.int IntKind.i64 1, Value.string u, Value.string n, Value.string ⟨#[]⟩, Value.int IntKind.i64 0, Value.string ⟨#[]⟩, Value.string ⟨#[]⟩, Value.string ⟨#[]⟩] := D2
    have b0 := blk_cell D2.kB 0
    have b1 := blk_cell D2.kB 1
    have b2 := blk_cell D2.kB 2
    have b3 := blk_cell D2.kB 3
    have b4 := blk_cell D2.kB 4
    have b5 := blk_cell D2.kB 5
    have b6 := blk_cell D2.kB 6
    have b7 := blk_cell D2.kB 7
    have a0 := blk_cell D2.kA 0
    have a1 := blk_cell D2.kA 1
    have a2 := blk_cell D2.kA 2
    have a3 := blk_cell D2.kA 3
    have a4 := blk_cell D2.kA 4
    have a5 := blk_cell D2.kA 5
    have a6 := blk_cell D2.kA 6
    have a7 := blk_cell D2.kA 7
    go_wp2_with fail
    exact bodyPost_ret (v := .bool false) (by simp [results, Tryz.results10, go_sem]) rfl ⟨rfl, D2.hW⟩
/-- The same message, all but its own parts struck. -/
def only2 (m : MsgS) : MsgS := ⟨2, ⟨#[]⟩, m.n, m.s, m.i, ⟨#[]⟩, ⟨#[]⟩, ⟨#[]⟩⟩
set_option maxHeartbeats 1000000 in
theorem Right_2 (m : MsgS) (hk : m.k = 2) (hz : SzM m) (w : World) (he : Env w) : Calls Tryz.prog 10 #[mv m] w fun e w' => e = .returned (.bool (decide (rightM (toM m)))) ∧ Below w.heap.size w w' := by
  obtain ⟨k, u, n, s, i, p, g, f⟩ := m
  simp only at hk
  subst hk
  have hN := fun w => anonce_c n hz.n w
  have hS := fun w => Salt_c s w
  have hI := fun w => Iter_c i w
  by_cases ho : (⟨2, u, n, s, i, p, g, f⟩ : MsgS) = only2 ⟨2, u, n, s, i, p, g, f⟩
  · have hE := fun w => run_eql_yes (only2 ⟨2, u, n, s, i, p, g, f⟩) w
    simp only [mv, only2] at hE
    unfold only2 at ho
    simp only [MsgS.mk.injEq, true_and, and_true] at ho
    obtain ⟨rfl, rfl, rfl, rfl⟩ := ho
    have hR : decide (rightM (toM ⟨2, ⟨#[]⟩, n, s, i, ⟨#[]⟩, ⟨#[]⟩, ⟨#[]⟩⟩)) = (nonceOk n.data.toList && (inside 1 (s.size : Int) 64 && inside 1 i 16777216)) := by
      rw [Bool.eq_iff_iff, decide_eq_true_iff]
      simp only [rightM, toM, zlen, inside, Bool.and_eq_true, decide_eq_true_eq]
      simp
      try omega
    rw [hR]
    clear hR hz
    generalize nonceOk n.data.toList = C at hN ⊢
    generalize inside 1 (s.size : Int) 64 = S at hS ⊢
    generalize inside 1 i 16777216 = I at hI ⊢
    replace he := Lib.hid he
    unfold mv
    go_enter Tryz.func10, Tryz.ntmps10
    go_upto_region 7 with fail
    have D := DR_new w #[Value.int IntKind.i64 2, Value.string ⟨#[]⟩, Value.string n, Value.string s, Value.int IntKind.i64 i, Value.string ⟨#[]⟩, Value.string ⟨#[]⟩, Value.string ⟨#[]⟩] #[Value.int IntKind.i64 2, Value.string ⟨#[]⟩, Value.string ⟨#[]⟩, Value.string ⟨#[]⟩, Value.int IntKind.i64 0, Value.string ⟨#[]⟩, Value.string ⟨#[]⟩, Value.string ⟨#[]⟩]
    refine gen_world fun W hW => ?_
    rw [← hW] at D
    clear hW
    obtain ⟨B, hB⟩ : ∃ B, B = w.heap.size := ⟨_, rfl⟩
    obtain ⟨A, hA⟩ : ∃ A, A = w.heap.size + 1 := ⟨_, rfl⟩
    rw [← hA, ← hB] at D
    rw [← hA, ← hB]
    clear hA hB
    have b2 := blk_cell D.kB 2
    have z2 := blk_frozen D.kA 2
    have a2 := blk_cell D.kA 2
    have b3 := blk_cell D.kB 3
    have z3 := blk_frozen D.kA 3
    have a3 := blk_cell D.kA 3
    have b4 := blk_cell D.kB 4
    have z4 := blk_frozen D.kA 4
    have a4 := blk_cell D.kA 4
    go_region
    go_upto_region 8 with fail
    have D2 := (((D.set 2 (Value.string n)).set 3 (Value.string s)).set 4 (Value.int IntKind.i64 i)).draw
    refine gen_world fun W2 hW2 => ?_
    rw [← hW2] at D2
    have he2 := Lib.hid (he.out.below D2.hW)
    clear hW2 D b2 z2 a2 b3 z3 a3 b4 z4 a4
    replace D2 : DR w B A W2 #[Value.int IntKind.i64 2, Value.string ⟨#[]⟩, Value.string n, Value.string s, Value.int IntKind.i64 i, Value.string ⟨#[]⟩, Value.string ⟨#[]⟩, Value.string ⟨#[]⟩] #[Value.int IntKind.i64 2, Value.string ⟨#[]⟩, Value.string n, Value.string s, Value.int IntKind.i64 i, Value.string ⟨#[]⟩, Value.string ⟨#[]⟩, Value.string ⟨#[]⟩] := D2
    have b0 := blk_cell D2.kB 0
    have b1 := blk_cell D2.kB 1
    have b2 := blk_cell D2.kB 2
    have b3 := blk_cell D2.kB 3
    have b4 := blk_cell D2.kB 4
    have b5 := blk_cell D2.kB 5
    have b6 := blk_cell D2.kB 6
    have b7 := blk_cell D2.kB 7
    have a0 := blk_cell D2.kA 0
    have a1 := blk_cell D2.kA 1
    have a2 := blk_cell D2.kA 2
    have a3 := blk_cell D2.kA 3
    have a4 := blk_cell D2.kA 4
    have a5 := blk_cell D2.kA 5
    have a6 := blk_cell D2.kA 6
    have a7 := blk_cell D2.kA 7
    cases C
    · go_wp2_with (first | (go_at_call 28; refine (hN _).mono ?_; rintro e w5 ⟨rfl, hb5⟩; have D5 := D2.grow hb5; have c3 := blk_cell D5.kB 3; have c4 := blk_cell D5.kB 4) | (go_at_call 29; refine (hS _).mono ?_; rintro e w6 ⟨rfl, rfl⟩) | (go_at_call 30; refine (hI _).mono ?_; rintro e w7 ⟨rfl, rfl⟩))
      exact bodyPost_ret (v := .bool false) (by simp [results, Tryz.results10, go_sem]) rfl ⟨rfl, D5.hW⟩
    cases S
    · rw [show eo false 6 = 6 from rfl] at hS
      go_wp2_with (first | (go_at_call 28; refine (hN _).mono ?_; rintro e w5 ⟨rfl, hb5⟩; have D5 := D2.grow hb5; have c3 := blk_cell D5.kB 3; have c4 := blk_cell D5.kB 4) | (go_at_call 29; refine (hS _).mono ?_; rintro e w6 ⟨rfl, rfl⟩) | (go_at_call 30; refine (hI _).mono ?_; rintro e w7 ⟨rfl, rfl⟩))
      exact bodyPost_ret (v := .bool false) (by simp [results, Tryz.results10, go_sem]) rfl ⟨rfl, D5.hW⟩
    rw [show eo true 6 = 0 from rfl] at hS
    cases I
    · rw [show eo false 7 = 7 from rfl] at hI
      go_wp2_with (first | (go_at_call 28; refine (hN _).mono ?_; rintro e w5 ⟨rfl, hb5⟩; have D5 := D2.grow hb5; have c3 := blk_cell D5.kB 3; have c4 := blk_cell D5.kB 4) | (go_at_call 29; refine (hS _).mono ?_; rintro e w6 ⟨rfl, rfl⟩) | (go_at_call 30; refine (hI _).mono ?_; rintro e w7 ⟨rfl, rfl⟩))
      exact bodyPost_ret (v := .bool false) (by simp [results, Tryz.results10, go_sem]) rfl ⟨rfl, D5.hW⟩
    · rw [show eo true 7 = 0 from rfl] at hI
      go_wp2_with (first | (go_at_call 28; refine (hN _).mono ?_; rintro e w5 ⟨rfl, hb5⟩; have D5 := D2.grow hb5; have c3 := blk_cell D5.kB 3; have c4 := blk_cell D5.kB 4) | (go_at_call 29; refine (hS _).mono ?_; rintro e w6 ⟨rfl, rfl⟩) | (go_at_call 30; refine (hI _).mono ?_; rintro e w7 ⟨rfl, rfl⟩))
      exact bodyPost_ret (v := .bool true) (by simp [results, Tryz.results10, go_sem]) rfl ⟨rfl, D5.hW⟩
  · have hE := fun w => run_eql_no ⟨2, u, n, s, i, p, g, f⟩ (only2 ⟨2, u, n, s, i, p, g, f⟩) ho w
    simp only [mv, only2] at hE
    have hR : decide (rightM (toM ⟨2, u, n, s, i, p, g, f⟩)) = false := by
      rw [decide_eq_false_iff_not]
      intro q
      apply ho
      simp [rightM, toM] at q
      simp [only2, ByteArray.ext_iff, q]
    rw [hR]
    clear hR ho hz
    replace he := Lib.hid he
    unfold mv
    go_enter Tryz.func10, Tryz.ntmps10
    go_upto_region 7 with fail
    have D := DR_new w #[Value.int IntKind.i64 2, Value.string u, Value.string n, Value.string s, Value.int IntKind.i64 i, Value.string p, Value.string g, Value.string f] #[Value.int IntKind.i64 2, Value.string ⟨#[]⟩, Value.string ⟨#[]⟩, Value.string ⟨#[]⟩, Value.int IntKind.i64 0, Value.string ⟨#[]⟩, Value.string ⟨#[]⟩, Value.string ⟨#[]⟩]
    refine gen_world fun W hW => ?_
    rw [← hW] at D
    clear hW
    obtain ⟨B, hB⟩ : ∃ B, B = w.heap.size := ⟨_, rfl⟩
    obtain ⟨A, hA⟩ : ∃ A, A = w.heap.size + 1 := ⟨_, rfl⟩
    rw [← hA, ← hB] at D
    rw [← hA, ← hB]
    clear hA hB
    have b2 := blk_cell D.kB 2
    have z2 := blk_frozen D.kA 2
    have a2 := blk_cell D.kA 2
    have b3 := blk_cell D.kB 3
    have z3 := blk_frozen D.kA 3
    have a3 := blk_cell D.kA 3
    have b4 := blk_cell D.kB 4
    have z4 := blk_frozen D.kA 4
    have a4 := blk_cell D.kA 4
    go_region
    go_upto_region 8 with fail
    have D2 := (((D.set 2 (Value.string n)).set 3 (Value.string s)).set 4 (Value.int IntKind.i64 i)).draw
    refine gen_world fun W2 hW2 => ?_
    rw [← hW2] at D2
    have he2 := Lib.hid (he.out.below D2.hW)
    clear hW2 D b2 z2 a2 b3 z3 a3 b4 z4 a4
    replace D2 : DR w B A W2 #[Value.int IntKind.i64 2, Value.string u, Value.string n, Value.string s, Value.int IntKind.i64 i, Value.string p, Value.string g, Value.string f] #[Value.int IntKind.i64 2, Value.string ⟨#[]⟩, Value.string n, Value.string s, Value.int IntKind.i64 i, Value.string ⟨#[]⟩, Value.string ⟨#[]⟩, Value.string ⟨#[]⟩] := D2
    have b0 := blk_cell D2.kB 0
    have b1 := blk_cell D2.kB 1
    have b2 := blk_cell D2.kB 2
    have b3 := blk_cell D2.kB 3
    have b4 := blk_cell D2.kB 4
    have b5 := blk_cell D2.kB 5
    have b6 := blk_cell D2.kB 6
    have b7 := blk_cell D2.kB 7
    have a0 := blk_cell D2.kA 0
    have a1 := blk_cell D2.kA 1
    have a2 := blk_cell D2.kA 2
    have a3 := blk_cell D2.kA 3
    have a4 := blk_cell D2.kA 4
    have a5 := blk_cell D2.kA 5
    have a6 := blk_cell D2.kA 6
    have a7 := blk_cell D2.kA 7
    go_wp2_with fail
    exact bodyPost_ret (v := .bool false) (by simp [results, Tryz.results10, go_sem]) rfl ⟨rfl, D2.hW⟩
/-- The same message, all but its own parts struck. -/
def only3 (m : MsgS) : MsgS := ⟨3, ⟨#[]⟩, m.n, ⟨#[]⟩, 0, m.p, ⟨#[]⟩, ⟨#[]⟩⟩
set_option maxHeartbeats 1000000 in
theorem Right_3 (m : MsgS) (hk : m.k = 3) (hz : SzM m) (w : World) (he : Env w) : Calls Tryz.prog 10 #[mv m] w fun e w' => e = .returned (.bool (decide (rightM (toM m)))) ∧ Below w.heap.size w w' := by
  obtain ⟨k, u, n, s, i, p, g, f⟩ := m
  simp only at hk
  subst hk
  have hN := fun w => anonce_c n hz.n w
  by_cases ho : (⟨3, u, n, s, i, p, g, f⟩ : MsgS) = only3 ⟨3, u, n, s, i, p, g, f⟩
  · have hE := fun w => run_eql_yes (only3 ⟨3, u, n, s, i, p, g, f⟩) w
    simp only [mv, only3] at hE
    unfold only3 at ho
    simp only [MsgS.mk.injEq, true_and, and_true] at ho
    obtain ⟨rfl, rfl, rfl, rfl, rfl⟩ := ho
    have hR : decide (rightM (toM ⟨3, ⟨#[]⟩, n, ⟨#[]⟩, 0, p, ⟨#[]⟩, ⟨#[]⟩⟩)) = (nonceOk n.data.toList && decide (p.size = 32)) := by
      rw [Bool.eq_iff_iff, decide_eq_true_iff]
      simp [rightM, toM]
    rw [hR]
    clear hR hz
    generalize nonceOk n.data.toList = C at hN ⊢
    by_cases h32 : p.size = 32
    · have q1 : (p.size : Int) = 32 := by omega
      rw [decide_eq_true h32]
      clear h32
      replace he := Lib.hid he
      unfold mv
      go_enter Tryz.func10, Tryz.ntmps10
      go_upto_region 10 with fail
      have D := DR_new w #[Value.int IntKind.i64 3, Value.string ⟨#[]⟩, Value.string n, Value.string ⟨#[]⟩, Value.int IntKind.i64 0, Value.string p, Value.string ⟨#[]⟩, Value.string ⟨#[]⟩] #[Value.int IntKind.i64 3, Value.string ⟨#[]⟩, Value.string ⟨#[]⟩, Value.string ⟨#[]⟩, Value.int IntKind.i64 0, Value.string ⟨#[]⟩, Value.string ⟨#[]⟩, Value.string ⟨#[]⟩]
      refine gen_world fun W hW => ?_
      rw [← hW] at D
      clear hW
      obtain ⟨B, hB⟩ : ∃ B, B = w.heap.size := ⟨_, rfl⟩
      obtain ⟨A, hA⟩ : ∃ A, A = w.heap.size + 1 := ⟨_, rfl⟩
      rw [← hA, ← hB] at D
      rw [← hA, ← hB]
      clear hA hB
      have b2 := blk_cell D.kB 2
      have z2 := blk_frozen D.kA 2
      have a2 := blk_cell D.kA 2
      have b5 := blk_cell D.kB 5
      have z5 := blk_frozen D.kA 5
      have a5 := blk_cell D.kA 5
      go_region
      go_upto_region 11 with fail
      have D2 := ((D.set 2 (Value.string n)).set 5 (Value.string p)).draw
      refine gen_world fun W2 hW2 => ?_
      rw [← hW2] at D2
      have he2 := Lib.hid (he.out.below D2.hW)
      clear hW2 D b2 z2 a2 b5 z5 a5
      replace D2 : DR w B A W2 #[Value.int IntKind.i64 3, Value.string ⟨#[]⟩, Value.string n, Value.string ⟨#[]⟩, Value.int IntKind.i64 0, Value.string p, Value.string ⟨#[]⟩, Value.string ⟨#[]⟩] #[Value.int IntKind.i64 3, Value.string ⟨#[]⟩, Value.string n, Value.string ⟨#[]⟩, Value.int IntKind.i64 0, Value.string p, Value.string ⟨#[]⟩, Value.string ⟨#[]⟩] := D2
      have b0 := blk_cell D2.kB 0
      have b1 := blk_cell D2.kB 1
      have b2 := blk_cell D2.kB 2
      have b3 := blk_cell D2.kB 3
      have b4 := blk_cell D2.kB 4
      have b5 := blk_cell D2.kB 5
      have b6 := blk_cell D2.kB 6
      have b7 := blk_cell D2.kB 7
      have a0 := blk_cell D2.kA 0
      have a1 := blk_cell D2.kA 1
      have a2 := blk_cell D2.kA 2
      have a3 := blk_cell D2.kA 3
      have a4 := blk_cell D2.kA 4
      have a5 := blk_cell D2.kA 5
      have a6 := blk_cell D2.kA 6
      have a7 := blk_cell D2.kA 7
      cases C
      · go_wp2_with (go_at_call 28; refine (hN _).mono ?_; rintro e w5 ⟨rfl, hb5⟩; have D5 := D2.grow hb5; have c5 := blk_cell D5.kB 5)
        exact bodyPost_ret (v := .bool false) (by simp [results, Tryz.results10, go_sem]) rfl ⟨rfl, D5.hW⟩
      · go_wp2_with (go_at_call 28; refine (hN _).mono ?_; rintro e w5 ⟨rfl, hb5⟩; have D5 := D2.grow hb5; have c5 := blk_cell D5.kB 5)
        exact bodyPost_ret (v := .bool true) (by simp [results, Tryz.results10, go_sem]) rfl ⟨rfl, D5.hW⟩
    · have q1 : ¬ (p.size : Int) = 32 := by omega
      have q2 : ((p.size : Int) == 32) = false := by rw [beq_eq_false_iff_ne]; exact q1
      rw [decide_eq_false h32]
      clear h32
      replace he := Lib.hid he
      unfold mv
      go_enter Tryz.func10, Tryz.ntmps10
      go_upto_region 10 with fail
      have D := DR_new w #[Value.int IntKind.i64 3, Value.string ⟨#[]⟩, Value.string n, Value.string ⟨#[]⟩, Value.int IntKind.i64 0, Value.string p, Value.string ⟨#[]⟩, Value.string ⟨#[]⟩] #[Value.int IntKind.i64 3, Value.string ⟨#[]⟩, Value.string ⟨#[]⟩, Value.string ⟨#[]⟩, Value.int IntKind.i64 0, Value.string ⟨#[]⟩, Value.string ⟨#[]⟩, Value.string ⟨#[]⟩]
      refine gen_world fun W hW => ?_
      rw [← hW] at D
      clear hW
      obtain ⟨B, hB⟩ : ∃ B, B = w.heap.size := ⟨_, rfl⟩
      obtain ⟨A, hA⟩ : ∃ A, A = w.heap.size + 1 := ⟨_, rfl⟩
      rw [← hA, ← hB] at D
      rw [← hA, ← hB]
      clear hA hB
      have b2 := blk_cell D.kB 2
      have z2 := blk_frozen D.kA 2
      have a2 := blk_cell D.kA 2
      have b5 := blk_cell D.kB 5
      have z5 := blk_frozen D.kA 5
      have a5 := blk_cell D.kA 5
      go_region
      go_upto_region 11 with fail
      have D2 := ((D.set 2 (Value.string n)).set 5 (Value.string p)).draw
      refine gen_world fun W2 hW2 => ?_
      rw [← hW2] at D2
      have he2 := Lib.hid (he.out.below D2.hW)
      clear hW2 D b2 z2 a2 b5 z5 a5
      replace D2 : DR w B A W2 #[Value.int IntKind.i64 3, Value.string ⟨#[]⟩, Value.string n, Value.string ⟨#[]⟩, Value.int IntKind.i64 0, Value.string p, Value.string ⟨#[]⟩, Value.string ⟨#[]⟩] #[Value.int IntKind.i64 3, Value.string ⟨#[]⟩, Value.string n, Value.string ⟨#[]⟩, Value.int IntKind.i64 0, Value.string p, Value.string ⟨#[]⟩, Value.string ⟨#[]⟩] := D2
      have b0 := blk_cell D2.kB 0
      have b1 := blk_cell D2.kB 1
      have b2 := blk_cell D2.kB 2
      have b3 := blk_cell D2.kB 3
      have b4 := blk_cell D2.kB 4
      have b5 := blk_cell D2.kB 5
      have b6 := blk_cell D2.kB 6
      have b7 := blk_cell D2.kB 7
      have a0 := blk_cell D2.kA 0
      have a1 := blk_cell D2.kA 1
      have a2 := blk_cell D2.kA 2
      have a3 := blk_cell D2.kA 3
      have a4 := blk_cell D2.kA 4
      have a5 := blk_cell D2.kA 5
      have a6 := blk_cell D2.kA 6
      have a7 := blk_cell D2.kA 7
      cases C
      · go_wp2_with (go_at_call 28; refine (hN _).mono ?_; rintro e w5 ⟨rfl, hb5⟩; have D5 := D2.grow hb5; have c5 := blk_cell D5.kB 5)
        exact bodyPost_ret (v := .bool false) (by simp [results, Tryz.results10, go_sem]) rfl ⟨rfl, D5.hW⟩
      · go_wp2_with (go_at_call 28; refine (hN _).mono ?_; rintro e w5 ⟨rfl, hb5⟩; have D5 := D2.grow hb5; have c5 := blk_cell D5.kB 5)
        exact bodyPost_ret (v := .bool false) (by simp [results, Tryz.results10, go_sem]) rfl ⟨rfl, D5.hW⟩
  · have hE := fun w => run_eql_no ⟨3, u, n, s, i, p, g, f⟩ (only3 ⟨3, u, n, s, i, p, g, f⟩) ho w
    simp only [mv, only3] at hE
    have hR : decide (rightM (toM ⟨3, u, n, s, i, p, g, f⟩)) = false := by
      rw [decide_eq_false_iff_not]
      intro q
      apply ho
      simp [rightM, toM] at q
      simp [only3, ByteArray.ext_iff, q]
    rw [hR]
    clear hR ho hz
    replace he := Lib.hid he
    unfold mv
    go_enter Tryz.func10, Tryz.ntmps10
    go_upto_region 10 with fail
    have D := DR_new w #[Value.int IntKind.i64 3, Value.string u, Value.string n, Value.string s, Value.int IntKind.i64 i, Value.string p, Value.string g, Value.string f] #[Value.int IntKind.i64 3, Value.string ⟨#[]⟩, Value.string ⟨#[]⟩, Value.string ⟨#[]⟩, Value.int IntKind.i64 0, Value.string ⟨#[]⟩, Value.string ⟨#[]⟩, Value.string ⟨#[]⟩]
    refine gen_world fun W hW => ?_
    rw [← hW] at D
    clear hW
    obtain ⟨B, hB⟩ : ∃ B, B = w.heap.size := ⟨_, rfl⟩
    obtain ⟨A, hA⟩ : ∃ A, A = w.heap.size + 1 := ⟨_, rfl⟩
    rw [← hA, ← hB] at D
    rw [← hA, ← hB]
    clear hA hB
    have b2 := blk_cell D.kB 2
    have z2 := blk_frozen D.kA 2
    have a2 := blk_cell D.kA 2
    have b5 := blk_cell D.kB 5
    have z5 := blk_frozen D.kA 5
    have a5 := blk_cell D.kA 5
    go_region
    go_upto_region 11 with fail
    have D2 := ((D.set 2 (Value.string n)).set 5 (Value.string p)).draw
    refine gen_world fun W2 hW2 => ?_
    rw [← hW2] at D2
    have he2 := Lib.hid (he.out.below D2.hW)
    clear hW2 D b2 z2 a2 b5 z5 a5
    replace D2 : DR w B A W2 #[Value.int IntKind.i64 3, Value.string u, Value.string n, Value.string s, Value.int IntKind.i64 i, Value.string p, Value.string g, Value.string f] #[Value.int IntKind.i64 3, Value.string ⟨#[]⟩, Value.string n, Value.string ⟨#[]⟩, Value.int IntKind.i64 0, Value.string p, Value.string ⟨#[]⟩, Value.string ⟨#[]⟩] := D2
    have b0 := blk_cell D2.kB 0
    have b1 := blk_cell D2.kB 1
    have b2 := blk_cell D2.kB 2
    have b3 := blk_cell D2.kB 3
    have b4 := blk_cell D2.kB 4
    have b5 := blk_cell D2.kB 5
    have b6 := blk_cell D2.kB 6
    have b7 := blk_cell D2.kB 7
    have a0 := blk_cell D2.kA 0
    have a1 := blk_cell D2.kA 1
    have a2 := blk_cell D2.kA 2
    have a3 := blk_cell D2.kA 3
    have a4 := blk_cell D2.kA 4
    have a5 := blk_cell D2.kA 5
    have a6 := blk_cell D2.kA 6
    have a7 := blk_cell D2.kA 7
    go_wp2_with fail
    exact bodyPost_ret (v := .bool false) (by simp [results, Tryz.results10, go_sem]) rfl ⟨rfl, D2.hW⟩
end Go.Proofs.YtjigckibbjfkmaaGreatDoor

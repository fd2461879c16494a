/- sha.Hash: over the words of an arena. -/
import Derived.Test.YteaaaekffnfmhaaAr
import Derived.Test.YteaaaekffnfmhaaEq
namespace Go.Proofs.Yteaaaekffnfmhaa
open Go.RowKit
set_option maxRecDepth 100000
set_option linter.unusedSimpArgs false
set_option linter.unusedVariables false
attribute [local go_sem] evR_tmp evR_const evR_global evR_func
/-- What k loads from a place on note. -/
def loads (at_ k : Nat) : List Ev := (List.range k).map fun j => (1, ((at_ + j : Nat) : Int), 0)
theorem loads_snoc (a k : Nat) : loads a (k + 1) = loads a k ++ [(1, ((a + k : Nat) : Int), 0)] := by simp [loads, List.range_succ]
theorem loads_length (a k : Nat) : (loads a k).length = k := by simp [loads]
/-- What the reader of sha.Hash knows behind k calls. -/
def HJ (ga g4 g5 at_ : Nat) (xs : List W32) (top : Nat) (es : List Ev) (k : Nat) (W : World) (F : Nat → Prop) : Prop :=
  ∃ F1, (∀ b, F b ↔ F1 b ∨ b = g4 ∨ b = g5) ∧ ArJ ga xs top (es ++ loads at_ k) W F1 ∧ ¬ F1 g4 ∧ ¬ F1 g5 ∧ W.heap[g4]? = some (.cells #[.pointer (some ⟨ga, 0, none⟩)] 42 (0, 0)) ∧ W.heap[g5]? = some (.cells #[.int .i64 (at_ : Int)] 3 (0, 0))
theorem HJ.foot (ga g4 g5 at_ : Nat) (xs : List W32) (top : Nat) (es : List Ev) : Foot (HJ ga g4 g5 at_ xs top es) where
  lt := fun {k W F} ⟨F1, hF, hJ, h4, h5, k4, k5⟩ b hb => by
    rcases (hF b).1 hb with q | rfl | rfl
    · exact (ArJ.foot ga xs top _).lt (k := 0) hJ b q
    · exact blk_lt k4
    · exact blk_lt k5
  keep := fun {k W W' F} ⟨F1, hF, hJ, h4, h5, k4, k5⟩ hs he => ⟨F1, hF, (ArJ.foot ga xs top _).keep (k := 0) hJ hs fun b hb => he b ((hF b).2 (.inl hb)), h4, h5, (he _ ((hF _).2 (.inr (.inl rfl)))).trans k4, (he _ ((hF _).2 (.inr (.inr rfl)))).trans k5⟩
theorem Hash1_c (ga g4 g5 at_ : Nat) (xs : List W32) (top : Nat) (es : List Ev) (k : Nat) (W : World) (F : Nat → Prop) (h : HJ ga g4 g5 at_ xs top es k W F) (hi : at_ + k < top) (hn : es.length + k ≤ 1000000) :
    Calls Try.prog 54 (#[.int .i64 (k : Int)] ++ #[.pointer (some ⟨g4, 0, none⟩), .pointer (some ⟨g5, 0, none⟩)]) W fun e W' => e = .returned (.agg #[.int .u32 (iw (at32 xs (at_ + k)))]) ∧ Read (HJ ga g4 g5 at_ xs top es) k F W W' := by
  obtain ⟨F1, hF, hJ, h4, h5, k4, k5⟩ := h
  have sm : top ≤ xs.length ∧ xs.length ≤ 1000000 := by obtain ⟨_, _, _, _, h⟩ := hJ; exact h.small
  have S0 := St1.start hJ
  have q4 := blk_lt k4
  have q5 := blk_lt k5
  have c4 := blk_cell k4 0
  have c5 := blk_cell k5 0
  have e1 : IntKind.i64.wrap ((at_ : Int) + k) = ((at_ + k : Nat) : Int) := by rw [IntWalk.i64_in _ (by omega)]; omega
  show Calls Try.prog 54 #[.int .i64 (k : Int), .pointer (some ⟨g4, 0, none⟩), .pointer (some ⟨g5, 0, none⟩)] W _
  go_enter Try.func54, Try.ntmps54
  go_upto_region 1 with (fail)
  refine gen_world fun W1 hW => ?_
  have kr : W1.heap[W.heap.size]? = some (.cells #[.int .u32 0] 29 (0, 0)) := by subst hW; (repeat (first | (with_reducible assumption) | ((with_reducible refine blk_new' ?_ _); (simp; done)) | ((with_reducible refine blk_alloc ?_ _)) | ((with_reducible refine blk_far ?_ ?_ _); (simp <;> omega))))
  have HB : Below W.heap.size W W1 := by subst hW; (repeat (first | exact Below.refl _ _ | (refine bl_alloc ?_ _) | (refine bl_drewN ?_ _) | (refine bl_drew ?_) | (refine bl_call (by assumption) ?_) | (refine bl_set _ _ (by simp <;> omega) ?_) | assumption))
  have S : St1 (ArJ ga xs top (es ++ loads at_ k)) F1 W W1 [W.heap.size] := S0.take (ArJ.foot ga xs top _) [W.heap.size] (by simp) HB
  replace c4 := grow_cell HB c4
  replace c5 := grow_cell HB c5
  clear hW HB S0
  have qr := blk_lt kr
  obtain ⟨F2, hJ2, hup⟩ := St1.upd S (by simpa using qr)
  have cr := blk_cell kr 0
  have fr := blk_frozen kr 0
  go_wp2_with (go_at_call 39; refine (Load_c ga xs top _ (at_ + k) _ F2 hJ2 (by omega) (by rw [List.length_append, loads_length]; exact hn)).mono ?_; rintro e W2 ⟨rfl, hU⟩; obtain ⟨S2, h2⟩ := hup _ _ hU; replace kr := (h2 W.heap.size (by simp)).trans kr; replace cr := blk_cell kr 0; replace fr := blk_frozen kr 0)
  have SF := S2.set (ArJ.foot ga xs top _) ⟨W.heap.size, 0, none⟩ (.int .u32 (iw (at32 xs (at_ + k)))) (by simp) (Nat.le_refl _)
  have cf := blk_cell (blk_set kr 0 (.int .u32 (iw (at32 xs (at_ + k))))) 0
  refine bodyPost_ret (v := .agg #[.int .u32 (iw (at32 xs (at_ + k)))]) (by simp [results, Try.results54, go_sem, cf]) rfl ⟨rfl, ?_⟩
  obtain ⟨⟨F3, hJ3, hs3⟩, ha⟩ := St1.out SF
  have n4 : ¬ F3 g4 := fun z => by
    rcases hs3 g4 z with q | q
    · exact h4 q
    · omega
  have n5 : ¬ F3 g5 := fun z => by
    rcases hs3 g5 z with q | q
    · exact h5 q
    · omega
  refine ⟨⟨fun b => F3 b ∨ b = g4 ∨ b = g5, ⟨F3, fun _ => Iff.rfl, by rw [loads_snoc, ← List.append_assoc]; exact hJ3, n4, n5, (ha.block g4 q4 h4).trans k4, (ha.block g5 q5 h5).trans k5⟩, fun b hb => ?_⟩, ha.mono fun b hb => (hF b).2 (.inl hb)⟩
  rcases hb with q | q
  · rcases hs3 b q with z | z
    · exact .inl ((hF b).2 (.inl z))
    · exact .inr z
  · exact .inl ((hF b).2 (.inr q))
/-- The length, cut at the number of the words. -/
def cutw (n : Nat) (len : W32) : W32 := selw (mk (ltw (kw n) len)) (kw n) len
theorem cutw_is (n : Nat) (hn : n < 4294967296) (len : W32) : cutw n len = kw (min n len.toNat) := by
  unfold cutw
  have hl := len.isLt
  have e : kw len.toNat = len := BitVec.eq_of_toNat_eq (kw_nat _ hl)
  by_cases h : n < len.toNat
  · rw [show ltw (kw n) len = true by unfold ltw; rw [kw_nat n hn]; simpa using h, sel_true, Nat.min_eq_left (by omega)]
  · rw [show ltw (kw n) len = false by unfold ltw; rw [kw_nat n hn]; simpa using h, sel_false, Nat.min_eq_right (by omega), e]
theorem far_of {w W : World} {g : Nat} {o : Obj} {p : Addr} {v : Value} (hW : W = w.setCell p v) (k : w.heap[g]? = some o) (hp : g ≠ p.block) : W.heap[g]? = some o := by subst hW; exact blk_far k hp v
theorem results_cell_row_tmp {P : Program} {fn : Func} {p u : Tmp} {ty : TypeId} (h : fn.results = #[.cell p ty, .tmp u]) (tmps : Array Value) (w : World) (g : Nat) (t : TypeId) (cs : Array Value) (fr : Nat × Nat) (d : TypeDesc) (b : Value)
    (hp : tmps.getD p undef = .pointer (some ⟨g, 0, none⟩)) (hb : tmps.getD u undef = b) (hg : w.heap[g]? = some (.cells cs t fr))
    (hu : P.underlying ty = some d) (hd : (match d with | .struct _ | .array _ _ => true | _ => false) = true) (hi : (P.info? ty).map (·.size) = some cs.size) :
    (results fn tmps).run P w = .ok (.tuple #[.agg cs, b]) w := by
  have hp' : tmps[p]?.getD undef = .pointer (some ⟨g, 0, none⟩) := by simpa using hp
  have hb' : tmps[u]?.getD undef = b := by simpa using hb
  simp [results, h, hp', hb', asAddr, run_loadVar_row w g t ty cs fr d hg hu hd hi]
set_option maxHeartbeats 2000000 in
theorem Hash_c (ga : Nat) (xs : List W32) (top : Nat) (es : List Ev) (at_ n : Nat) (len : W32) (w : World) (F : Nat → Prop) (hJ : ArJ ga xs top es w F) (hi : at_ + n ≤ top) (hm : n ≤ 49152) (hn : es.length + n ≤ 1000000) :
    Calls Try.prog 35 #[.pointer (some ⟨ga, 0, none⟩), .int .i64 (at_ : Int), .int .i64 (n : Int), .agg #[.int .u32 (iw len)]] w fun e w' => e = .returned (.tuple #[.agg (cw (hashw n (cutw n len) fun i => at32 xs (at_ + i))), .bool true]) ∧ Upd (ArJ ga xs top (es ++ loads at_ n)) F w w' := by
  have S0 := St1.start hJ
  have sm : top ≤ xs.length ∧ xs.length ≤ 1000000 := by obtain ⟨_, _, _, _, h⟩ := hJ; exact h.small
  have hf : fits top (at_ : Int) (n : Int) = true := by unfold fits; simp; omega
  have hb1 : ¬ (n : Int) < 0 := by omega
  have hb2 : (n : Int) ≤ 49152 := by omega
  go_enter Try.func35, Try.ntmps35
  go_upto_region 1 with (fail)
  refine gen_world fun W hW => ?_
  have k4 : W.heap[w.heap.size]? = some (.cells #[.pointer (some ⟨ga, 0, none⟩)] 42 (0, 0)) := by subst hW; (repeat (first | (with_reducible assumption) | ((with_reducible refine blk_new' ?_ _); (simp; done)) | ((with_reducible refine blk_alloc ?_ _)) | ((with_reducible refine blk_far ?_ ?_ _); (simp <;> omega))))
  have k5 : W.heap[w.heap.size + 1]? = some (.cells #[.int .i64 (at_ : Int)] 3 (0, 0)) := by subst hW; (repeat (first | (with_reducible assumption) | ((with_reducible refine blk_new' ?_ _); (simp; done)) | ((with_reducible refine blk_alloc ?_ _)) | ((with_reducible refine blk_far ?_ ?_ _); (simp <;> omega))))
  have k7 : W.heap[w.heap.size + 1 + 1]? = some (.cells #[.int .u32 (iw len)] 29 (0, 0)) := by subst hW; (repeat (first | (with_reducible assumption) | ((with_reducible refine blk_new' ?_ _); (simp; done)) | ((with_reducible refine blk_alloc ?_ _)) | ((with_reducible refine blk_far ?_ ?_ _); (simp <;> omega))))
  have k8 : W.heap[w.heap.size + 1 + 1 + 1]? = some (.cells (Array.replicate 8 (.int .u32 0)) 30 (0, 0)) := by subst hW; exact blk_new' (by simp) _
  have HB : Below w.heap.size w W := by subst hW; (repeat (first | exact Below.refl _ _ | (refine bl_alloc ?_ _) | (refine bl_drewN ?_ _) | (refine bl_drew ?_) | (refine bl_call (by assumption) ?_) | (refine bl_set _ _ (by simp <;> omega) ?_) | assumption))
  have S : St1 (ArJ ga xs top es) F w W [w.heap.size + 1 + 1 + 1, w.heap.size + 1 + 1, w.heap.size + 1, w.heap.size] := S0.take (ArJ.foot ga xs top es) [w.heap.size + 1 + 1 + 1, w.heap.size + 1 + 1, w.heap.size + 1, w.heap.size] (by simp <;> omega) HB
  clear hW HB S0
  obtain ⟨F1, ⟨gw, gl, sv, hF1, A⟩, _⟩ := S.ex
  have c4 := blk_cell k4 0
  have c5 := blk_cell k5 0
  go_upto_region 3 with (go_at_call 40; refine (Fits_c ga top at_ n _ _ _ A.ka (by omega)).mono ?_; rintro e w1 ⟨rfl, hw1⟩; rw [hf])
  clear A hF1 c4 c5
  replace S := St.grow (ArJ.foot ga xs top es) S hw1
  replace k4 := grow_blk hw1 k4
  replace k5 := grow_blk hw1 k5
  replace k7 := grow_blk hw1 k7
  replace k8 := grow_blk hw1 k8
  clear hw1
  go_upto_region 4 with (go_at_call 20; refine (Of_c _ (kw n) (by unfold iw; rw [kw_nat n (by omega)]) _).mono ?_; rintro e w2 ⟨rfl, hw1⟩)
  refine gen_world fun W2 hW => ?_
  have k10 : W2.heap[w2.heap.size]? = some (.cells #[.int .u32 (iw (kw n))] 29 (0, 0)) := by subst hW; (repeat (first | (with_reducible assumption) | ((with_reducible refine blk_new' ?_ _); (simp; done)) | ((with_reducible refine blk_alloc ?_ _)) | ((with_reducible refine blk_far ?_ ?_ _); (simp <;> omega))))
  have HB : Below w2.heap.size w2 W2 := by subst hW; (repeat (first | exact Below.refl _ _ | (refine bl_alloc ?_ _) | (refine bl_drewN ?_ _) | (refine bl_drew ?_) | (refine bl_call (by assumption) ?_) | (refine bl_set _ _ (by simp <;> omega) ?_) | assumption))
  replace S := St.grow (ArJ.foot ga xs top es) S (bl_call HB hw1)
  replace HB := bl_call HB hw1
  clear hW
  replace hw1 := HB
  clear HB
  replace k4 := grow_blk hw1 k4
  replace k5 := grow_blk hw1 k5
  replace k7 := grow_blk hw1 k7
  replace k8 := grow_blk hw1 k8
  clear hw1
  refine wp_region_R 6 [7, 10] (by kernel_rfl) (by kernel_rfl) (by kernel_rfl) (by kernel_rfl) ?_
  intro K_ ops_ hops_ hK
  replace hops_ := Lib.hid hops_
  apply Exists.intro
  intro R_ hb_
  simp only [↓baseR, ↓nthR_succ, ↓nthR_zero] at hb_
  simp only [List.take_succ_cons, List.take_zero, List.drop_succ_cons, List.drop_zero]
  repeat (first
    
    
    | (apply LexR_callF (f := 37) (by rfl) (by rfl) (by rfl) Try.func37 (by kernel_rfl) (by kernel_rfl) (fun _ => ?_) (fun w1 hw1 hd1 => ?_) (fun _ hr_ => ?_); rotate_right 3; (go_simp; first | done | rfl); exact (Lt_c _ _ w1)) | (apply LexR_callF (f := 36) (by rfl) (by rfl) (by rfl) Try.func36 (by kernel_rfl) (by kernel_rfl) (fun _ => ?_) (fun w1 hw1 hd1 => ?_) (fun _ hr_ => ?_); rotate_right 3; (go_simp; first | done | rfl); exact (Sel_c _ _ _ w1))
    | (apply LexR_det (by rfl) (by rfl) (by rfl) (fun w1 hw1 hd1 => ?_) (fun _ hr_ => ?_); rotate_right 2; (go_simp; first | done | rfl | (rw [blk_cell (grow_blk hw1 k10)]; focus ((try simp); first | done | rfl)) | (rw [blk_cell (grow_blk hw1 k7)]; focus ((try simp); first | done | rfl))))
    | (apply LexR_box (by rfl) (by rfl) (by rfl) (fun w1 hw1 hd1 => ?_) (fun _ hr_ => ?_); rotate_right 2; (go_simp; first | done | rfl))
    | (apply LexR_bs (t := 34) (e := 29) (z := .agg #[.int .u32 0]) (ho := rfl) (by rfl) (by rfl) Try.underlying34 (by kernel_rfl) (by decide) (by decide) (fun _ => ?_) (fun _ => ?_) (fun _ => ?_) (fun _ hr_ => ?_); rotate_right 4; (go_simp; rfl); (exact ⟨rfl, rfl, rfl⟩); (simp only [List.map_cons, List.map_nil, List.flatMap_cons, List.flatMap_nil, Value.cells, List.cons_append, List.nil_append, List.append_nil]; rfl)))
  apply LexR_end
  refine hK _ _ ?_
  clear hK K_
  repeat clear hr_
  clear hb_ R_ hops_ ops_
  intro w1 hw1 hf1
  apply tailR (fun _ => ?_) (fun _ => ?_) ?_
  rotate_right 2
  · simp only [putAll, Act.put, List.setIfInBounds_toArray, List.set_cons_succ, List.set_cons_zero]; first | done | rfl
  · simp only [List.drop_succ_cons, List.drop_zero]; first | done | rfl
  simp [allFacts, contOf, Exp.putAt, Exp.fact, Exp.fresh, Exp.blk] at hf1
  clear hf1 k10
  replace k4 := grow_blk hw1 k4
  replace k5 := grow_blk hw1 k5
  replace k7 := grow_blk hw1 k7
  replace k8 := grow_blk hw1 k8
  replace S := St.grow (ArJ.foot ga xs top es) S hw1
  clear hw1
  have c7 := blk_cell k7 0
  have f7 := blk_frozen k7 0
  go_upto_region 5 with (fail)
  refine gen_world fun W3 hW => ?_
  replace S : St (fun _ => ArJ ga xs top es) F w 0 W3 [w.heap.size + 1 + 1 + 1, w.heap.size + 1 + 1, w.heap.size + 1, w.heap.size] := by subst hW; exact S.set (ArJ.foot ga xs top es) ⟨w.heap.size + 1 + 1, 0, none⟩ _ (by simp) (by simp <;> omega)
  replace k4 := far_of hW k4 (by simp only [ne_eq]; omega)
  replace k5 := far_of hW k5 (by simp only [ne_eq]; omega)
  replace k8 := far_of hW k8 (by simp only [ne_eq]; omega)
  replace k7 : W3.heap[w.heap.size + 1 + 1]? = some (.cells #[.int .u32 (iw (cutw n len))] 29 (0, 0)) := by subst hW; exact blk_set k7 0 _
  clear hW f7
  replace c7 := blk_cell k7 0
  obtain ⟨F5, hJ5, hs5, ho5⟩ := S.ex
  have hJ0 : HJ ga w.heap.size (w.heap.size + 1) at_ xs top es 0 W3 (fun b => F5 b ∨ b = w.heap.size ∨ b = w.heap.size + 1) := ⟨F5, fun _ => Iff.rfl, by simpa [loads] using hJ5, ho5 _ (by simp), ho5 _ (by simp), k4, k5⟩
  have n8 : ¬ (F5 (w.heap.size + 1 + 1 + 1) ∨ w.heap.size + 1 + 1 + 1 = w.heap.size ∨ w.heap.size + 1 + 1 + 1 = w.heap.size + 1) := by
    rintro (q | q | q)
    · exact ho5 _ (by simp) q
    · omega
    · omega
  have q8 := blk_lt k8
  have L8 := Lib.hid (hashw_length n (cutw n len) fun i => at32 xs (at_ + i))
  have hH := hash_c (HJ.foot ga w.heap.size (w.heap.size + 1) at_ xs top es) Try.func54 (by kernel_rfl) (by kernel_rfl) n (by omega) (cutw n len) (fun i => at32 xs (at_ + i)) (fun k W F hk h => Hash1_c ga _ _ at_ xs top es k W F h (by omega) (by omega)) W3 hJ0
  generalize hhs : hashw n (cutw n len) (fun i => at32 xs (at_ + i)) = hs at L8 hH
  go_wp2_with (first | (go_at_call 47; refine hH.mono ?_; rintro e W4 ⟨rfl, S4⟩; replace k8 := (S4.apart.block _ q8 n8).trans k8) | (refine wpList_store_row rfl _ _ _ rfl (w.heap.size + 1 + 1 + 1) (cw hs) rfl rfl 30 _ k8 (by rw [cw_size, L8.out]; kernel_rfl) (by rw [cw_size, L8.out]; rfl) (cw_one _) ?_))
  have k8' := setRow_blk k8 (cw hs)
  refine bodyPost_ret (v := .tuple #[.agg (cw hs), .bool true]) (results_cell_row_tmp Try.results35 _ _ (w.heap.size + 1 + 1 + 1) 30 (cw hs) (0, 0) _ _ rfl rfl k8' Try.underlying30 rfl (by rw [cw_size, L8.out]; kernel_rfl)) rfl ⟨by rw [hhs], ?_⟩
  obtain ⟨F', ⟨F6, hF', hJ6, n4', n5', _, _⟩, hs', _⟩ := S4.ex
  have n86 : ¬ F6 (w.heap.size + 1 + 1 + 1) := fun z => by
    rcases hs' _ ((hF' _).2 (.inl z)) with q | q
    · exact n8 q
    · omega
  have S0 := S.apart
  have s3 := S0.size
  have s4 := S4.apart.size
  refine ⟨⟨F6, (ArJ.foot ga xs top (es ++ loads at_ n)).keep (k := 0) hJ6 (by simp [World.setRow]) fun b hb => setRow_other W4 _ b _ fun z => n86 (z ▸ hb), fun b hb => ?_⟩, S4.apart.os.trans S0.os, S4.apart.tape.trans S0.tape, S4.apart.output.trans S0.output, by simp [World.setRow]; omega, fun b hb hn' => ?_⟩
  · rcases hs' b ((hF' b).2 (.inl hb)) with (q | q | q) | q
    · exact hs5 b q
    · exact .inr (by omega)
    · exact .inr (by omega)
    · exact .inr (by omega)
  · rw [setRow_other W4 _ b _ (by omega), S4.apart.block b (by omega) ?_, S0.block b hb hn']
    rintro (q | q | q)
    · rcases hs5 b q with z | z
      · exact hn' z
      · omega
    · omega
    · omega
end Go.Proofs.Yteaaaekffnfmhaa

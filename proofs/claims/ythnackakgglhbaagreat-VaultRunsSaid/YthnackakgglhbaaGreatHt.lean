/- Contracts of hmac.Of, hmac.tail, hmac.run and State.Sum. -/
import Derived.Test.YthnackakgglhbaaGreatHq
import Derived.Great.BuildSlice
import Derived.Deep.MidRow
namespace Go.Proofs.YthnackakgglhbaaGreat
open Go.RowKit
set_option maxRecDepth 100000
set_option linter.unusedSimpArgs false
set_option linter.unusedVariables false
attribute [local go_sem] evR_tmp evR_const evR_global evR_func
/-- hmac.either over a reader that makes memory and changes none. -/
theorem either_pure {fc : FuncId} {fn : Func} {cap : Array Value} (hf : Tryz.prog.funcs[fc]? = some fn) (hn : (fn.name == "runtime.NumGoroutine") = false) (hb : fn.body.isNone = false)
    (n : Nat) (hn1 : n ≤ 1000000) (len : W32) (bs : Nat → W32) (sm : List W32) (hsm : sm.length = 8) (w : World) (bl : List Nat) (hl : ∀ b ∈ bl, b < w.heap.size)
    (hat : ∀ k W, k < n → (∀ b ∈ bl, b < W.heap.size ∧ W.heap[b]? = w.heap[b]?) → Calls Tryz.prog fc (#[.int .i64 (k : Int)] ++ cap) W fun e W' => e = .returned (.agg #[.int .u32 (iw (bs k))]) ∧ Below W.heap.size W W') :
    Calls Tryz.prog 69 #[.int .i64 (n : Int), .agg #[.int .u32 (iw len)], .func (.func fc) #[] cap, .agg (cw sm)] w fun e w' => e = .returned (.agg (cw (stateW (lowB (eitherL n len bs (bytesw sm)))))) ∧ Below w.heap.size w w' := by
  refine (either_c (J := Keeps w bl) (F0 := fun b => b ∈ bl) (Keeps.foot w bl) hf hn hb n hn1 len bs sm hsm (fun k W F hk hJ => ?_) w ⟨fun _ => Iff.rfl, fun b hb => ⟨hl b hb, rfl⟩⟩).mono ?_
  · refine (hat k W hk hJ.2).mono fun e W' h => ⟨h.1, ⟨⟨F, ⟨hJ.1, fun b hb => ⟨Nat.lt_of_lt_of_le (hJ.2 b hb).1 h.2.size, ?_⟩⟩, fun b hb => .inl hb⟩, Below.apart h.2⟩⟩
    rw [h.2.block b (hJ.2 b hb).1]
    exact (hJ.2 b hb).2
  · rintro e w' ⟨rfl, S⟩
    obtain ⟨F, hJ, _, _⟩ := S.ex
    refine ⟨rfl, S.apart.os, S.apart.tape, S.apart.output, S.apart.size, fun b hb => ?_⟩
    by_cases q : b ∈ bl
    · exact (hJ.2 b q).2
    · exact S.apart.block b hb q
theorem Of1_c (k n cap gb off g1 : Nat) (x : W32) (W : World) (hk : k < n) (hm : off + k < 4611686018427387904) (h1 : W.heap[g1]? = some (.cells #[.slice (some ⟨gb, off, none⟩) n cap] 76 (0, 0))) (hx : W.cell? ⟨gb, off + k, none⟩ = some (.int .u32 (iw x))) :
    Calls Tryz.prog 70 #[.int .i64 (k : Int), .pointer (some ⟨g1, 0, none⟩)] W fun e w' => e = .returned (.agg #[.int .u32 (iw x)]) ∧ Below W.heap.size W w' := by
  have lx : gb < W.heap.size := cell_lt' hx
  have lg := blk_lt h1
  go_enter Tryz.func70, Tryz.ntmps70
  have c1 := blk_cell h1 0
  have pk : (0 : Int) ≤ (k : Int) := by omega
  have bk : (k : Int) < (n : Int) := by omega
  go_wp2_with fail
  exact bodyPost_ret (v := .agg #[.int .u32 (iw x)]) (by simp [results, Tryz.results70, go_sem]) rfl ⟨rfl, by (repeat (first | exact Below.refl _ _ | (refine bl_alloc ?_ _) | (refine bl_drewN ?_ _) | (refine bl_drew ?_) | (refine bl_call (by assumption) ?_) | (refine bl_set _ _ (by simp <;> omega) ?_) | assumption))⟩
theorem SliceOf.form {w : World} {sv : Value} {xs : List W32} (h : SliceOf w sv xs) : ∃ ad cap, sv = .slice ad xs.length cap ∧ (0 < xs.length → ∃ gb off, ad = some ⟨gb, off, none⟩ ∧ off ≤ 1000000000 ∧ Row w gb off xs) := by
  rcases h with ⟨rfl, rfl⟩ | ⟨gb, off, cap, rfl, ho, hr⟩
  · exact ⟨none, 0, rfl, fun h => absurd h (Nat.lt_irrefl _)⟩
  · exact ⟨_, cap, rfl, fun _ => ⟨gb, off, rfl, ho, hr⟩⟩
theorem SliceOf.grow {w w' : World} {sv : Value} {xs : List W32} (h : SliceOf w sv xs) (hb : Below w.heap.size w w') : SliceOf w' sv xs := by
  rcases h with h | ⟨gb, off, cap, h1, ho, hr⟩
  · exact .inl h
  · exact .inr ⟨gb, off, cap, h1, ho, hr.grow hb⟩
set_option maxHeartbeats 2000000 in
theorem hOf_c (xs : List W32) (sv : Value) (w : World) (hn : xs.length ≤ 500000) (hs : SliceOf w sv xs) : Calls Tryz.prog 46 #[sv] w fun e w' => e = .returned (.agg (cw (stateW (keyB (lowB xs))))) ∧ Below w.heap.size w w' := by
  have hJoin := fun w1 hw1 => JoinS_c xs sv w1 (by omega) (hs.grow hw1)
  rw [joinw_low xs hn] at hJoin
  obtain ⟨ad, cap, rfl, hr⟩ := hs.form
  have hei := either_is (lowB xs) xs.length (fun i => at32 xs i) (by rw [lowB_length]; omega) (by omega) fun i hi => low_at xs i (by rw [lowB_length] at hi; exact hi)
  rw [lowB_length] at hei
  have LS := Lib.hid (stateW_length (keyB (lowB xs)))
  have hb32 : ((xs.length : Nat) : Int) < 4294967296 := by omega
  have bl0 : xs.length ≤ 1000000 := by omega
  go_enter Tryz.func46, Tryz.ntmps46
  go_upto_region 1 with (fail)
  refine gen_world fun W hW => ?_
  have k1 : W.heap[w.heap.size]? = some (.cells #[.slice ad xs.length cap] 76 (0, 0)) := by subst hW; (repeat (first | (with_reducible assumption) | ((with_reducible refine blk_new' ?_ _); (simp; done)) | ((with_reducible refine blk_alloc ?_ _)) | ((with_reducible refine blk_far ?_ ?_ _); (simp <;> omega))))
  have k2 : W.heap[w.heap.size + 1]? = some (.cells (Array.replicate 16 (.int .u32 0)) 83 (0, 0)) := by subst hW; exact blk_new' (by simp) _
  have HB : Below w.heap.size w W := by subst hW; (repeat (first | exact Below.refl _ _ | (refine bl_alloc ?_ _) | (refine bl_drewN ?_ _) | (refine bl_drew ?_) | (refine bl_call (by assumption) ?_) | (refine bl_set _ _ (by simp <;> omega) ?_) | assumption))
  clear hW
  have q1 := blk_lt k1
  replace hJoin : ∀ w1, Below W.heap.size W w1 → _ := fun w1 hw1 => hJoin w1 (bl_call hw1 HB)
  have H : ∀ w1, Below W.heap.size W w1 → Calls Tryz.prog 69 #[.int .i64 (xs.length : Int), .agg #[.int .u32 (iw (kw xs.length))], .func (.func 70) #[] #[.pointer (some ⟨w.heap.size, 0, none⟩)], .agg (cw (refSum (lowB xs)))] w1 fun e w' => e = .returned (.agg (cw (stateW (keyB (lowB xs))))) ∧ Below w1.heap.size w1 w' := fun w1 hw1 => by
    rw [← hei]
    by_cases hx : xs.length = 0
    · refine either_pure Tryz.func70 (by kernel_rfl) (by kernel_rfl) xs.length bl0 (kw xs.length) (fun i => at32 xs i) _ (refSum_length _) w1 [] (by simp) fun k W' hk _ => by omega
    · obtain ⟨gb, off, rfl, ho, hrow⟩ := hr (by omega)
      have hg : gb < w.heap.size := cell_lt' (hrow 0 (by omega))
      have hgW : gb < W.heap.size := Nat.lt_of_lt_of_le hg HB.size
      refine either_pure Tryz.func70 (by kernel_rfl) (by kernel_rfl) xs.length bl0 (kw xs.length) (fun i => at32 xs i) _ (refSum_length _) w1 [w.heap.size, gb] (by simp; have := hw1.size; omega) fun k W' hk hk' => ?_
      refine Of1_c k xs.length cap gb off w.heap.size (at32 xs k) W' hk (by omega) ?_ ?_
      · rw [(hk' w.heap.size (by simp)).2]; exact grow_blk hw1 k1
      · exact (((hrow.grow HB).grow hw1).block (hk' gb (by simp)).2) k hk
  replace hei := Lib.hid hei
  refine wp_region_R 10 [1] (by kernel_rfl) (by kernel_rfl) (by kernel_rfl) (by kernel_rfl) ?_
  intro K_ ops_ hops_ hK
  replace hops_ := Lib.hid hops_
  apply Exists.intro
  intro R_ hb_
  simp only [↓baseR, ↓nthR_succ, ↓nthR_zero] at hb_
  simp only [List.take_succ_cons, List.take_zero, List.drop_succ_cons, List.drop_zero]
  repeat (first
    
    
    | (apply LexR_callF (f := 68) (by rfl) (by rfl) (by rfl) Tryz.func68 (by kernel_rfl) (by kernel_rfl) (fun _ => ?_) (fun w1 hw1 hd1 => ?_) (fun _ hr_ => ?_); rotate_right 3; (go_simp; first | done | rfl); exact (Of_c _ (kw xs.length) (conv_kw _ (by omega)) w1)) | (apply LexR_callF (f := 71) (by rfl) (by rfl) (by rfl) Tryz.func71 (by kernel_rfl) (by kernel_rfl) (fun _ => ?_) (fun w1 hw1 hd1 => ?_) (fun _ hr_ => ?_); rotate_right 3; (go_simp; first | done | rfl); (with_reducible exact (hJoin w1 hw1))) | (apply LexR_callF (f := 69) (by rfl) (by rfl) (by rfl) Tryz.func69 (by kernel_rfl) (by kernel_rfl) (fun _ => ?_) (fun w1 hw1 hd1 => ?_) (fun _ hr_ => ?_); rotate_right 3; (go_simp; first | done | rfl); (with_reducible exact (H w1 hw1)))
    | (apply LexR_det (by rfl) (by rfl) (by rfl) (fun w1 hw1 hd1 => ?_) (fun _ hr_ => ?_); rotate_right 2; (go_simp; first | done | rfl | (rw [blk_cell (grow_blk hw1 k1)]; focus ((try simp); first | done | rfl))))
    | (apply LexR_box (by rfl) (by rfl) (by rfl) (fun w1 hw1 hd1 => ?_) (fun _ hr_ => ?_); rotate_right 2; (go_simp; first | done | rfl))
    | (apply LexR_bs (t := 76) (e := 80) (z := .agg #[.int .u32 0]) (ho := rfl) (by rfl) (by rfl) Tryz.underlying76 (by kernel_rfl) (by decide) (by decide) (fun _ => ?_) (fun _ => ?_) (fun _ => ?_) (fun _ hr_ => ?_); rotate_right 4; (go_simp; rfl); (exact ⟨rfl, rfl, rfl⟩); (simp only [List.map_cons, List.map_nil, List.flatMap_cons, List.flatMap_nil, Value.cells, List.cons_append, List.nil_append, List.append_nil]; rfl)))
  apply LexR_end
  refine hK _ _ ?_
  clear hK K_
  repeat clear hr_
  clear hb_ R_ hops_ ops_
  intro w1 hw1 hf1
  apply tailR (fun _ => ?_) (fun _ => ?_) ?_
  rotate_right 2
  · simp only [putAll, Act.put, List.setIfInBounds_toArray, List.set_cons_succ, List.set_cons_zero]; first | done | rfl
  · simp only [List.drop_succ_cons, List.drop_zero]; first | done | rfl
  simp [allFacts, contOf, Exp.putAt, Exp.fact, Exp.fresh, Exp.blk] at hf1
  clear hf1 H hJoin
  replace k2 := grow_blk hw1 k2
  replace HB : Below w.heap.size w w1 := bl_call hw1 HB
  clear hw1
  refine wpList_store_row rfl _ _ _ rfl (w.heap.size + 1) (cw (stateW (keyB (lowB xs)))) rfl rfl 83 _ k2 (by rw [cw_size, LS.out]; kernel_rfl) (by rw [cw_size, LS.out]; rfl) (cw_one _) ?_
  refine gen_list fun W2 hW => ?_
  replace k2 : W2.heap[w.heap.size + 1]? = some (.cells (cw (stateW (keyB (lowB xs)))) 83 (0, 0)) := by subst hW; exact setRow_blk k2 _
  replace HB : Below w.heap.size w W2 := by subst hW; exact bl_row _ _ (by omega) HB
  clear hW
  go_wp2
  exact bodyPost_ret (v := .agg (cw (stateW (keyB (lowB xs))))) (results_cell_row Tryz.results46 _ _ (w.heap.size + 1) 83 (cw (stateW (keyB (lowB xs)))) (0, 0) _ rfl k2 Tryz.underlying83 rfl (by rw [cw_size, LS.out]; kernel_rfl)) rfl ⟨rfl, HB⟩
theorem arr16 {α : Type} (X : Array α) (h : X.size = 16) : ∃ a b c d e f g i a' b' c' d' e' f' g' i', X = #[a, b, c, d, e, f, g, i, a', b', c', d', e', f', g', i'] := by
  obtain ⟨l⟩ := X
  match l, h with
  | [a, b, c, d, e, f, g, i, a', b', c', d', e', f', g', i'], _ => exact ⟨a, b, c, d, e, f, g, i, a', b', c', d', e', f', g', i', rfl⟩
theorem fill16 (A cs : Array Value) (hA : A.size = 16) (hc : cs.size = 16) : Instr.fill (fun i => some (i * 16, 16)) A [(0, .agg cs)] = some cs := by
  obtain ⟨a, b, c, d, e, f, g, i, a', b', c', d', e', f', g', i', rfl⟩ := arr16 A hA
  obtain ⟨x, y, z, t, u, v, p, q, x', y', z', t', u', v', p', q', rfl⟩ := arr16 cs hc
  kernel_rfl
section
variable {P : Program}
/-- A slice of one block of sixteen cells. -/
theorem wpList_bs_blk {ops : Array Oper} {rest : List Oper} {o : Oper} {a : Act} {w : World} {Q : Exit → Act → World → Prop} (hg : o.guard = none) (t e : TypeId) (x : Operand) (cs : Array Value) (ho : o.op = .buildSlice t 1 #[(0, x)])
    (hu : P.underlying t = some (.slice e)) (hinfo : (P.info? e).map (fun i => (i.zero.isSome, i.size)) = some (true, 16)) (hx : a.eval x = .agg cs) (hc : cs.size = 16)
    (h : wpList P ops Q rest (a.put o.dst (.slice (some ⟨w.heap.size, 0, none⟩) 1 1)) (w.alloc (.cells cs e))) : wpList P ops Q (o :: rest) a w := by
  cases hi : P.info? e with
  | none => simp [hi] at hinfo
  | some ie =>
    simp [hi] at hinfo
    obtain ⟨hz, hs⟩ := hinfo
    obtain ⟨z, hz⟩ := Option.isSome_iff_exists.1 hz
    have h1 := run_buildSlice (P := P) w t e 1 #[(0, .agg cs)] cs ie z hu hi hz (by rw [hs]; decide) (by rw [hs]; decide) (by rw [hs]; exact fill16 _ _ (by simp) hc)
    refine wpList_plain hg fun K hK => ?_
    have e1 : (execOp a.eval o).run P w = .ok (.value (.slice (some ⟨w.heap.size, 0, none⟩) 1 1)) (w.alloc (.cells cs e)) := by
      unfold execOp
      simp only [ho, List.map_toArray, List.map_cons, List.map_nil, hx, Sem.run_bind, h1, Result.andThen_ok]
      rfl
    unfold Oper.wp
    rw [e1, Oper.upon_value]
    exact hK _ _ h
/-- 'append' of one element that is a block of its own. -/
theorem wpList_app_blk {ops : Array Oper} {rest : List Oper} {o : Oper} {a : Act} {w : World} {Q : Exit → Act → World → Prop} (hgd : o.guard = none) (s x : Operand) (t : TypeId)
    (ho : o.op = .call { callee := .builtin .append, args := #[s, x], argTypes := #[t, t] }) (base : Nat) (e : TypeId) (z : Value) (size bytes : Nat) (ht : P.underlying t = some (.slice e))
    (hinfo : (P.info? e).map (fun i => (i.zero, i.size, i.bytes)) = some (some z, size, bytes)) (hz : z.cells.size = size) (hp : 0 < size) (hbb : bytes ≤ 1000)
    (sv : Value) (n : Nat) (vs : List Value) (hs : a.eval s = sv) (hown : w.ownsRow base e size sv n vs) (gx c : Nat) (ty : TypeId) (ys : Array Value) (hl : ys.size = size) (hx : a.eval x = .slice (some ⟨gx, 0, none⟩) 1 c) (hy : w.heap[gx]? = some (.cells ys ty (0, 0))) (h1 : ys.all (·.oneCell') = true)
    (hn : n ≤ 1000000) (hbase : base ≤ w.heap.size)
    (h : ∀ g cap w', w'.ownsRow base e size (.slice (some ⟨g, 0, none⟩) (n + 1) cap) (n + 1) (vs ++ ys.toList) → w.grownBy w' sv.ownBlock → (sv.ownBlock = some g ∨ g = w.heap.size) → g < w'.heap.size → wpList P ops Q rest (a.put o.dst (.slice (some ⟨g, 0, none⟩) (n + 1) cap)) w') : wpList P ops Q (o :: rest) a w := by
  obtain ⟨i, hi, hz0, hz1, hz2⟩ := info_parts hinfo
  refine wpList_append_lies w hgd s x t ho base e i z size bytes ht hi hz0 hz1 hz2 hz hp sv n vs hs hown ⟨gx, 0, none⟩ 1 c ys.toList hx (by rw [Array.length_toList, hl, Nat.one_mul]) (fun j u hj => ?_) (fun u hu => ?_) (by omega) (by simp only [maxLen]; omega) ?_ hbase w.heap.size rfl h
  · rw [Addr.add_lit, Nat.zero_add, blk_cell hy]
    simpa using hj
  · rw [Array.all_eq_true_iff_forall_mem] at h1
    exact h1 u (by simpa using hu)
  · have := Nat.mul_le_mul (show n + 1 ≤ 1000001 by omega) hbb
    omega
end
/-- What owns memory since 'base' and is n blocks. -/
def OwnBlk (w : World) (base : Nat) (sv : Value) (n : Nat) (cs : List Value) : Prop := w.ownsRow base 140 16 sv n cs
theorem OwnBlk.grow {w w' : World} {base n : Nat} {sv : Value} {cs : List Value} (h : OwnBlk w base sv n cs) (hb : Below w.heap.size w w') : OwnBlk w' base sv n cs := ownsRow_block h fun g hg => hb.block g (ownsRow_lt h hg).2
end Go.Proofs.YthnackakgglhbaaGreat

/- Contracts of sha.Join and its reader. -/
import Derived.Test.YthnackakgglhbaaGreatHa
namespace Go.Proofs.YthnackakgglhbaaGreat
open Go.RowKit
set_option maxRecDepth 100000
set_option linter.unusedSimpArgs false
set_option linter.unusedVariables false
attribute [local go_sem] evR_tmp evR_const evR_global evR_func
theorem cell_lt' {w : World} {a : Addr} {v : Value} (h : w.cell? a = some v) : a.block < w.heap.size := by
  apply Nat.lt_of_not_le
  intro q
  have : w.heap[a.block]? = none := Array.getElem?_eq_none q
  simp [World.cell?, this] at h
theorem Join1_c (k n cap gb off g1 : Nat) (x : W32) (W : World) (hk : k < n) (hm : off + k < 4611686018427387904) (h1 : W.heap[g1]? = some (.cells #[.slice (some ⟨gb, off, none⟩) n cap] 76 (0, 0))) (hx : W.cell? ⟨gb, off + k, none⟩ = some (.int .u32 (iw x))) :
    Calls Tryz.prog 91 #[.int .i64 (k : Int), .pointer (some ⟨g1, 0, none⟩)] W fun e w' => e = .returned (.agg #[.int .u32 (iw x)]) ∧ Below W.heap.size W w' := by
  have lx : gb < W.heap.size := cell_lt' hx
  have lg := blk_lt h1
  go_enter Tryz.func91, Tryz.ntmps91
  have c1 := blk_cell h1 0
  have pk : (0 : Int) ≤ (k : Int) := by omega
  have bk : (k : Int) < (n : Int) := by omega
  go_wp2_with fail
  exact bodyPost_ret (v := .agg #[.int .u32 (iw x)]) (by simp [results, Tryz.results91, go_sem]) rfl ⟨rfl, by (repeat (first | exact Below.refl _ _ | (refine bl_alloc ?_ _) | (refine bl_drewN ?_ _) | (refine bl_drew ?_) | (refine bl_call (by assumption) ?_) | (refine bl_set _ _ (by simp <;> omega) ?_) | assumption))⟩
/-- A reader that only reads: the blocks 'bl' as they were. -/
def Keeps (w0 : World) (bl : List Nat) (_ : Nat) (W : World) (F : Nat → Prop) : Prop := (∀ b, F b ↔ b ∈ bl) ∧ ∀ b ∈ bl, b < W.heap.size ∧ W.heap[b]? = w0.heap[b]?
theorem Keeps.foot (w0 : World) (bl : List Nat) : Foot (Keeps w0 bl) where
  lt := fun h b hb => (h.2 b ((h.1 b).1 hb)).1
  keep := fun h hs he => ⟨h.1, fun b hb => ⟨Nat.lt_of_lt_of_le (h.2 b hb).1 hs, (he b ((h.1 b).2 hb)).trans (h.2 b hb).2⟩⟩
/-- sha.hash over such a reader makes memory and changes none. -/
theorem hash_pure {fc : FuncId} {fn : Func} {cap : Array Value} (hf : Tryz.prog.funcs[fc]? = some fn) (hn : (fn.name == "runtime.NumGoroutine") = false) (hb : fn.body.isNone = false)
    (n : Nat) (hn1 : n ≤ 1000000) (len : W32) (bs : Nat → W32) (w : World) (bl : List Nat) (hl : ∀ b ∈ bl, b < w.heap.size)
    (hat : ∀ k W, k < n → (∀ b ∈ bl, b < W.heap.size ∧ W.heap[b]? = w.heap[b]?) → Calls Tryz.prog fc (#[.int .i64 (k : Int)] ++ cap) W fun e W' => e = .returned (.agg #[.int .u32 (iw (bs k))]) ∧ Below W.heap.size W W') :
    Calls Tryz.prog 90 #[.int .i64 (n : Int), .agg #[.int .u32 (iw len)], .func (.func fc) #[] cap] w fun e w' => e = .returned (.agg (cw (hashw n len bs))) ∧ Below w.heap.size w w' := by
  refine (hash_c (J := Keeps w bl) (F0 := fun b => b ∈ bl) (Keeps.foot w bl) hf hn hb n hn1 len bs (fun k W F hk hJ => ?_) w ⟨fun _ => Iff.rfl, fun b hb => ⟨hl b hb, rfl⟩⟩).mono ?_
  · refine (hat k W hk hJ.2).mono fun e W' h => ⟨h.1, ⟨⟨F, ⟨hJ.1, fun b hb => ⟨Nat.lt_of_lt_of_le (hJ.2 b hb).1 h.2.size, ?_⟩⟩, fun b hb => .inl hb⟩, Below.apart h.2⟩⟩
    rw [h.2.block b (hJ.2 b hb).1]
    exact (hJ.2 b hb).2
  · rintro e w' ⟨rfl, S⟩
    obtain ⟨F, hJ, _, _⟩ := S.ex
    refine ⟨rfl, S.apart.os, S.apart.tape, S.apart.output, S.apart.size, fun b hb => ?_⟩
    by_cases q : b ∈ bl
    · exact (hJ.2 b q).2
    · exact S.apart.block b hb q
/-- What stands in a row of words. -/
def Row (w : World) (gb off : Nat) (xs : List W32) : Prop := ∀ k, k < xs.length → w.cell? ⟨gb, off + k, none⟩ = some (.int .u32 (iw (at32 xs k)))
theorem cell_of_block {w w' : World} {b o : Nat} (h : w'.heap[b]? = w.heap[b]?) : w'.cell? ⟨b, o, none⟩ = w.cell? ⟨b, o, none⟩ := World.cell?_of_block (a := ⟨b, o, none⟩) h
theorem Row.grow {w w' : World} {gb off : Nat} {xs : List W32} (h : Row w gb off xs) (hb : Below w.heap.size w w') : Row w' gb off xs := fun k hk => by
  rw [hb.cell (p := ⟨gb, off + k, none⟩) (cell_lt' (h k hk))]; exact h k hk
theorem Row.block {w w' : World} {gb off : Nat} {xs : List W32} (h : Row w gb off xs) (hb : w'.heap[gb]? = w.heap[gb]?) : Row w' gb off xs := fun k hk => by
  rw [cell_of_block hb]; exact h k hk
/-- Of a row of words. -/
def joinw (xs : List W32) : List W32 := hashw xs.length (kw xs.length) (fun i => at32 xs i)
theorem hashw_length (n : Nat) (len : W32) (bs : Nat → W32) : (hashw n len bs).length = 8 := (hashAt_length n len bs _).2
theorem joinw_length (xs : List W32) : (joinw xs).length = 8 := hashw_length _ _ _
theorem Join_c (xs : List W32) (gb off cap : Nat) (w : World) (hn : xs.length ≤ 1000000) (ho : off ≤ 1000000000) (hr : Row w gb off xs) :
    Calls Tryz.prog 71 #[.slice (some ⟨gb, off, none⟩) xs.length cap] w fun e w' => e = .returned (.agg (cw (joinw xs))) ∧ Below w.heap.size w w' := by
  go_enter Tryz.func71, Tryz.ntmps71
  go_upto_region 1 with (fail)
  refine gen_world fun W hW => ?_
  have k1 : W.heap[w.heap.size]? = some (.cells #[.slice (some ⟨gb, off, none⟩) xs.length cap] 76 (0, 0)) := by subst hW; (repeat (first | (with_reducible assumption) | ((with_reducible refine blk_new' ?_ _); (simp; done)) | ((with_reducible refine blk_alloc ?_ _)) | ((with_reducible refine blk_far ?_ ?_ _); (simp <;> omega))))
  have k2 : W.heap[w.heap.size + 1]? = some (.cells (Array.replicate 8 (.int .u32 0)) 81 (0, 0)) := by subst hW; exact blk_new' (by simp) _
  have HB : Below w.heap.size w W := by subst hW; (repeat (first | exact Below.refl _ _ | (refine bl_alloc ?_ _) | (refine bl_drewN ?_ _) | (refine bl_drew ?_) | (refine bl_call (by assumption) ?_) | (refine bl_set _ _ (by simp <;> omega) ?_) | assumption))
  clear hW
  replace hr := hr.grow HB
  have q1 := blk_lt k1
  have hb32 : ((xs.length : Nat) : Int) < 4294967296 := by omega
  have H : ∀ w1, Below W.heap.size W w1 → Calls Tryz.prog 90 #[.int .i64 (xs.length : Int), .agg #[.int .u32 (iw (kw xs.length))], .func (.func 91) #[] #[.pointer (some ⟨w.heap.size, 0, none⟩)]] w1 fun e w' => e = .returned (.agg (cw (joinw xs))) ∧ Below w1.heap.size w1 w' := fun w1 hw1 => by
    by_cases hx : xs.length = 0
    · refine hash_pure Tryz.func91 (by kernel_rfl) (by kernel_rfl) xs.length hn (kw xs.length) (fun i => at32 xs i) w1 [] (by simp) fun k W' hk _ => by omega
    · have hg : gb < W.heap.size := cell_lt' (hr 0 (by omega))
      refine hash_pure Tryz.func91 (by kernel_rfl) (by kernel_rfl) xs.length hn (kw xs.length) (fun i => at32 xs i) w1 [w.heap.size, gb] (by simp; have := hw1.size; omega) fun k W' hk hk' => ?_
      refine Join1_c k xs.length cap gb off w.heap.size (at32 xs k) W' hk (by omega) ?_ ?_
      · rw [(hk' w.heap.size (by simp)).2]; exact grow_blk hw1 k1
      · exact ((hr.grow hw1).block (hk' gb (by simp)).2) k hk
  refine wp_region_R 8 [1] (by kernel_rfl) (by kernel_rfl) (by kernel_rfl) (by kernel_rfl) ?_
  intro K_ ops_ hops_ hK
  replace hops_ := Lib.hid hops_
  apply Exists.intro
  intro R_ hb_
  simp only [↓baseR, ↓nthR_succ, ↓nthR_zero] at hb_
  simp only [List.take_succ_cons, List.take_zero, List.drop_succ_cons, List.drop_zero]
  repeat (first
    
    
    | (apply LexR_callF (f := 68) (by rfl) (by rfl) (by rfl) Tryz.func68 (by kernel_rfl) (by kernel_rfl) (fun _ => ?_) (fun w1 hw1 hd1 => ?_) (fun _ hr_ => ?_); rotate_right 3; (go_simp; first | done | rfl); exact (Of_c _ (kw xs.length) (conv_kw _ (by omega)) w1)) | (apply LexR_callF (f := 90) (by rfl) (by rfl) (by rfl) Tryz.func90 (by kernel_rfl) (by kernel_rfl) (fun _ => ?_) (fun w1 hw1 hd1 => ?_) (fun _ hr_ => ?_); rotate_right 3; (go_simp; first | done | rfl); exact (H w1 hw1))
    | (apply LexR_det (by rfl) (by rfl) (by rfl) (fun w1 hw1 hd1 => ?_) (fun _ hr_ => ?_); rotate_right 2; (go_simp; first | done | rfl | (rw [blk_cell (grow_blk hw1 k1)]; focus ((try simp); first | done | rfl))))
    | (apply LexR_box (by rfl) (by rfl) (by rfl) (fun w1 hw1 hd1 => ?_) (fun _ hr_ => ?_); rotate_right 2; (go_simp; first | done | rfl))
    | (apply LexR_bs (t := 76) (e := 80) (z := .agg #[.int .u32 0]) (ho := rfl) (by rfl) (by rfl) Tryz.underlying76 (by kernel_rfl) (by decide) (by decide) (fun _ => ?_) (fun _ => ?_) (fun _ => ?_) (fun _ hr_ => ?_); rotate_right 4; (go_simp; rfl); (exact ⟨rfl, rfl, rfl⟩); (simp only [List.map_cons, List.map_nil, List.flatMap_cons, List.flatMap_nil, Value.cells, List.cons_append, List.nil_append, List.append_nil]; rfl)))
  apply LexR_end
  refine hK _ _ ?_
  clear hK K_
  repeat clear hr_
  clear hb_ R_ hops_ ops_
  intro w1 hw1 hf1
  apply tailR (fun _ => ?_) (fun _ => ?_) ?_
  rotate_right 2
  · simp only [putAll, Act.put, List.setIfInBounds_toArray, List.set_cons_succ, List.set_cons_zero]; first | done | rfl
  · simp only [List.drop_succ_cons, List.drop_zero]; first | done | rfl
  simp [allFacts, contOf, Exp.putAt, Exp.fact, Exp.fresh, Exp.blk] at hf1
  clear hf1 H
  replace k2 := grow_blk hw1 k2
  replace HB : Below w.heap.size w w1 := bl_call hw1 HB
  clear hw1
  refine wpList_store_row rfl _ _ _ rfl (w.heap.size + 1) (cw (joinw xs)) rfl rfl 81 _ k2 (by rw [cw_size, joinw_length xs]; kernel_rfl) (by rw [cw_size, joinw_length xs]; rfl) (cw_one _) ?_
  refine gen_list fun W2 hW => ?_
  replace k2 : W2.heap[w.heap.size + 1]? = some (.cells (cw (joinw xs)) 81 (0, 0)) := by subst hW; exact setRow_blk k2 _
  replace HB : Below w.heap.size w W2 := by subst hW; exact bl_row _ _ (by omega) HB
  clear hW
  go_wp2
  exact bodyPost_ret (v := .agg (cw (joinw xs))) (results_cell_row Tryz.results71 _ _ (w.heap.size + 1) 81 (cw (joinw xs)) (0, 0) _ rfl k2 Tryz.underlying81 rfl (by rw [cw_size, joinw_length]; kernel_rfl)) rfl ⟨rfl, HB⟩
theorem Join_nil_c (w : World) : Calls Tryz.prog 71 #[.slice none 0 0] w fun e w' => e = .returned (.agg (cw (joinw []))) ∧ Below w.heap.size w w' := by
  go_enter Tryz.func71, Tryz.ntmps71
  go_upto_region 1 with (fail)
  refine gen_world fun W hW => ?_
  have k1 : W.heap[w.heap.size]? = some (.cells #[.slice none 0 0] 76 (0, 0)) := by subst hW; (repeat (first | (with_reducible assumption) | ((with_reducible refine blk_new' ?_ _); (simp; done)) | ((with_reducible refine blk_alloc ?_ _)) | ((with_reducible refine blk_far ?_ ?_ _); (simp <;> omega))))
  have k2 : W.heap[w.heap.size + 1]? = some (.cells (Array.replicate 8 (.int .u32 0)) 81 (0, 0)) := by subst hW; exact blk_new' (by simp) _
  have HB : Below w.heap.size w W := by subst hW; (repeat (first | exact Below.refl _ _ | (refine bl_alloc ?_ _) | (refine bl_drewN ?_ _) | (refine bl_drew ?_) | (refine bl_call (by assumption) ?_) | (refine bl_set _ _ (by simp <;> omega) ?_) | assumption))
  clear hW
  have H : ∀ w1, Below W.heap.size W w1 → Calls Tryz.prog 90 #[.int .i64 0, .agg #[.int .u32 (iw (kw 0))], .func (.func 91) #[] #[.pointer (some ⟨w.heap.size, 0, none⟩)]] w1 fun e w' => e = .returned (.agg (cw (joinw []))) ∧ Below w1.heap.size w1 w' := fun w1 hw1 =>
    hash_pure Tryz.func91 (by kernel_rfl) (by kernel_rfl) 0 (by omega) (kw 0) (fun i => at32 [] i) w1 [] (by simp) fun k W' hk _ => by omega
  refine wp_region_R 8 [1] (by kernel_rfl) (by kernel_rfl) (by kernel_rfl) (by kernel_rfl) ?_
  intro K_ ops_ hops_ hK
  replace hops_ := Lib.hid hops_
  apply Exists.intro
  intro R_ hb_
  simp only [↓baseR, ↓nthR_succ, ↓nthR_zero] at hb_
  simp only [List.take_succ_cons, List.take_zero, List.drop_succ_cons, List.drop_zero]
  repeat (first
    
    
    | (apply LexR_callF (f := 68) (by rfl) (by rfl) (by rfl) Tryz.func68 (by kernel_rfl) (by kernel_rfl) (fun _ => ?_) (fun w1 hw1 hd1 => ?_) (fun _ hr_ => ?_); rotate_right 3; (go_simp; first | done | rfl); exact (Of_c _ (kw 0) (by first | rfl | decide) w1)) | (apply LexR_callF (f := 90) (by rfl) (by rfl) (by rfl) Tryz.func90 (by kernel_rfl) (by kernel_rfl) (fun _ => ?_) (fun w1 hw1 hd1 => ?_) (fun _ hr_ => ?_); rotate_right 3; (go_simp; first | done | rfl); exact (H w1 hw1))
    | (apply LexR_det (by rfl) (by rfl) (by rfl) (fun w1 hw1 hd1 => ?_) (fun _ hr_ => ?_); rotate_right 2; (go_simp; first | done | rfl | (rw [blk_cell (grow_blk hw1 k1)]; focus ((try simp); first | done | rfl))))
    | (apply LexR_box (by rfl) (by rfl) (by rfl) (fun w1 hw1 hd1 => ?_) (fun _ hr_ => ?_); rotate_right 2; (go_simp; first | done | rfl))
    | (apply LexR_bs (t := 76) (e := 80) (z := .agg #[.int .u32 0]) (ho := rfl) (by rfl) (by rfl) Tryz.underlying76 (by kernel_rfl) (by decide) (by decide) (fun _ => ?_) (fun _ => ?_) (fun _ => ?_) (fun _ hr_ => ?_); rotate_right 4; (go_simp; rfl); (exact ⟨rfl, rfl, rfl⟩); (simp only [List.map_cons, List.map_nil, List.flatMap_cons, List.flatMap_nil, Value.cells, List.cons_append, List.nil_append, List.append_nil]; rfl)))
  apply LexR_end
  refine hK _ _ ?_
  clear hK K_
  repeat clear hr_
  clear hb_ R_ hops_ ops_
  intro w1 hw1 hf1
  apply tailR (fun _ => ?_) (fun _ => ?_) ?_
  rotate_right 2
  · simp only [putAll, Act.put, List.setIfInBounds_toArray, List.set_cons_succ, List.set_cons_zero]; first | done | rfl
  · simp only [List.drop_succ_cons, List.drop_zero]; first | done | rfl
  simp [allFacts, contOf, Exp.putAt, Exp.fact, Exp.fresh, Exp.blk] at hf1
  clear hf1 H
  replace k2 := grow_blk hw1 k2
  replace HB : Below w.heap.size w w1 := bl_call hw1 HB
  clear hw1
  refine wpList_store_row rfl _ _ _ rfl (w.heap.size + 1) (cw (joinw [])) rfl rfl 81 _ k2 (by rw [cw_size, joinw_length []]; kernel_rfl) (by rw [cw_size, joinw_length []]; rfl) (cw_one _) ?_
  refine gen_list fun W2 hW => ?_
  replace k2 : W2.heap[w.heap.size + 1]? = some (.cells (cw (joinw [])) 81 (0, 0)) := by subst hW; exact setRow_blk k2 _
  replace HB : Below w.heap.size w W2 := by subst hW; exact bl_row _ _ (by omega) HB
  clear hW
  go_wp2
  exact bodyPost_ret (v := .agg (cw (joinw []))) (results_cell_row Tryz.results71 _ _ (w.heap.size + 1) 81 (cw (joinw [])) (0, 0) _ rfl k2 Tryz.underlying81 rfl (by rw [cw_size, joinw_length]; kernel_rfl)) rfl ⟨rfl, HB⟩
/-- A slice of these words. -/
def SliceOf (w : World) (sv : Value) (xs : List W32) : Prop := (xs = [] ∧ sv = .slice none 0 0) ∨ ∃ gb off cap, sv = .slice (some ⟨gb, off, none⟩) xs.length cap ∧ off ≤ 1000000000 ∧ Row w gb off xs
theorem JoinS_c (xs : List W32) (sv : Value) (w : World) (hn : xs.length ≤ 1000000) (hs : SliceOf w sv xs) : Calls Tryz.prog 71 #[sv] w fun e w' => e = .returned (.agg (cw (joinw xs))) ∧ Below w.heap.size w w' := by
  rcases hs with ⟨rfl, rfl⟩ | ⟨gb, off, cap, rfl, ho, hr⟩
  · exact Join_nil_c w
  · exact Join_c xs gb off cap w hn ho hr
end Go.Proofs.YthnackakgglhbaaGreat

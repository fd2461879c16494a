/- Contract of sabretacheref16.Padded. -/
import Derived.Test.YthnackakgglhbaaGreatSm
import Derived.Laws.OwnMore
namespace Go.Proofs.YthnackakgglhbaaGreat
open Go.RowKit
set_option maxRecDepth 100000
set_option linter.unusedSimpArgs false
set_option linter.unusedVariables false
attribute [local go_sem] evR_tmp evR_const evR_global evR_func
/-- A byte's cell. -/
def bv (b : UInt8) : Value := .int .u8 (b.toNat : Int)
/-- A slice of these bytes. -/
def RowB (w : World) (sv : Value) (bs : List UInt8) : Prop := ∃ ao cap, sv = .slice ao bs.length cap ∧ (ao = none → bs = [] ∧ cap = 0) ∧ ∀ k (h : k < bs.length), ∃ g off, ao = some ⟨g, off, none⟩ ∧ w.cell? ⟨g, off + k, none⟩ = some (bv bs[k])
theorem RowB.nil (w : World) : RowB w (.slice none 0 0) [] := ⟨none, 0, rfl, fun _ => ⟨rfl, rfl⟩, fun k h => by simp at h⟩
theorem RowB.of {w : World} {g off cap : Nat} {bs : List UInt8} (h : ∀ k (h : k < bs.length), w.cell? ⟨g, off + k, none⟩ = some (bv bs[k])) : RowB w (.slice (some ⟨g, off, none⟩) bs.length cap) bs := ⟨_, cap, rfl, fun q => by simp at q, fun k hk => ⟨g, off, rfl, h k hk⟩⟩
/-- A slice's length. -/
def slen : Value → Nat
  | .slice _ n _ => n
  | _ => 0
/-- How many blocks but one a text of m bytes has. -/
def lastAt (m : Nat) : Nat := (m + 8) / 64
def lenBytes (m j : Nat) : List UInt8 := (List.range j).map fun i => UInt8.ofNat (m * 8 / 2 ^ (56 - 8 * i))
def padB (bs : List UInt8) (n : Nat) : List UInt8 := bs ++ [128] ++ List.replicate (n - (bs.length + 1)) 0
def padded (bs : List UInt8) : List UInt8 := padB bs (64 * lastAt bs.length + 56) ++ lenBytes bs.length 8
theorem RowB.grow {w w' : World} {sv : Value} {bs : List UInt8} (h : RowB w sv bs) (hb : Below w.heap.size w w') : RowB w' sv bs := by
  obtain ⟨ao, cap, h1, h2, h3⟩ := h
  refine ⟨ao, cap, h1, h2, fun k hk => ?_⟩
  obtain ⟨g, off, e, hc⟩ := h3 k hk
  exact ⟨g, off, e, by rw [hb.cell (p := ⟨g, off + k, none⟩) (cell_lt' hc)]; exact hc⟩
theorem lenBytes_length (m j : Nat) : (lenBytes m j).length = j := by simp [lenBytes]
theorem lenBytes_snoc (m j : Nat) : lenBytes m (j + 1) = lenBytes m j ++ [UInt8.ofNat (m * 8 / 2 ^ (56 - 8 * j))] := by simp [lenBytes, List.range_succ]
theorem lenb_val (m j : Nat) : #[Value.int .u8 ((m : Int) * 8 / 2 ^ (56 - 8 * j) % 256)][0]? = some (bv (UInt8.ofNat (m * 8 / 2 ^ (56 - 8 * j)))) := by
  show some (Value.int .u8 ((m : Int) * 8 / 2 ^ (56 - 8 * j) % 256)) = some (Value.int .u8 (((UInt8.ofNat (m * 8 / 2 ^ (56 - 8 * j))).toNat : Nat) : Int))
  rw [UInt8.toNat_ofNat']
  congr 2
theorem padB_length (bs : List UInt8) (n : Nat) (h : bs.length + 1 ≤ n) : (padB bs n).length = n := by simp [padB]; omega
theorem padB_start (bs : List UInt8) : padB bs (bs.length + 1) = bs ++ [128] := by simp [padB]
theorem padB_snoc (bs : List UInt8) (n : Nat) (h : bs.length + 1 ≤ n) : padB bs (n + 1) = padB bs n ++ [0] := by
  unfold padB
  rw [show n + 1 - (bs.length + 1) = (n - (bs.length + 1)) + 1 by omega, List.replicate_succ']
  simp
theorem empty_owns (w : World) (base : Nat) (e : TypeId) (hb : base ≤ w.heap.size) : (w.alloc (.cells #[] e)).ownsRow base e 1 (.slice (some ⟨w.heap.size, 0, none⟩) 0 0) 0 [] :=
  ⟨rfl, .inr ⟨w.heap.size, 0, #[], rfl, hb, heap_alloc_new w _, by omega, by simp [maxLen], rfl, rfl⟩⟩
theorem bv_cells (w : World) (g off : Nat) (bs : List UInt8) (hr : ∀ k (h : k < bs.length), w.cell? ⟨g, off + k, none⟩ = some (bv bs[k])) : ∀ j u, (bs.map bv)[j]? = some u → w.cell? ((⟨g, off, none⟩ : Addr).add j) = some u := fun j u hj => by
  have hl : j < bs.length := by
    have := (List.getElem?_eq_some_iff.1 hj).1
    simpa using this
  rw [List.getElem?_map, List.getElem?_eq_getElem hl] at hj
  have e : bv bs[j] = u := by simpa using hj
  rw [← e, Addr.add_lit]
  exact hr j hl
theorem run_append_zero {P : Program} {w : World} (base : Nat) (t ty e : TypeId) (i : TypeInfo) (size : Nat) (ht : P.underlying t = some (.slice e)) (hi : P.info? e = some i) (v : Value) (n : Nat) (xs : List Value) (hown : w.ownsRow base e size v n xs) (ad : Addr) (c : Nat) :
    (Builtin.append_ #[t, t] ty #[v, .slice (some ad) 0 c]).run P w = .ok v w := by
  rcases hown.2 with ⟨rfl, rfl⟩ | ⟨g, cap, cur, rfl, _, _, hnc, _⟩
  · simp [Builtin.append_, run_underlying ht, sizeOf, typeInfo, hi, Builtin.lenOf, Builtin.firstCells, loadCells, loadCellsFrom, storeCells]
  · simp [Builtin.append_, run_underlying ht, sizeOf, typeInfo, hi, Builtin.lenOf, Builtin.firstCells, hnc, storeCells, loadCells, loadCellsFrom]
theorem wpList_app_rowB {ops : Array Oper} {rest : List Oper} {o : Oper} {a : Act} {w : World} {Q : Exit → Act → World → Prop} (hgd : o.guard = none) (s x : Operand)
    (ho : o.op = .call { callee := .builtin .append, args := #[s, x], argTypes := #[36, 36] }) (base : Nat) (sv0 sv : Value) (n : Nat) (vs : List Value) (bs : List UInt8)
    (hs : a.eval s = sv0) (hown : w.ownsRow base 5 1 sv0 n vs) (hx : a.eval x = sv) (hr : RowB w sv bs) (hn : n + bs.length ≤ 1000000) (hbase : base ≤ w.heap.size)
    (h : ∀ sv' w', w'.ownsRow base 5 1 sv' (n + bs.length) (vs ++ bs.map bv) → w.grownBy w' sv0.ownBlock → (∀ g, sv'.ownBlock = some g → sv0.ownBlock = some g ∨ w.heap.size ≤ g) → wpList Tryz.prog ops Q rest (a.put o.dst sv') w') : wpList Tryz.prog ops Q (o :: rest) a w := by
  obtain ⟨i, hi, hz0, hz1, hz2⟩ := info_parts (P := Tryz.prog) (e := 5) (z := .int .u8 0) (size := 1) (bytes := 1) (by kernel_rfl)
  have same : bs = [] → ∀ (hrun : (Builtin.append_ #[36, 36] o.type #[sv0, sv]).run Tryz.prog w = .ok sv0 w), wpList Tryz.prog ops Q (o :: rest) a w := fun hb hrun => by
    subst hb
    refine wpList_plain hgd fun K hK' => ?_
    unfold Oper.wp
    simp [execOp, ho, resolve, invoke, builtin, hs, hx, hrun, Result.andThen]
    exact hK' _ _ (h sv0 w (by simpa using hown) (World.grownBy.refl w _) fun g hg => .inl hg)
  obtain ⟨ao, cap, rfl, hno, hcc⟩ := hr
  rcases ao with _ | ad
  · obtain ⟨hb, rfl⟩ := hno rfl
    subst hb
    exact same rfl (run_append_owned_none w base _ _ 5 i 1 Tryz.underlying36 hi sv0 n vs hown)
  · by_cases hb : bs = []
    · refine same hb ?_
      subst hb
      exact run_append_zero base _ _ 5 i 1 Tryz.underlying36 hi sv0 n vs hown _ _
    · have hpos : 0 < bs.length := List.length_pos_iff.2 hb
      obtain ⟨g, off, hgo, _⟩ := hcc 0 hpos
      have hc : ∀ k (h : k < bs.length), w.cell? ⟨g, off + k, none⟩ = some (bv bs[k]) := fun k hk => by
        obtain ⟨g', off', hgo', hc'⟩ := hcc k hk
        rw [hgo] at hgo'
        cases hgo'
        exact hc'
      cases hgo
      refine wpList_append_lies w hgd s x 36 ho base 5 i _ 1 1 Tryz.underlying36 hi hz0 hz1 hz2 rfl (by omega) sv0 n vs hs hown ⟨g, off, none⟩ bs.length cap (bs.map bv) hx (by simp) (bv_cells w g off bs hc) (fun u hu => by obtain ⟨b, _, rfl⟩ := List.mem_map.1 hu; rfl) hpos (by simp only [maxLen]; omega) (by omega) hbase w.heap.size rfl ?_
      intro g2 cap2 w' h1 h2 h3 _
      refine h _ w' h1 h2 fun g3 hg3 => ?_
      have e : g2 = g3 := by simpa [Value.ownBlock] using hg3
      rcases h3 with q | q
      · exact .inl (by rw [q, e])
      · exact .inr (by omega)
set_option maxHeartbeats 4000000 in
theorem Padded_c (bs : List UInt8) (sv : Value) (w : World) (hn : bs.length ≤ 500000) (hs : RowB w sv bs) : Calls Tryz.prog 51 #[sv] w fun e w' => ∃ sv', e = .returned sv' ∧ w'.ownsRow w.heap.size 5 1 sv' (padded bs).length ((padded bs).map bv) ∧ Below w.heap.size w w' := by
  obtain ⟨a0, c0, rfl⟩ : ∃ a c, sv = .slice a bs.length c := by
    obtain ⟨ao, cap, h, _⟩ := hs
    exact ⟨ao, cap, h⟩
  go_enter Tryz.func51, Tryz.ntmps51
  go_upto_region 2 with (first | (refine wpList_app_rowB rfl _ _ rfl w.heap.size (.slice (some ⟨w.heap.size, 0, none⟩) 0 0) (.slice a0 bs.length c0) 0 [] bs rfl (empty_owns w _ _ (Nat.le_refl _)) rfl (hs.grow (bl_alloc (Below.refl _ _) _)) (by omega) (by simp) ?_; intro sv3 w3 hO3 hg3 _))
  have HB : Below w.heap.size w w3 := (bl_alloc (Below.refl _ _) _ : Below w.heap.size w (w.alloc _)).grown hg3 (by simp) (by simp [Value.ownBlock])
  replace hO3 : w3.ownsRow w.heap.size 5 1 sv3 bs.length (bs.map bv) := by simpa using hO3
  clear hg3
  go_upto_region 3 with (first | (refine wpList_app1 rfl _ _ 36 rfl w.heap.size 5 (.int .u8 0) 1 Tryz.underlying36 (by kernel_rfl) rfl (by decide) sv3 bs.length _ rfl (ownsRow_block hO3 fun g hg => heap_alloc_old w3 _ (ownsRow_lt hO3 hg).2) w3.heap.size 1 (.int .u8 128) rfl (blk_cell (blk_new w3 _) 0) rfl (by omega) (by have := HB.size; simp; omega) ?_; intro g4 cap4 w4 hO4 hg4 hsv4 hlt4))
  replace HB : Below w.heap.size w w4 := grown_below (bl_alloc HB _) hg4 (by have := HB.size; simp; omega) fun g hg' => (ownsRow_lt hO3 hg').1
  replace hO4 : w4.ownsRow w.heap.size 5 1 (.slice (some ⟨g4, 0, none⟩) (bs.length + 1) cap4) (bs.length + 1) ((padB bs (bs.length + 1)).map bv) := by rw [padB_start, List.map_append]; exact hO4
  clear hO3 hg4 hsv4 hlt4
  have hT : bs.length + 1 ≤ 64 * lastAt bs.length + 56 := by unfold lastAt; omega
  have hT2 : 64 * lastAt bs.length ≤ bs.length + 8 := by unfold lastAt; omega
  obtain ⟨e, he⟩ : ∃ e, e = lastAt bs.length := ⟨_, rfl⟩
  rw [← he] at hT hT2
  replace he := Lib.hid he
  have HB0 := HB
  have hO0 := hO4
  clear HB hO4
  go_loopw [3] (fun sv wr => ∃ n g cap : Nat, sv = .slice (some ⟨g, 0, none⟩) n cap ∧ bs.length + 1 ≤ n ∧ n ≤ 64 * e + 56 ∧ Below w.heap.size w wr ∧ wr.ownsRow w.heap.size 5 1 (.slice (some ⟨g, 0, none⟩) n cap) n ((padB bs n).map bv)) (fun sv _ => 64 * e + 56 - slen sv)
  case atStart => exact ⟨bs.length + 1, g4, cap4, rfl, by omega, by omega, HB0, hO0⟩
  case round =>
    clear HB0 hO0
    obtain ⟨n, g, cap, rfl, hn1, hn2, HB, hO⟩ := hrel
    have pn : (0 : Int) ≤ (n : Int) := by omega
    by_cases hlt : n < 64 * e + 56
    · have hr : ¬ (n : Int) % 64 = 56 := by omega
      go_wp2_with (first | (refine wpList_app1 rfl _ _ 36 rfl w.heap.size 5 (.int .u8 0) 1 Tryz.underlying36 (by kernel_rfl) rfl (by decide) (.slice (some ⟨g, 0, none⟩) n cap) n _ rfl (ownsRow_block hO fun g hg => heap_alloc_old wr _ (ownsRow_lt hO hg).2) wr.heap.size 1 (.int .u8 0) rfl (blk_cell (blk_new wr _) 0) rfl (by omega) (by have := HB.size; simp; omega) ?_; intro g5 cap5 w5 hO5 hg5 hsv5 hlt5))
      go_roundw
      case measure => simp [slen] <;> omega
      refine ⟨n + 1, g5, cap5, rfl, by omega, by omega, grown_below (bl_alloc HB _) hg5 (by have := HB.size; simp; omega) fun g hg' => (ownsRow_lt hO hg').1, ?_⟩
      rw [padB_snoc bs n hn1, List.map_append]
      exact hO5
    · obtain rfl : n = 64 * e + 56 := by omega
      have hr : ((64 * e + 56 : Nat) : Int) % 64 = 56 := by omega
      have LBs : 8 * (bs.length : Int) < 18446744073709551616 := by omega
      have HB0 := HB
      have hO0 : wr.ownsRow w.heap.size 5 1 (.slice (some ⟨g, 0, none⟩) (64 * e + 56) cap) (64 * e + 56) ((padB bs (64 * e + 56) ++ lenBytes bs.length 0).map bv) := by simpa [lenBytes] using hO
      clear HB hO
      go_upto_region 6 with (fail)
      go_wp2_with fail
      go_loopw [5, 3] (fun i sv wr => ∃ j g cap : Nat, j ≤ 8 ∧ i = .int .i64 (j : Int) ∧ sv = .slice (some ⟨g, 0, none⟩) (64 * e + 56 + j) cap ∧ Below w.heap.size w wr ∧ wr.ownsRow w.heap.size 5 1 (.slice (some ⟨g, 0, none⟩) (64 * e + 56 + j) cap) (64 * e + 56 + j) ((padB bs (64 * e + 56) ++ lenBytes bs.length j).map bv)) (fun i _ _ => 8 - (intOf i).toNat)
      case atStart => exact ⟨0, g, cap, by omega, rfl, rfl, HB0, hO0⟩
      case round =>
        clear HB0 hO0
        obtain ⟨j, g, cap, hj, rfl, rfl, HB, hO⟩ := hrel
        have pj : (0 : Int) ≤ (j : Int) := by omega
        by_cases hlj : j < 8
        · have hlj' : (j : Int) < 8 := by omega
          have hsh : ¬ (56 - 8 * (j : Int) < 0) := by omega
          go_wp2_with (first | (refine wpList_app1 rfl _ _ 36 rfl w.heap.size 5 (.int .u8 0) 1 Tryz.underlying36 (by kernel_rfl) rfl (by decide) (.slice (some ⟨g, 0, none⟩) (64 * e + 56 + j) cap) (64 * e + 56 + j) _ rfl (ownsRow_block hO fun g hg => heap_alloc_old wr _ (ownsRow_lt hO hg).2) wr.heap.size 1 (bv (UInt8.ofNat (bs.length * 8 / 2 ^ (56 - 8 * j)))) rfl ((blk_cell (blk_new wr _) 0).trans (lenb_val bs.length j)) rfl (by omega) (by have := HB.size; simp; omega) ?_; intro g5 cap5 w5 hO5 hg5 hsv5 hlt5))
          refine ⟨⟨j + 1, by omega, by omega, g5, cap5, ⟨rfl, by omega, rfl⟩, grown_below (bl_alloc HB _) hg5 (by have := HB.size; simp; omega) fun g hg' => (ownsRow_lt hO hg').1, ?_⟩, by simp [intOf] <;> omega⟩
          rw [lenBytes_snoc, List.map_append, ← List.append_assoc, ← List.map_append]
          exact hO5
        · obtain rfl : j = 8 := by omega
          have hlj' : ¬ ((8 : Nat) : Int) < 8 := by omega
          have hpl : (padded bs).length = 64 * e + 56 + 8 := by unfold padded; rw [List.length_append, ← he.out, padB_length _ _ (by omega), lenBytes_length]
          go_wp2
          refine bodyPost_ret (v := .slice (some ⟨g, 0, none⟩) (64 * e + 56 + 8) cap) (by simp [results, Tryz.results51, go_sem]) rfl ⟨_, rfl, ?_, HB⟩
          unfold padded
          rw [← he.out]
          exact hO
end Go.Proofs.YthnackakgglhbaaGreat

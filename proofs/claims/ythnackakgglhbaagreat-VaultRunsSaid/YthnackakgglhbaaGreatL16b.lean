/- The law ShaTexts. -/
import Derived.Test.YthnackakgglhbaaGreatL16
import Derived.Test.YthnackakgglhbaaGreatR3
import Derived.Test.YthnackakgglhbaaGreatEq
import Derived.Lib.ConvBytes
namespace Go.Proofs.YthnackakgglhbaaGreat
open Go.RowKit Go.Lib
set_option maxRecDepth 100000
set_option linter.unusedSimpArgs false
set_option linter.unusedVariables false
attribute [local go_sem] evR_tmp evR_const evR_global evR_func
/-- A byte with other bits above it. -/
def mixed (s : ByteArray) : List W32 := s.data.toList.map fun b => kw b.toNat ||| kw 23040
theorem mixed_length (s : ByteArray) : (mixed s).length = s.size := by
  rw [mixed, List.length_map, Array.length_toList]; rfl
theorem mix_at (s : ByteArray) (n : Nat) (h : n < s.size) : bits .or .u32 (IntKind.u32.wrap ((s[n].toNat : Nat) : Int)) 23040 = iw (at32 (mixed s) n) := by
  have e : at32 (mixed s) n = at32 (textw s) n ||| kw 23040 := by
    have h' : n < s.data.size := h
    simp only [at32, mixed, textw, List.getD_eq_getElem?_getD, List.getElem?_map, Array.getElem?_toList, Array.getElem?_eq_getElem h', Option.map_some, Option.getD_some]
  rw [text_at s n h, show (23040 : Int) = iw (kw 23040) from by decide +kernel, or_iw, e]
theorem low_mix (b : UInt8) : (kw b.toNat ||| kw 23040) &&& kw 255 = kw b.toNat := by
  have : ∀ n : Fin 256, (kw n.val ||| kw 23040) &&& kw 255 = kw n.val := by decide +kernel
  exact this ⟨b.toNat, b.toNat_lt⟩
theorem low_byte (b : UInt8) : kw b.toNat &&& kw 255 = kw b.toNat := by
  have : ∀ n : Fin 256, kw n.val &&& kw 255 = kw n.val := by decide +kernel
  exact this ⟨b.toNat, b.toNat_lt⟩
theorem joinw_mixed (s : ByteArray) (hs : s.size ≤ 500000) : joinw (mixed s) = refSum s.data.toList := by
  have hl : (mixed s).length = s.data.toList.length := by rw [mixed, List.length_map]
  unfold joinw
  rw [hl]
  have hsz : s.data.toList.length ≤ 500000 := by rw [Array.length_toList]; exact hs
  refine hash_is s.data.toList _ _ (Nat.le_refl _) (by omega) fun i hi => ?_
  simp only [at32, mixed, List.getD_eq_getElem?_getD, List.getElem?_map, List.getElem?_eq_getElem hi, Option.map_some, Option.getD_some, byteAt]
  exact low_mix _
theorem joinw_text (s : ByteArray) (hs : s.size ≤ 500000) : joinw (textw s) = refSum s.data.toList := by
  have hl : (textw s).length = s.data.toList.length := by rw [textw, List.length_map]
  unfold joinw
  rw [hl]
  have hsz : s.data.toList.length ≤ 500000 := by rw [Array.length_toList]; exact hs
  refine hash_is s.data.toList _ _ (Nat.le_refl _) (by omega) fun i hi => ?_
  simp only [at32, textw, List.getD_eq_getElem?_getD, List.getElem?_map, List.getElem?_eq_getElem hi, Option.map_some, Option.getD_some, byteAt]
  exact low_byte _
theorem byte_and (x : W32) : byteOf (x &&& kw 255) = byteOf x := by
  unfold byteOf
  apply UInt8.toNat.inj
  rw [UInt8.toNat_ofNat', UInt8.toNat_ofNat', BitVec.toNat_and, kw_nat 255 (by omega)]
  rw [show (255 : Nat) = 2 ^ 8 - 1 from rfl, Nat.and_two_pow_sub_one_eq_mod]
  omega
theorem quad_bytes (x : W32) : (byteQ x 4).map byteOf = quad x := by
  have e : byteQ x 4 = [shrI x 24 &&& kw 255, shrI x 16 &&& kw 255, shrI x 8 &&& kw 255, shrI x 0 &&& kw 255] := rfl
  rw [e]
  simp only [List.map_cons, List.map_nil, byte_and, quad]
  rw [show shrI x 0 = x by simp [shrI]]
theorem bytes_eq (h : List W32) : (bytesw h).map byteOf = refBytes h := by
  unfold bytesw refBytes
  induction h with
  | nil => rfl
  | cons x r ih => rw [List.flatMap_cons, List.flatMap_cons, List.map_append, ih, quad_bytes]
theorem sumText_is (s : ByteArray) (hs : s.size ≤ 500000) : sumText s = ⟨(refBytes (refSum s.data.toList)).toArray⟩ := by
  unfold sumText bytesOf
  rw [joinw_text s hs, bytes_eq]
/-- A byte slice of one's own as a text. -/
theorem run_conv_own {P : Program} {R : Nat → Value} {o : Oper} {w : World} {src dst e t : TypeId} {x : Operand} {g n cap : Nat} {cur : Array Value} {bs : List UInt8} (ho : o.op = .convert src dst x) (hx : evR R x = .slice (some ⟨g, 0, none⟩) n cap)
    (hs : P.underlying src = some (.slice e)) (he : P.underlying e = some (.int .u8)) (hd : P.underlying dst = some .string) (hk : w.heap[g]? = some (.cells cur t (0, 0))) (hl : bs.length = n) (ht : cur.toList.take n = bs.map bv) :
    (execOp (evR R) o).run P w = .ok (.value (.string ⟨bs.toArray⟩)) w := by
  have hcell : ∀ i, i < n → w.cell? ⟨g, 0 + i, none⟩ = some (.int .u8 ((bs.map fun b => ((b.toNat : Nat) : Int)).getD i 0)) := fun i hi => by
    have e1 := congrArg (fun l => l[i]?) ht
    simp only [List.getElem?_take, if_pos hi, List.getElem?_map, Array.getElem?_toList] at e1
    rw [Nat.zero_add]
    have e2 : w.cell? ⟨g, i, none⟩ = cur[i]? := by simp [World.cell?, hk]
    rw [e2, e1]
    simp [hl, hi, bv]
  have := run_convert_bytesR (R := R) (cap := cap) ho hx hs he hd (bs.map fun b => ((b.toNat : Nat) : Int)) (by rw [List.length_map, hl]) hcell
  have e3 : strOfNums (bs.map fun b => ((b.toNat : Nat) : Int)) = ⟨bs.toArray⟩ := by
    unfold strOfNums
    rw [List.map_map]
    congr 2
    conv => rhs; rw [← List.map_id bs]
    apply List.map_congr_left
    intro b _
    simp
  rw [e3] at this
  exact this
theorem Bytes_own (hs : List W32) (hh : hs.length = 8) (w : World) : Calls Tryz.prog 45 #[.agg (cw hs)] w fun x w' => ∃ g cap cur, x = .returned (.slice (some ⟨g, 0, none⟩) 32 cap) ∧ cap < 18446744073709551616 ∧ w.heap.size ≤ g ∧ w'.heap[g]? = some (.cells cur 80 (0, 0)) ∧ cur.toList.take 32 = (bytesw hs).map sec ∧ Below w.heap.size w w' := by
  refine (Bytes_c hs hh w).mono ?_
  rintro e w' ⟨sv, rfl, HO, HB⟩
  have HL := bytesw_length hs hh
  rcases HO.2 with ⟨_, q⟩ | ⟨g, cap, cur, rfl, hg, hk, _, hm, _, ht⟩
  · omega
  · rw [HL] at ht ⊢
    exact ⟨g, cap, cur, rfl, by simp only [maxLen] at hm; omega, hg, hk, by simpa using ht, HB⟩
theorem Padded_own (bs : List UInt8) (sv : Value) (w : World) (hn : bs.length ≤ 500000) (hs : RowB w sv bs) : Calls Tryz.prog 51 #[sv] w fun x w' => ∃ g cap cur, x = .returned (.slice (some ⟨g, 0, none⟩) (64 * (lastAt bs.length + 1)) cap) ∧ cap < 18446744073709551616 ∧ w.heap.size ≤ g ∧ w'.heap[g]? = some (.cells cur 5 (0, 0)) ∧ cur.toList.take (64 * (lastAt bs.length + 1)) = (padded bs).map bv ∧ Below w.heap.size w w' := by
  refine (Padded_c bs sv w hn hs).mono ?_
  rintro e w' ⟨sv', rfl, HO, HB⟩
  rw [padded_length] at HO
  rcases HO.2 with ⟨_, q⟩ | ⟨g, cap, cur, rfl, hg, hk, _, hm, _, ht⟩
  · omega
  · exact ⟨g, cap, cur, rfl, by simp only [maxLen] at hm; omega, hg, hk, by simpa using ht, HB⟩
theorem own_cell {w : World} {g n i : Nat} {cur : Array Value} {cs : List Value} {t : TypeId} (hk : w.heap[g]? = some (.cells cur t (0, 0))) (ht : cur.toList.take n = cs) (hi : i < n) : w.cell? ⟨g, i, none⟩ = cs[i]? := by
  have e1 := congrArg (fun l => l[i]?) ht
  simp only [List.getElem?_take, if_pos hi, Array.getElem?_toList] at e1
  rw [← e1]
  simp [World.cell?, hk]
theorem low_bytes (h : List W32) : ∀ x ∈ bytesw h, iw x < 256 := fun x hx => by
  unfold bytesw byteQ at hx
  obtain ⟨y, _, hy⟩ := List.mem_flatMap.1 hx
  obtain ⟨i, _, rfl⟩ := List.mem_map.1 hy
  unfold iw
  rw [BitVec.toNat_and, kw_nat 255 (by omega)]
  have := Nat.and_le_right (n := (shrI y (24 - 8 * (i : Int))).toNat) (m := 255)
  omega
theorem byte_wrap (x : W32) (h : iw x < 256) : IntKind.u32.wrap (byteN x) = iw x := by
  have := iw_lo x
  rw [byteN_eq, IntKind.wrap_u32']; omega
theorem Blocks_bel (n : Nat) (hn : n ≤ 1000000) (w : World) : Calls Tryz.prog 101 #[.int .i64 (n : Int)] w fun e w' => e = .returned (.int .i64 (blocksN n : Int)) ∧ Below w.heap.size w w' :=
  (Blocks_cN n hn w).mono fun e w' h => ⟨h.1, by rw [← h.2]; exact Below.refl _ _⟩
/-- A text as bytes. -/
theorem wpList_convSB {P : Program} {ops : Array Oper} {rest : List Oper} {o : Oper} {a : Act} {w : World} {Q : Exit → Act → World → Prop} {src dst e : TypeId} {x : Operand} {s : ByteArray} (hg : o.guard = none) (ho : o.op = .convert src dst x) (hx : a.eval x = .string s)
    (hs : P.underlying src = some .string) (hd : P.underlying dst = some (.slice e)) (he : P.underlying e = some (.int .u8))
    (h : ∀ cap w', RowB w' (.slice (some ⟨w.heap.size, 0, none⟩) s.size cap) s.data.toList → Below w.heap.size w w' → w.heap.size < w'.heap.size → wpList P ops Q rest (a.put o.dst (.slice (some ⟨w.heap.size, 0, none⟩) s.size cap)) w') : wpList P ops Q (o :: rest) a w := by
  refine wpList_plain hg fun K hK => ?_
  have hrow : RowB (bytesWorld w e s) (.slice (some ⟨w.heap.size, 0, none⟩) s.size (grownCap w s.size 0 e)) s.data.toList := by
    refine ⟨_, grownCap w s.size 0 e, by rw [Array.length_toList]; rfl, fun q => by simp at q, fun k hk => ⟨w.heap.size, 0, rfl, ?_⟩⟩
    have hk' : k < s.size := by rw [Array.length_toList] at hk; exact hk
    rw [Nat.zero_add, bytesWorld_cell w e s k hk', List.getD_eq_getElem?_getD, List.getElem?_eq_getElem hk]
    rfl
  have main := h _ _ hrow ⟨rfl, rfl, rfl, by rw [bytesWorld_size]; omega, fun k hk => bytesWorld_at_old w e s k hk⟩ (by rw [bytesWorld_size]; omega)
  have hr := Go.Lib.run_convert_string_bytes w src dst e s hs hd he
  have e1 : (execOp a.eval o).run P w = .ok (.value (.slice (some ⟨w.heap.size, 0, none⟩) s.size (grownCap w s.size 0 e))) (bytesWorld w e s) := by
    unfold execOp
    simp only [ho, hx]
    rw [Sem.run_bind, hr]
    rfl
  unfold Oper.wp
  rw [e1, Oper.upon_value]
  exact hK _ _ main
theorem Padded_zeros (N g : Nat) (w : World) (hN : N ≤ 2000) (hk : w.heap[g]? = some (.cells (Array.replicate N (.int .u8 0)) 5 (0, 0))) : Calls Tryz.prog 51 #[.slice (some ⟨g, 0, none⟩) N N] w fun x w' => ∃ g cap cur, x = .returned (.slice (some ⟨g, 0, none⟩) (64 * (lastAt N + 1)) cap) ∧ cap < 18446744073709551616 ∧ w.heap.size ≤ g ∧ w'.heap[g]? = some (.cells cur 5 (0, 0)) ∧ cur.toList.take (64 * (lastAt N + 1)) = (padded (List.replicate N 0)).map bv ∧ Below w.heap.size w w' := by
  have := Padded_own (List.replicate N 0) (.slice (some ⟨g, 0, none⟩) N N) w (by simp; omega) ⟨_, N, by simp, fun q => by simp at q, fun k hk' => ⟨g, 0, rfl, by
    rw [Nat.zero_add, blk_cell hk k]
    simp at hk'
    simp [hk', bv]⟩⟩
  simpa using this
theorem blocks_last (N : Nat) : blocksN N = lastAt N + 1 := by unfold blocksN lastAt; omega
end Go.Proofs.YthnackakgglhbaaGreat

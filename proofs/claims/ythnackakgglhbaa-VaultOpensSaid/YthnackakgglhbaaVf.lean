/- The contract of sabretachelaw43.VaultOpens. -/
import Derived.Test.YthnackakgglhbaaVe
namespace Go.Proofs.Ythnackakgglhbaa
open Go.RowKit Go.Lib
set_option maxRecDepth 100000
set_option linter.unusedSimpArgs false
set_option linter.unusedVariables false
/-- A text as bytes, the new block told: it may be written. -/
theorem wpList_convSBw {P : Program} {ops : Array Oper} {rest : List Oper} {o : Oper} {a : Act} {w : World} {Q : Exit → Act → World → Prop} {src dst e : TypeId} {x : Operand} {s : ByteArray} (hg : o.guard = none) (ho : o.op = .convert src dst x) (hx : a.eval x = .string s)
    (hs : P.underlying src = some .string) (hd : P.underlying dst = some (.slice e)) (he : P.underlying e = some (.int .u8))
    (h : ∀ cap cur w', s.size ≤ cap → w'.heap[w.heap.size]? = some (.cells cur e (cur.size, cur.size + 1)) → (∀ k, k < s.size → cur[k]? = some (.int .u8 (s.data.toList.getD k 0).toNat)) → Below w.heap.size w w' → wpList P ops Q rest (a.put o.dst (.slice (some ⟨w.heap.size, 0, none⟩) s.size cap)) w') : wpList P ops Q (o :: rest) a w := by
  refine wpList_plain hg fun K hK => ?_
  have hc : ∀ k, k < s.size → (bytesCells w e s)[k]? = some (.int .u8 (s.data.toList.getD k 0).toNat) := fun k hk => by
    rw [← bytesWorld_cell w e s k hk]
    simp [World.cell?, bytesWorld_at_new w e s]
  have main := h (grownCap w s.size 0 e) _ _ (grownCap_ge w s.size 0 e) (bytesWorld_at_new w e s) hc ⟨rfl, rfl, rfl, by rw [bytesWorld_size]; omega, fun k hk => bytesWorld_at_old w e s k hk⟩
  have hr := Go.Lib.run_convert_string_bytes w src dst e s hs hd he
  have e1 : (execOp a.eval o).run P w = .ok (.value (.slice (some ⟨w.heap.size, 0, none⟩) s.size (grownCap w s.size 0 e))) (bytesWorld w e s) := by
    unfold execOp
    simp only [ho, hx]
    rw [Sem.run_bind, hr]
    rfl
  unfold Oper.wp
  rw [e1, Oper.upon_value]
  exact hK _ _ main
theorem fz_at {w : World} {g i : Nat} {cur : Array Value} {T : TypeId} (hk : w.heap[g]? = some (.cells cur T (cur.size, cur.size + 1))) (hi : i < cur.size) : w.frozen? ⟨g, i, none⟩ = false := by
  simp [World.frozen?, hk]
  omega
theorem set_at {w : World} {g i : Nat} {cur : Array Value} {T : TypeId} {fr : Nat × Nat} (hk : w.heap[g]? = some (.cells cur T fr)) (v : Value) : (w.setCell ⟨g, i, none⟩ v).heap[g]? = some (.cells (cur.setIfInBounds i v) T fr) := by
  simp [World.setCell, Array.getElem?_modify, hk]
theorem opens_big (k l t : ByteArray) (x y : Int) (w : World) (h : 100 < k.size ∨ (¬ 100 < k.size ∧ 100 < l.size) ∨ (¬ 100 < k.size ∧ ¬ 100 < l.size ∧ 300 < t.size) ∨ (¬ 100 < k.size ∧ ¬ 100 < l.size ∧ ¬ 300 < t.size ∧ labB l = false)) : Calls Try.prog 4 #[.agg #[.string k, .string l], .string t, .agg #[.int .u8 x, .int .u8 y]] w fun e w' => e = .returned (.bool true) ∧ Below w.heap.size w w' := by
  rcases h with h | ⟨h0, h⟩ | ⟨h0, h1, h⟩ | ⟨h0, h1, h2, h⟩
  · have q : 100 < (k.size : Int) := by omega
    go_enter Try.func4, Try.ntmps4
    go_wp2_with (go_at_call 5; refine (awake43_c _).mono ?_; rintro e w3 ⟨rfl, hb3⟩; have k3 := grow_blk hb3 (blk_alloc (blk_new w _) _); have c0 := blk_cell k3 0; have c1 := blk_cell k3 1)
    exact bodyPost_ret (v := .bool true) (by simp [results, Try.results4, go_sem]) rfl ⟨rfl, bl_call hb3 (bl_alloc ((Below.refl _ _).alloc (Nat.le_refl _) _) _)⟩
  · have q0 : ¬ 100 < (k.size : Int) := by omega
    have q : 100 < (l.size : Int) := by omega
    go_enter Try.func4, Try.ntmps4
    go_wp2_with (go_at_call 5; refine (awake43_c _).mono ?_; rintro e w3 ⟨rfl, hb3⟩; have k3 := grow_blk hb3 (blk_alloc (blk_new w _) _); have c0 := blk_cell k3 0; have c1 := blk_cell k3 1)
    exact bodyPost_ret (v := .bool true) (by simp [results, Try.results4, go_sem]) rfl ⟨rfl, bl_call hb3 (bl_alloc ((Below.refl _ _).alloc (Nat.le_refl _) _) _)⟩
  · have q0 : ¬ 100 < (k.size : Int) := by omega
    have q1 : ¬ 100 < (l.size : Int) := by omega
    have q : 300 < (t.size : Int) := by omega
    go_enter Try.func4, Try.ntmps4
    go_wp2_with (go_at_call 5; refine (awake43_c _).mono ?_; rintro e w3 ⟨rfl, hb3⟩; have k3 := grow_blk hb3 (blk_alloc (blk_new w _) _); have c0 := blk_cell k3 0; have c1 := blk_cell k3 1)
    exact bodyPost_ret (v := .bool true) (by simp [results, Try.results4, go_sem]) rfl ⟨rfl, bl_call hb3 (bl_alloc ((Below.refl _ _).alloc (Nat.le_refl _) _) _)⟩
  · have q0 : ¬ 100 < (k.size : Int) := by omega
    have q1 : ¬ 100 < (l.size : Int) := by omega
    have q2 : ¬ 300 < (t.size : Int) := by omega
    have hLb := fun w => rLabel_c l (by omega) w
    rw [h] at hLb
    go_enter Try.func4, Try.ntmps4
    go_wp2_with (first | (go_at_call 5; refine (awake43_c _).mono ?_; rintro e w3 ⟨rfl, hb3⟩; have k3 := grow_blk hb3 (blk_alloc (blk_new w _) _); have c0 := blk_cell k3 0; have c1 := blk_cell k3 1) | (go_at_call 9; refine (hLb _).mono ?_; rintro e w5 ⟨rfl, hb5⟩))
    exact bodyPost_ret (v := .bool true) (by simp [results, Try.results4, go_sem]) rfl ⟨rfl, bl_call hb5 (bl_call hb3 (bl_alloc ((Below.refl _ _).alloc (Nat.le_refl _) _) _))⟩
set_option maxHeartbeats 4000000 in
theorem VaultOpens_c (k l t : ByteArray) (x y : Int) (hx : 0 ≤ x ∧ x ≤ 255) (hy : 0 ≤ y ∧ y ≤ 255) (w : World) : Calls Try.prog 4 #[.agg #[.string k, .string l], .string t, .agg #[.int .u8 x, .int .u8 y]] w fun e w' => e = .returned (.bool true) ∧ Below w.heap.size w w' := by
  by_cases hbig : 100 < k.size ∨ (¬ 100 < k.size ∧ 100 < l.size) ∨ (¬ 100 < k.size ∧ ¬ 100 < l.size ∧ 300 < t.size) ∨ (¬ 100 < k.size ∧ ¬ 100 < l.size ∧ ¬ 300 < t.size ∧ labB l = false)
  · exact opens_big k l t x y w hbig
  have q0 : ¬ 100 < (k.size : Int) := by omega
  have q1 : ¬ 100 < (l.size : Int) := by omega
  have q2 : ¬ 300 < (t.size : Int) := by omega
  have k0 : k.size ≤ 100 := by omega
  have l0 : l.size ≤ 100 := by omega
  have t0 : t.size ≤ 300 := by omega
  have hL : labB l = true := by
    cases h : labB l with
    | true => rfl
    | false => exact absurd (.inr (.inr (.inr ⟨by omega, by omega, by omega, h⟩))) hbig
  clear hbig
  have hLb := fun w => rLabel_c l (by omega) w
  rw [hL] at hLb
  have ry := fun w => rSeal_c k l t (by omega) (by omega) (by omega) w
  have hz := sealS_size k l t
  generalize sealS k l t = s at ry hz
  have hV := fun (u : ByteArray) (hu : u.size ≤ 400) w => vOpen_c k l u hL (by omega) (by omega) (by omega) w
  have hR := fun (u : ByteArray) (hu : u.size ≤ 400) w => rOpen_c k l u (by omega) (by omega) (by omega) w
  have hc : ∀ u, (openS k l u = none ∧ opT (openS k l u) = ⟨#[]⟩ ∧ opE (openS k l u) = 4 ∧ opB (openS k l u) = false) ∨ (∃ o, opT (openS k l u) = o ∧ opE (openS k l u) = 0 ∧ opB (openS k l u) = true) := fun u => by
    cases openS k l u with
    | none => exact .inl ⟨rfl, rfl, rfl, rfl⟩
    | some o => exact .inr ⟨o, rfl, rfl, rfl⟩
  have hn : 16 ≤ s.size := by omega
  have hn2 : s.size ≤ 400 := by omega
  replace hV := Lib.hid hV
  replace hR := Lib.hid hR
  replace hc := Lib.hid hc
  clear hL hz
  go_enter Try.func4, Try.ntmps4
  go_upto_region 6 with (first | (go_at_call 5; refine (awake43_c _).mono ?_; rintro e w3 ⟨rfl, hb3⟩; have k3 := grow_blk hb3 (blk_alloc (blk_new w _) _); have k5 := grow_blk hb3 (blk_new (w.alloc _) _); have c0 := blk_cell k3 0; have c1 := blk_cell k3 1) | (go_at_call 9; refine (hLb _).mono ?_; rintro e w5 ⟨rfl, hb5⟩; replace k3 := grow_blk hb5 k3; replace k5 := grow_blk hb5 k5; have c0 := blk_cell k3 0; have c1 := blk_cell k3 1) | (go_at_call 11; refine (ry _).mono ?_; rintro e w7 ⟨rfl, hb7⟩) | (refine wpList_convSBw rfl rfl rfl Try.underlying9 Try.underlying32 Try.underlying5 ?_; intro cap8 cur8 w8 hcap8 hk8 hc8 hb8))
  have hkk : w8.heap[w.heap.size]? = some (.cells #[.string k, .string l] 22 (0, 0)) := grow_blk hb8 (grow_blk hb7 k3)
  have hk5 : w8.heap[w.heap.size + 1]? = some (.cells #[.int .u8 x, .int .u8 y] 31 (0, 0)) := grow_blk hb8 (grow_blk hb7 (by simpa using k5))
  have l5 := blk_lt (grow_blk hb7 (by simpa using k5 : w5.heap[w.heap.size + 1]? = _))
  have HB := bl_call hb8 (bl_call hb7 (bl_call hb5 (bl_call hb3 (bl_alloc ((Below.refl w.heap.size w).alloc (Nat.le_refl _) _) _))))
  clear hb8 hb7 hb5 hb3 k3 k5 c0 c1 hLb ry
  obtain ⟨P, hP⟩ : ∃ g, g = w7.heap.size := ⟨_, rfl⟩
  rw [← hP] at hk8 l5 ⊢
  have hPw : w.heap.size ≤ P := by omega
  clear hP
  have hcs : s.size ≤ cur8.size := by
    rcases Nat.lt_or_ge (s.size - 1) cur8.size with h | h
    · omega
    · have := hc8 (s.size - 1) (by omega)
      rw [Array.getElem?_eq_none h] at this
      cases this
  obtain ⟨r, hr⟩ : ∃ r : Nat, (r : Int) = x % (s.size : Int) := ⟨(x % (s.size : Int)).toNat, by have := Int.emod_nonneg x (show (s.size : Int) ≠ 0 by omega); omega⟩
  have hr0 : r < s.size := by have := Int.emod_lt_of_pos x (show 0 < (s.size : Int) by omega); omega
  have hr1 : x % (s.size : Int) = (r : Int) := hr.symm
  have hr2 : Int.tmod x (s.size : Int) = (r : Int) := by rw [Int.tmod_eq_emod_of_nonneg hx.1, hr1]
  have hs0 : ¬ (s.size : Int) = 0 := by omega
  have hrs : (r : Int) < (s.size : Int) := by omega
  have wx : IntKind.i64.wrap x = x := IntWalk.i64_in _ (by omega)
  have a0 := blk_cell hk5 0
  have a1 := blk_cell hk5 1
  obtain ⟨y8, hy8⟩ : ∃ b : UInt8, y = (b.toNat : Int) := ⟨UInt8.ofNat y.toNat, by simp; omega⟩
  subst hy8
  obtain ⟨b0, hb0⟩ : ∃ b, b = s.data.toList.getD r 0 := ⟨_, rfl⟩
  have cr : w8.cell? ⟨P, r, none⟩ = some (.int .u8 (b0.toNat : Int)) := by rw [cell_of_row w8 P r _ _ _ hk8, hc8 r hr0, hb0]
  have fr := fz_at hk8 (show r < cur8.size by omega)
  have hxo : bits .xor .u8 (b0.toNat : Int) (y8.toNat : Int) = ((b0 ^^^ y8).toNat : Int) := xor_u8 b0 y8
  obtain ⟨L, hL⟩ : ∃ L : List UInt8, L = s.data.toList.set r (b0 ^^^ y8) := ⟨_, rfl⟩
  have hLl : L.length = s.size := by rw [hL, List.length_set, Array.length_toList]; rfl
  have hrow : ∀ W : World, W.heap[P]? = some (.cells (cur8.setIfInBounds r (.int .u8 (((b0 ^^^ y8).toNat : Nat) : Int))) 5 (cur8.size, cur8.size + 1)) → RowB W (.slice (some ⟨P, 0, none⟩) s.size cap8) L := fun W h => by
    rw [← hLl]
    refine RowB.of fun q hq => ?_
    rw [Nat.zero_add, cell_of_row W P q _ _ _ h, Array.getElem?_setIfInBounds]
    have hq2 : L[q]? = some L[q] := List.getElem?_eq_getElem hq
    have hqs : q < s.size := by omega
    by_cases hqr : r = q
    · subst hqr
      rw [if_pos rfl, if_pos (by omega)]
      have h3 : L[r]? = some (b0 ^^^ y8) := by rw [hL, List.getElem?_set_self (by rw [Array.length_toList]; exact hqs)]
      rw [h3] at hq2
      rw [← Option.some.inj hq2]
      rfl
    · rw [if_neg hqr, hc8 q hqs]
      have h3 : L[q]? = some (s.data.toList.getD q 0) := by
        rw [hL, List.getElem?_set_ne hqr, List.getD_eq_getElem?_getD, List.getElem?_eq_getElem (by rw [Array.length_toList]; exact hqs)]
        rfl
      rw [h3] at hq2
      rw [← Option.some.inj hq2]
      rfl
  replace hL := Lib.hid hL
  replace hb0 := Lib.hid hb0
  replace hrow := Lib.hid hrow
  clear hr hk5 hc8
  go_region
  go_upto_region 7 with fail
  refine gen_world fun W hW => ?_
  have hR8 : RowB W (.slice (some ⟨P, 0, none⟩) s.size cap8) L := by
    subst hW
    exact hrow.out _ (set_at hk8 _)
  have hkk2 : W.heap[w.heap.size]? = some (.cells #[.string k, .string l] 22 (0, 0)) := by subst hW; exact blk_far hkk (by simp; omega) _
  replace HB : Below w.heap.size w W := by subst hW; exact bl_drew (bl_set _ _ hPw HB)
  clear hW hrow cr fr a0 a1 hk8 hkk
  have hmi : IntKind.i64.wrap ((s.size : Int) - 1) = (s.size : Int) - 1 := IntWalk.i64_in _ (by omega)
  obtain ⟨n1, hn1⟩ : ∃ n1 : Nat, s.size = n1 + 1 := ⟨s.size - 1, by omega⟩
  have q5 : (s.size : Int) - 1 = (n1 : Int) := by omega
  have hR9 : RowB W (.slice (some ⟨P, 0, none⟩) n1 cap8) (L.take n1) := by
    have h := hR8
    rw [← hLl] at h
    exact h.hi n1 (by omega)
  have q6 : (n1 : Int) ≤ (s.size : Int) := by omega
  have hL1 : (L.take n1).length = n1 := by rw [List.length_take, hLl]; omega
  have q7 : (n1 : Int) ≤ (cap8 : Int) := by omega
  have q8 : 0 ≤ (n1 : Int) := by omega
  clear hn1
  have hD : Below W.heap.size W W.drew := bl_drew (Below.refl _ _)
  have hv1 := run_convBS (hR8.grow hD)
  have hv2 := run_convBS (hR9.grow hD)
  obtain ⟨s1, hs1⟩ : ∃ s1 : ByteArray, s1 = ⟨L.toArray⟩ := ⟨_, rfl⟩
  obtain ⟨s2, hs2⟩ : ∃ s2 : ByteArray, s2 = ⟨(L.take n1).toArray⟩ := ⟨_, rfl⟩
  rw [← hs1] at hv1
  rw [← hs2] at hv2
  have z1 : s1.size ≤ 400 := by rw [hs1, bsz]; omega
  have z2 : s2.size ≤ 400 := by rw [hs2, bsz, hL1]; omega
  clear hs1 hs2 hD
  go_region
  go_upto_region 8 with fail
  refine gen_world fun W2 hW2 => ?_
  have kG : W2.heap[W.heap.size]? = some (.cells #[.string t, .string s1, .string s2] 9 (0, 0)) := by subst hW2; exact blk_new W _
  have kk0 : W2.heap[w.heap.size]? = some (.cells #[.string k, .string l] 22 (0, 0)) := by subst hW2; exact blk_alloc hkk2 _
  have HB0 : Below w.heap.size w W2 := by subst hW2; exact bl_drew (bl_alloc HB _)
  obtain ⟨G, hG⟩ : ∃ g, g = W.heap.size := ⟨_, rfl⟩
  rw [← hG] at kG ⊢
  clear hW2 HB hkk2 hR8 hR9 hv1 hv2 hG
  go_wp2_with fail
  go_loopw [68] (fun i wr => ∃ j : Nat, j ≤ 3 ∧ i = .int .i64 (j : Int) ∧ wr.heap[G]? = some (.cells #[.string t, .string s1, .string s2] 9 (0, 0)) ∧ wr.heap[w.heap.size]? = some (.cells #[.string k, .string l] 22 (0, 0)) ∧ Below w.heap.size w wr) (fun i _ => 3 - (RowKit.intOf i).toNat)
  case atStart => exact ⟨0, by omega, rfl, kG, kk0, HB0⟩
  case round =>
    clear kG kk0 HB0
    obtain ⟨j, hj, rfl, kG, kk, HB⟩ := hrel
    by_cases hlt : j < 3
    · have hlt' : (j : Int) < 3 := by omega
      have hcell : ∃ u : ByteArray, u.size ≤ 400 ∧ wr.cell? ⟨G, j, none⟩ = some (.string u) := by
        have e := blk_cell kG j
        rcases (show j = 0 ∨ j = 1 ∨ j = 2 by omega) with rfl | rfl | rfl
        · exact ⟨t, by omega, e⟩
        · exact ⟨s1, z1, e⟩
        · exact ⟨s2, z2, e⟩
      obtain ⟨u, hu, cu⟩ := hcell
      have hVu := hV.out u hu
      have hRu := hR.out u hu
      have hcu := hc.out u
      have e0 := blk_cell kk 0
      have e1 := blk_cell kk 1
      rcases hcu with ⟨h1, h2, h3, h4⟩ | ⟨o, h2, h3, h4⟩
      · rw [h2, h3] at hVu
        rw [h2, h4] at hRu
        clear h1 h2 h3 h4
        go_wp2_with (first | (go_at_call 10; refine (hVu _).mono ?_; rintro e w4 ⟨rfl, hb4⟩; have e0 := grow_cell hb4 e0; have e1 := grow_cell hb4 e1) | (go_at_call 12; refine (hRu _).mono ?_; rintro e w5 ⟨rfl, hb5⟩))
        exact ⟨⟨j + 1, by omega, congrArg (Value.int .i64) (by omega), grow_blk hb5 (grow_blk hb4 kG), grow_blk hb5 (grow_blk hb4 kk), bl_call hb5 (bl_call hb4 HB)⟩, by simp [RowKit.intOf] <;> omega⟩
      · rw [h2, h3] at hVu
        rw [h2, h4] at hRu
        have hoo := same_str o
        clear h2 h3 h4
        go_wp2_with (first | (go_at_call 10; refine (hVu _).mono ?_; rintro e w4 ⟨rfl, hb4⟩; have e0 := grow_cell hb4 e0; have e1 := grow_cell hb4 e1) | (go_at_call 12; refine (hRu _).mono ?_; rintro e w5 ⟨rfl, hb5⟩))
        exact ⟨⟨j + 1, by omega, congrArg (Value.int .i64) (by omega), grow_blk hb5 (grow_blk hb4 kG), grow_blk hb5 (grow_blk hb4 kk), bl_call hb5 (bl_call hb4 HB)⟩, by simp [RowKit.intOf] <;> omega⟩
    · obtain rfl : j = 3 := by omega
      go_wp2_with fail
      exact bodyPost_ret (v := .bool true) (by simp [results, Try.results4, go_sem]) rfl ⟨rfl, HB⟩
end Go.Proofs.Ythnackakgglhbaa

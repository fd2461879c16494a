/- The vault's Labels and Turn. -/
import Derived.Test.YthnackakgglhbaaGreatVh
import Derived.Test.YthnackakgglhbaaGreatIter
import Derived.Sort.KeysCollected
namespace Go.Proofs.YthnackakgglhbaaGreat
open Go.RowKit
set_option maxRecDepth 100000
set_option linter.unusedSimpArgs false
set_option linter.unusedVariables false
theorem Apart.trans {F : Nat → Prop} {w W W1 : World} (h : Apart F w W) (h1 : Apart F W W1) : Apart F w W1 :=
  ⟨h1.os.trans h.os, h1.tape.trans h.tape, h1.output.trans h.output, Nat.le_trans h.size h1.size, fun b q hn => (h1.block b (Nat.lt_of_lt_of_le q h.size) hn).trans (h.block b q hn)⟩
theorem turned_set (w : World) (p : Addr) (v : Value) : Turned p.block w (w.setCell p v) := ⟨rfl, rfl, rfl, by simp [World.setCell], fun b _ hn => Below.heap_setCell w p v b hn⟩
theorem nodup_mapI {α β : Type} {f : α → β} (hf : ∀ a b, f a = f b → a = b) {l : List α} (h : l.Nodup) : (l.map f).Nodup := List.pairwise_map.2 (h.imp (fun hne e => hne (hf _ _ e)))
/-- A reader of elements that looks at nothing. -/
def anyR (v : Value) : Option (DataW Unit × List MemPlace) := some (.lit (.bool true), [])
theorem key_of (s : ByteArray) (hs : s.size ≤ maxLen) : keyOf Tryz.prog 9 (.string s) = some (.string s.data.toList) := by
  simp [keyOf, Tryz.underlying9, mapKey, hs]
theorem rg_ents : ∀ (L : KV) (b : Nat), (∀ k ∈ keysK L, k.size ≤ maxLen) → (ents b L).map (WideElems.rg Tryz.prog 9 anyR) = L.map fun p => (.string p.1.data.toList, .lit (.bool true))
  | [], _, _ => rfl
  | (k, v) :: r, b, h => by
    have h1 : k.size ≤ maxLen := h k (by simp [keysK])
    have h2 : WideElems.rg Tryz.prog 9 anyR (ent k v b) = (.string k.data.toList, .lit (.bool true)) := WideElems.rg_of (WideElems.rd_mk (val := .string v) (yv := (.lit (.bool true), [])) (key_of k h1) (by rfl))
    show WideElems.rg Tryz.prog 9 anyR (ent k v b) :: (ents (b + 1) r).map _ = _
    rw [h2, rg_ents r (b + 1) (fun x hx => h x (by simp only [keysK, List.map_cons, List.mem_cons]; exact .inr hx))]
    rfl
theorem ents_key : ∀ (L : KV) (b : Nat), (ents b L).map (·.key) = (keysK L).map Value.string
  | [], _ => rfl
  | (k, v) :: r, b => by
    show (ent k v b).key :: (ents (b + 1) r).map (·.key) = _
    rw [ents_key r (b + 1)]; rfl
theorem ents_born : ∀ (L : KV) (b : Nat), (ents b L).map (·.born) = (List.range L.length).map (b + ·)
  | [], _ => rfl
  | (k, v) :: r, b => by
    show b :: (ents (b + 1) r).map (·.born) = _
    rw [ents_born r (b + 1), List.length_cons, List.range_succ_eq_map, List.map_cons, List.map_map]
    congr 1
    apply List.map_congr_left
    intro x _
    simp only [Function.comp]
    omega
theorem own_map (w : World) (M : Nat) (L : KV) (h : MapIs w M L) (hnd : (keysK L).Nodup) (hz : ∀ k ∈ keysK L, k.size ≤ maxLen) (hl : L.length ≤ 1000) :
    ∃ D : DataW Unit, w.ownsMap Tryz.prog 9 anyR M L.length D ∧ (strKeys D).Perm ((keysK L).map fun k => k.data.toList) ∧ Maps.size D = L.length := by
  have hrg := rg_ents L 0 hz
  have hF : WideElems.Fit Tryz.prog 9 anyR (ents 0 L).toArray L.length := by
    refine ⟨?_, ⟨?_, ?_, ?_⟩, ?_⟩
    · rw [List.size_toArray, ents_length]; unfold maxLen; omega
    · intro x hx
      rw [List.toList_toArray] at hx
      have h1 : x.born ∈ (ents 0 L).map (·.born) := List.mem_map_of_mem (f := (·.born)) hx
      rw [ents_born] at h1
      obtain ⟨y, hy, he⟩ := List.mem_map.1 h1
      have := List.mem_range.1 hy
      omega
    · rw [List.toList_toArray, ents_born]
      refine nodup_mapI ?_ List.nodup_range
      intro a b hab
      have : (0 : Nat) + a = 0 + b := hab
      omega
    · rw [List.toList_toArray, ents_key]
      exact nodup_mapI (fun a b hab => Value.string.inj hab) hnd
    · intro x hx
      rw [List.toList_toArray] at hx
      have h1 : x.key ∈ (ents 0 L).map (·.key) := List.mem_map_of_mem (f := (·.key)) hx
      rw [ents_key] at h1
      obtain ⟨k, hk, he⟩ := List.mem_map.1 h1
      obtain ⟨xk, xv, xb⟩ := x
      simp only at he
      subst he
      exact ⟨_, WideElems.rd_mk (yv := (.lit (.bool true), [])) (key_of k (hz k hk)) (by rfl)⟩
  refine ⟨_, ⟨_, _, h, hF, by rw [List.size_toArray, ents_length]; exact Nat.le_refl _, rfl⟩, ?_, ?_⟩
  · show (((((ents 0 L).toArray).toList.map (WideElems.rg Tryz.prog 9 anyR)).foldr DataW.insert []).map fun p => strOf p.1).Perm _
    rw [List.toList_toArray, hrg]
    refine ((WideShapes.sorted_perm _).map _).trans ?_
    rw [List.map_map, keysK, List.map_map]
    exact List.Perm.refl _
  · show (((((ents 0 L).toArray).toList.map (WideElems.rg Tryz.prog 9 anyR)).foldr DataW.insert []).length) = _
    rw [List.toList_toArray, hrg, (WideShapes.sorted_perm _).length_eq, List.length_map]
/-- The labels, sorted. -/
def labsK (L : KV) : List (List UInt8) := ((keysK L).map fun k => k.data.toList).mergeSort leB
set_option maxHeartbeats 1000000 in
theorem Labels_c (w : World) (V M : Nat) (key : ByteArray) (L L0 : KV) (h : VS w V M key L) (hk0 : keysK L = keysK L0) (hnd : (keysK L0).Nodup) (hz : ∀ k ∈ keysK L0, k.size ≤ 1000) (hl : L0.length ≤ 1000) : Calls Tryz.prog 14 #[.pointer (some ⟨V, 0, none⟩)] w fun e w' =>
    ∃ v : Value, e = .returned v ∧ w'.ownsRow w.heap.size 9 1 v (labsK L0).length ((labsK L0).map Proofs.encStr) ∧ Below w.heap.size w w' := by
  have hlen : L.length = L0.length := by
    have := congrArg List.length hk0
    simpa [keysK] using this
  obtain ⟨D, hown, hperm, hsize⟩ := own_map w M L h.kM (by rw [hk0]; exact hnd) (by rw [hk0]; intro k hk; have := hz k hk; unfold maxLen; omega) (by omega)
  have c1 := blk_cell h.kV 1
  refine (callsIn_wide (n := 6)).1 ?_
  have hfK : Fence.wide.fn 22 := trivial
  have hfS : Fence.wide.fn 21 := trivial
  refine callsIn_of_wp Tryz.func14 rfl trivial ?_ rfl
  simp only [Tryz.ntmps14, List.size_toArray, List.length_cons, List.length_nil, Nat.reduceAdd, Nat.reduceSub, Array.replicate_succ, Array.replicate_zero, List.push_toArray, List.append_toArray, List.nil_append, List.cons_append]
  have hmax : Maps.size D ≤ maxLen := by unfold maxLen; omega
  have hby : Maps.size D * 16 ≤ 140737488355328 := by omega
  clear h
  gi_wp2_with (first
    | (gi_at_call 22; refine (Tryz.maps_Keys_22 _ _).mono ?_; rintro e w' ⟨rfl, rfl⟩)
    | (gi_at_call 21; refine (Tryz.slices_Sorted_keys_21_22 M L.length D anyR w hown hmax hby).mono ?_; rintro e w' ⟨v, ss, rfl, hS, hrow, hnil, hb⟩))
  go_ret
  have hss : ss.mergeSort (fun x y => decide (x ≤ y)) = labsK L0 := by
    unfold labsK
    rw [← hk0]
    exact mergeSort_of_perm (hS.trans hperm)
  have hsl : ss.length = (labsK L0).length := by rw [← hss, List.length_mergeSort]
  rw [hss, hsl] at hrow
  exact ⟨v, rfl, ownsRow_base_a hrow (by simp), ((Below.refl _ w).alloc (Nat.le_refl _) _).trans (hb.mono (by simp))⟩
/-- The labels, sorted, as texts. -/
def labsB (L : KV) : List ByteArray := (labsK L).map fun l => ⟨l.toArray⟩
theorem labsB_mem (L : KV) (s : ByteArray) : s ∈ labsB L ↔ s ∈ keysK L := by
  unfold labsB labsK
  rw [List.mem_map]
  constructor
  · rintro ⟨l, hl, rfl⟩
    rw [List.mem_mergeSort] at hl
    obtain ⟨k, hk, rfl⟩ := List.mem_map.1 hl
    exact hk
  · intro h
    refine ⟨s.data.toList, ?_, rfl⟩
    rw [List.mem_mergeSort]
    exact List.mem_map_of_mem (f := fun k : ByteArray => k.data.toList) h
theorem labsK_nodup (L : KV) (h : (keysK L).Nodup) : (labsK L).Nodup := by
  unfold labsK
  refine (List.mergeSort_perm _ _).symm.nodup ?_
  exact nodup_mapI (fun a b hab => ByteArray.ext (Array.ext' hab)) h
theorem labsB_nodup (L : KV) (h : (keysK L).Nodup) : (labsB L).Nodup := by
  unfold labsB
  exact nodup_mapI (fun a b hab => by simpa using congrArg (fun z : ByteArray => z.data.toList) hab) (labsK_nodup L h)
theorem labsK_length (L : KV) : (labsK L).length = L.length := by
  unfold labsK
  rw [List.length_mergeSort, List.length_map, keysK, List.length_map]
theorem get_some_of (s : ByteArray) (L : KV) (h : s ∈ keysK L) : ∃ t, getK s L = some t := by
  cases hg : getK s L with
  | some t => exact ⟨t, rfl⟩
  | none => exact absurd h ((get_none s L).1 hg)
theorem keys_mapV (f : ByteArray → ByteArray → ByteArray) (L : KV) : keysK (mapV f L) = keysK L := by
  unfold keysK mapV
  rw [List.map_map]; rfl
theorem mapV_length (f : ByteArray → ByteArray → ByteArray) (L : KV) : (mapV f L).length = L.length := List.length_map ..
/-- The row's block and its cells. -/
theorem own_row {w : World} {base : Nat} {e : TypeId} {v : Value} {n : Nat} {xs : List Value} (h : w.ownsRow base e 1 v n xs) (hn : 0 < n) : ∃ g cap cur, v = .slice (some ⟨g, 0, none⟩) n cap ∧ base ≤ g ∧ w.heap[g]? = some (.cells cur e (0, 0)) ∧ ∀ (i : Nat) (x : Value), xs[i]? = some x → cur[i]? = some x := by
  rcases h.2 with ⟨rfl, h0⟩ | ⟨g, cap, cur, rfl, hb, hk, _, _, _, ht⟩
  · omega
  · refine ⟨g, cap, cur, rfl, hb, hk, fun i x hi => ?_⟩
    rw [← ht, List.getElem?_take] at hi
    split at hi
    · simpa using hi
    · cases hi
theorem own_nil {w : World} {base : Nat} {e : TypeId} {v : Value} {n : Nat} {xs : List Value} (h : w.ownsRow base e 1 v n xs) : ∃ ao cap, v = .slice ao n cap := by
  rcases h.2 with ⟨rfl, h0⟩ | ⟨g, cap, cur, rfl, _⟩
  · exact ⟨none, 0, by rw [h0]⟩
  · exact ⟨_, _, rfl⟩
set_option maxHeartbeats 4000000 in
theorem Turn_c (w : World) (V M : Nat) (key k2 : ByteArray) (L : KV) (h : VS w V M key (mapV (sealS key) L)) (hnd : (keysK L).Nodup) (hz : ∀ p ∈ L, labB p.1 = true ∧ p.1.size ≤ 100 ∧ p.2.size ≤ 1000) (hl : L.length ≤ 60) (hk : key.size ≤ 1000) (hk2 : k2.size ≤ 1000) : Calls Tryz.prog 12 #[.pointer (some ⟨V, 0, none⟩), .string k2] w fun e w' =>
    e = .returned (.int .i64 0) ∧ VS w' V M k2 (mapV (sealS k2) L) ∧ Apart (fun b => b = V ∨ b = M) w w' := by
  have hL := Labels_c w V M key (mapV (sealS key) L) L h (keys_mapV _ _) hnd (fun k hk => by
    obtain ⟨t, ht⟩ := get_some_of k L hk
    have := (hz _ (get_mem k t L ht)).2.1
    simp only at this; omega) (by omega)
  have hVM := h.ne
  have hlen := labsK_length L
  have hmem := labsB_mem L
  have hndB := labsB_nodup L hnd
  have hBl : (labsB L).length = (labsK L).length := List.length_map ..
  have hcell : ∀ (i : Nat) (s : ByteArray), (labsB L)[i]? = some s → ((labsK L).map Proofs.encStr)[i]? = some (.string s) := by
    intro i s hi
    unfold labsB at hi
    rw [List.getElem?_map] at hi ⊢
    cases hg : (labsK L)[i]? with
    | none => rw [hg] at hi; cases hi
    | some x =>
      rw [hg] at hi
      obtain rfl := Option.some.inj hi
      rfl
  have hV0 := h.kV
  have hM0 : MapIs w M (mapV (mixF key k2 ((labsB L).take 0)) L) := by rw [List.take_zero, mix_none]; exact h.kM
  have hVlt := blk_lt h.kV
  have hMlt := h.kM.lt
  clear h
  generalize (labsK L).map Proofs.encStr = XS at hL hcell
  obtain ⟨n, hn⟩ : ∃ n, n = (labsK L).length := ⟨_, rfl⟩
  rw [← hn] at hL hBl hlen
  clear hn
  obtain ⟨NB, hNB⟩ : ∃ NB, NB = labsB L := ⟨_, rfl⟩
  rw [← hNB] at hmem hndB hBl hcell hM0
  clear hNB
  replace hcell := Lib.hid hcell
  replace hmem := Lib.hid hmem
  replace hz := Lib.hid hz
  replace hBl := Lib.hid hBl
  replace hL := Lib.hid hL
  go_enter Tryz.func12, Tryz.ntmps12
  go_upto_region 4 with (go_at_call 14; refine hL.out.mono ?_; rintro e w1 ⟨v, rfl, hrow, hb1⟩; obtain ⟨ao, cap, rfl⟩ := own_nil hrow)
  have hV1 := grow_blk hb1 hV0
  have hM1 := hM0.grow hb1
  have hT1 : Apart (fun b => b = M) w w1 := Below.apart hb1
  clear hV0 hM0
  go_loopw [16] (fun i wr => ∃ (j : Nat), j ≤ n ∧ i = .int .i64 (j : Int) ∧ wr.heap[V]? = some (.cells #[.string key, .map (some M)] 45 (0, 0)) ∧ MapIs wr M (mapV (mixF key k2 (NB.take j)) L) ∧ Apart (fun b => b = M) w wr ∧ Apart (fun b => b = M) w1 wr) (fun i _ => n - (RowKit.intOf i).toNat)
  case atStart => exact ⟨0, by omega, rfl, hV1, hM1, hT1, Apart.refl _ _⟩
  case round =>
    clear hV1 hM1 hT1
    obtain ⟨j, hj, rfl, hV, hM, hT, hT2⟩ := hrel
    have hw := hT.size
    by_cases hlt : j < n
    · have hltI : (j : Int) < (n : Int) := by omega
      obtain ⟨g, cap2, cur, hvs, hgw, hkg, hcur⟩ := own_row hrow (by omega)
      obtain ⟨rfl, _, rfl⟩ := Value.slice.inj hvs
      have hjB : j < NB.length := by rw [hBl.out]; exact hlt
      obtain ⟨s, hs⟩ : ∃ s, s = NB[j] := ⟨_, rfl⟩
      have hsj : NB[j]? = some s := by rw [List.getElem?_eq_getElem hjB, hs]
      have hkg2 : wr.heap[g]? = some (.cells cur 9 (0, 0)) := (hT2.block g (blk_lt hkg) (by omega)).trans hkg
      have cj : wr.cell? ⟨g, j, none⟩ = some (.string s) := (blk_cell hkg2 j).trans (hcur j _ (hcell.out j s hsj))
      have hsk : s ∈ keysK L := (hmem.out s).1 (by rw [hs]; exact List.getElem_mem hjB)
      obtain ⟨t, ht⟩ := get_some_of s L hsk
      obtain ⟨z1, z2, z3⟩ := hz.out _ (get_mem s t L ht)
      simp only at z1 z2 z3
      have hnot : s ∉ NB.take j := by
        intro q
        obtain ⟨i, hi, he⟩ := List.mem_iff_getElem.1 q
        rw [List.length_take] at hi
        rw [List.getElem_take] at he
        have := (List.pairwise_iff_getElem.1 hndB) i j (by omega) hjB (by omega)
        exact this (by rw [he, hs])
      have hgt : getK s (mapV (mixF key k2 (NB.take j)) L) = some (sealS key s t) := by
        rw [get_mapV, ht]
        show some (mixF key k2 (NB.take j) s t) = _
        unfold mixF
        rw [if_neg hnot]
      have hstep : putK s (sealS k2 s t) (mapV (mixF key k2 (NB.take j)) L) = mapV (mixF key k2 (NB.take (j + 1))) L := by
        rw [mix_step key k2 _ s t L ht hnd, List.take_add_one, hsj]
        rfl
      have hG := fun w h => Get_some w V M key (mapV (mixF key k2 (NB.take j)) L) s t h hgt hk (by omega) z3 z1
      have hS := fun w => vSeal_c k2 s t z1 (by omega) (by omega) (by omega) w
      generalize sealS k2 s t = X at hstep hS
      clear hgt
      replace hG := Lib.hid hG
      replace hS := Lib.hid hS
      replace hstep := Lib.hid hstep
      replace hnd := Lib.hid hnd
      clear hkg hkg2 hcur hvs hs hsj ht hnot hsk
      go_wp2_with (first | (go_at_call 8; refine (hG.out _ ⟨hV, hM⟩).mono ?_; rintro e w2 ⟨rfl, hb2⟩; have hV2 := grow_blk hb2 hV; have hM2 := hM.grow hb2) | (go_at_call 15; refine (hS.out _).mono ?_; rintro e w3 ⟨rfl, hb3⟩; have hV3 := grow_blk hb3 hV2; have hM3 := hM2.grow hb3; have c1 := blk_cell hV3 1; obtain ⟨es, ck, hu, hm⟩ := map_put (P := Tryz.prog) (s := s) Tryz.underlying26 Tryz.underlying9 hM3 X; replace hm := Lib.hid hm))
      go_roundw
      case measure => simp [RowKit.intOf] <;> omega
      have hm2 := hm.out
      rw [hstep.out] at hm2
      refine ⟨j + 1, by omega, congrArg (Value.int .i64) (by omega), setM_far hV3 hVM _ _, hm2, ?_, ?_⟩
      · exact ((hT.grow hb2).grow hb3).trans turned_setM
      · exact ((hT2.grow hb2).grow hb3).trans turned_setM
    · obtain rfl : j = n := by omega
      have hltI : ¬ (j : Int) < (j : Int) := by omega
      have hall : mapV (mixF key k2 (NB.take j)) L = mapV (sealS k2) L := by
        refine mix_all key k2 L _ fun s hs => ?_
        rw [List.take_of_length_le (by rw [hBl.out]; exact Nat.le_refl _)]
        exact (hmem.out s).2 hs
      rw [hall] at hM
      have f0 := blk_frozen hV 0
      have c0 := blk_cell hV 0
      clear hall
      go_wp2_with fail
      have hV4 := blk_set hV 0 (.string k2)
      exact bodyPost_ret (v := .int .i64 0) (by simp [results, Tryz.results12, go_sem]) rfl ⟨rfl, ⟨hV4, blk_far hM (Ne.symm hVM) _⟩, (hT.mono (fun b hb => .inr hb)).trans ((turned_set _ _ _).mono (fun b hb => .inl hb))⟩
end Go.Proofs.YthnackakgglhbaaGreat

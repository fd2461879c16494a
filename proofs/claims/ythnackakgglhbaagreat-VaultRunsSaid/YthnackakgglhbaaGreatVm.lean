/- The contract of sabretachelaw43.VaultRuns. -/
import Derived.Test.YthnackakgglhbaaGreatVi
import Derived.Deep.Slices
import Derived.Deep.Strs
import Derived.OpenShut
import Derived.ChangeArms
namespace Go.Proofs.YthnackakgglhbaaGreat
open Go.RowKit Go.Lib
set_option maxRecDepth 100000
set_option linter.unusedSimpArgs false
set_option linter.unusedVariables false
theorem awake43_c (w : World) : Calls Tryz.prog 4 #[] w fun e w' => e = .returned (.bool true) ∧ Below w.heap.size w w' := by
  have hS := fun w => vSeal_c ⟨#[107]⟩ ⟨#[108]⟩ ⟨#[116, 101, 120, 116]⟩ (by decide) (by decide) (by decide) (by decide) w
  have hz : (sealS ⟨#[107]⟩ ⟨#[108]⟩ ⟨#[116, 101, 120, 116]⟩).size = 20 := sealS_size _ _ _
  have ho := open_seal ⟨#[107]⟩ ⟨#[108]⟩ ⟨#[116, 101, 120, 116]⟩ (by decide)
  have hO := fun w => vOpen_c ⟨#[107]⟩ ⟨#[108]⟩ (sealS ⟨#[107]⟩ ⟨#[108]⟩ ⟨#[116, 101, 120, 116]⟩) (by decide) (by decide) (by decide) (by rw [hz]; decide) w
  rw [ho] at hO
  simp only [opT, opE] at hO
  generalize sealS ⟨#[107]⟩ ⟨#[108]⟩ ⟨#[116, 101, 120, 116]⟩ = s at hS hz hO
  clear ho
  have hz2 : (s.size : Int) = 20 := by omega
  go_enter Tryz.func4, Tryz.ntmps4
  go_wp2_with (first | (go_at_call 15; refine (hS _).mono ?_; rintro e w3 ⟨rfl, hb3⟩) | (go_at_call 16; refine (hO _).mono ?_; rintro e w4 ⟨rfl, hb4⟩))
  exact bodyPost_ret (v := .bool true) (by simp [results, Tryz.results4, go_sem]) rfl ⟨rfl, bl_call hb4 hb3⟩
/-- A text as bytes, the new block told: it may be written. -/
theorem wpList_convSBw {P : Program} {ops : Array Oper} {rest : List Oper} {o : Oper} {a : Act} {w : World} {Q : Exit → Act → World → Prop} {src dst e : TypeId} {x : Operand} {s : ByteArray} (hg : o.guard = none) (ho : o.op = .convert src dst x) (hx : a.eval x = .string s)
    (hs : P.underlying src = some .string) (hd : P.underlying dst = some (.slice e)) (he : P.underlying e = some (.int .u8))
    (h : ∀ cap cur w', s.size ≤ cap → w'.heap[w.heap.size]? = some (.cells cur e (cur.size, cur.size + 1)) → (∀ k, k < s.size → cur[k]? = some (.int .u8 (s.data.toList.getD k 0).toNat)) → Below w.heap.size w w' → wpList P ops Q rest (a.put o.dst (.slice (some ⟨w.heap.size, 0, none⟩) s.size cap)) w') : wpList P ops Q (o :: rest) a w := by
  refine wpList_plain hg fun K hK => ?_
  have hc : ∀ k, k < s.size → (bytesCells w e s)[k]? = some (.int .u8 (s.data.toList.getD k 0).toNat) := fun k hk => by
    rw [← bytesWorld_cell w e s k hk]
    simp [World.cell?, bytesWorld_at_new w e s]
  have main := h (grownCap w s.size 0 e) _ _ (grownCap_ge w s.size 0 e) (bytesWorld_at_new w e s) hc ⟨rfl, rfl, rfl, by rw [bytesWorld_size]; omega, fun k hk => bytesWorld_at_old w e s k hk⟩
  have hr := Go.Lib.run_convert_string_bytes w src dst e s hs hd he
  have e1 : (execOp a.eval o).run P w = .ok (.value (.slice (some ⟨w.heap.size, 0, none⟩) s.size (grownCap w s.size 0 e))) (bytesWorld w e s) := by
    unfold execOp
    simp only [ho, hx]
    rw [Sem.run_bind, hr]
    rfl
  unfold Oper.wp
  rw [e1, Oper.upon_value]
  exact hK _ _ main
theorem fz_at {w : World} {g i : Nat} {cur : Array Value} {T : TypeId} (hk : w.heap[g]? = some (.cells cur T (cur.size, cur.size + 1))) (hi : i < cur.size) : w.frozen? ⟨g, i, none⟩ = false := by
  simp [World.frozen?, hk]
  omega
theorem set_at {w : World} {g i : Nat} {cur : Array Value} {T : TypeId} {fr : Nat × Nat} (hk : w.heap[g]? = some (.cells cur T fr)) (v : Value) : (w.setCell ⟨g, i, none⟩ v).heap[g]? = some (.cells (cur.setIfInBounds i v) T fr) := by
  simp [World.setCell, Array.getElem?_modify, hk]
structure Dd where
  k : Nat
  l : ByteArray
  t : ByteArray
/-- A row of deeds. -/
def RowD (w : World) (sv : Value) (ds : List Dd) : Prop := ∃ ao cap, sv = .slice ao ds.length cap ∧ ∀ j (h : j < ds.length), ∃ g off, ao = some ⟨g, off, none⟩ ∧ w.cell? ⟨g, off + j * 3, none⟩ = some (.int .u8 (ds[j].k : Int)) ∧ w.cell? ⟨g, off + j * 3 + 1, none⟩ = some (.string ds[j].l) ∧ w.cell? ⟨g, off + j * 3 + 2, none⟩ = some (.string ds[j].t)
theorem apart_blk {F : Nat → Prop} {w w' : World} {g : Nat} {o : Obj} (h : Apart F w w') (hg : w.heap[g]? = some o) (hne : ¬ F g) : w'.heap[g]? = some o := (h.block g (blk_lt hg) hne).trans hg
theorem apart_bl {F : Nat → Prop} {B : Nat} {w0 w w' : World} (hb : Below B w0 w) (h : Apart F w w') (hB : ∀ b, F b → B ≤ b) (hw : B ≤ w.heap.size) : Below B w0 w' :=
  ⟨h.os.trans hb.os, h.tape.trans hb.tape, h.output.trans hb.output, Nat.le_trans hb.size h.size, fun b hlt => (h.block b (Nat.lt_of_lt_of_le hlt hw) (fun q => absurd (hB b q) (by omega))).trans (hb.block b hlt)⟩
theorem setM_bl {B M : Nat} {w0 w : World} {es : Array MapEntry} {ck : Nat} (hb : Below B w0 w) (hB : B ≤ M) (hw : B ≤ w.heap.size) : Below B w0 (setM w M es ck) := turned_bl hb turned_setM hB hw
/-- What the loop keeps. -/
structure VR (w0 : World) (V M H : Nat) (key : ByteArray) (L : KV) (j : Nat) (w : World) : Prop where
  hS : VS w V M key (mapV (sealS key) L)
  hH : MapIs w H L
  hB : Below w0.heap.size w0 w
  hk : key.size ≤ 100
  nd : (keysK L).Nodup
  al : ∀ p ∈ L, labB p.1 = true ∧ p.1.size ≤ 80 ∧ p.2.size ≤ 100
  ln : L.length ≤ j
theorem labsB_cell (L : KV) : ∀ (i : Nat) (s : ByteArray), (labsB L)[i]? = some s → ((labsK L).map Proofs.encStr)[i]? = some (.string s) := by
  intro i s hi
  unfold labsB at hi
  rw [List.getElem?_map] at hi ⊢
  cases hg : (labsK L)[i]? with
  | none => rw [hg] at hi; cases hi
  | some x =>
    rw [hg] at hi
    obtain rfl := Option.some.inj hi
    rfl
theorem labsB_lt (L : KV) (hnd : (keysK L).Nodup) : ∀ (k : Nat) (p s : ByteArray), (labsB L)[k]? = some p → (labsB L)[k + 1]? = some s → Op.bytesLess p.toList s.toList = true := by
  intro k p s hp hs
  unfold labsB at hp hs
  rw [List.getElem?_map] at hp hs
  cases hx : (labsK L)[k]? with
  | none => rw [hx] at hp; cases hp
  | some x =>
    cases hy : (labsK L)[k + 1]? with
    | none => rw [hy] at hs; cases hs
    | some y =>
      rw [hx] at hp
      rw [hy] at hs
      obtain rfl := Option.some.inj hp
      obtain rfl := Option.some.inj hs
      have tr : ∀ a b c : List UInt8, leB a b = true → leB b c = true → leB a c = true := fun a b c h1 h2 => by simp only [leB, decide_eq_true_eq] at *; exact List.le_trans h1 h2
      have tot : ∀ a b : List UInt8, (leB a b || leB b a) = true := fun a b => by simp only [leB, Bool.or_eq_true, decide_eq_true_eq]; exact List.le_total a b
      have hsort : (labsK L).Pairwise (fun a b => leB a b = true) := List.pairwise_mergeSort tr tot _
      obtain ⟨h1, e1⟩ := List.getElem?_eq_some_iff.1 hx
      obtain ⟨h2, e2⟩ := List.getElem?_eq_some_iff.1 hy
      have le := List.pairwise_iff_getElem.1 hsort k (k + 1) h1 h2 (by omega)
      have ne := List.pairwise_iff_getElem.1 (labsK_nodup L hnd) k (k + 1) h1 h2 (by omega)
      rw [e1, e2] at le ne
      simp only [leB, decide_eq_true_eq] at le
      rw [Proofs.bytesLess_eq, decide_eq_true_eq, ByteArray.toList_eq, ByteArray.toList_eq]
      show x < y
      apply Classical.byContradiction
      intro hn
      exact ne (List.le_antisymm le hn)
theorem put_len (s v : ByteArray) (L : KV) : (putK s v L).length ≤ L.length + 1 := by
  cases hg : getK s L with
  | none => rw [(put_new s v L 0 hg).2]; exact Nat.le_refl _
  | some u =>
    obtain ⟨_, _, _, _, h⟩ := find_yes s v L 0 0 u hg
    rw [h]; omega
theorem lab_size {s : ByteArray} (h : labB s = true) : 1 ≤ s.size ∧ s.size ≤ 64 := by
  unfold labB at h
  simp only [Bool.and_eq_true, decide_eq_true_eq] at h
  exact h.1
set_option maxHeartbeats 32000000 in
theorem VaultRuns_c (key0 : ByteArray) (ds : List Dd) (dv : Value) (hkd : ∀ d ∈ ds, d.k < 256) (w : World) (hrow : RowD w dv ds) : Calls Tryz.prog 3 #[.string key0, dv] w fun e w' => e = .returned (.bool true) ∧ Below w.heap.size w w' := by
  obtain ⟨ao, cap, rfl, hcell⟩ := hrow
  obtain ⟨n, hn⟩ : ∃ n, n = ds.length := ⟨_, rfl⟩
  rw [← hn]
  by_cases hk0 : key0.size ≤ 50
  case neg =>
    have q1 : 50 < (key0.size : Int) := by omega
    clear hcell
    go_enter Tryz.func3, Tryz.ntmps3
    go_wp2_with (go_at_call 4; refine (awake43_c _).mono ?_; rintro e w3 ⟨rfl, hb3⟩)
    exact bodyPost_ret (v := .bool true) (by simp [results, Tryz.results3, go_sem]) rfl ⟨rfl, hb3⟩
  have q1 : ¬ 50 < (key0.size : Int) := by omega
  by_cases hn12 : n ≤ 12
  case neg =>
    have q2 : 12 < (n : Int) := by omega
    clear hcell
    go_enter Tryz.func3, Tryz.ntmps3
    go_wp2_with (go_at_call 4; refine (awake43_c _).mono ?_; rintro e w3 ⟨rfl, hb3⟩)
    exact bodyPost_ret (v := .bool true) (by simp [results, Tryz.results3, go_sem]) rfl ⟨rfl, hb3⟩
  have q2 : ¬ 12 < (n : Int) := by omega
  replace hcell := Lib.hid hcell
  replace hn := Lib.hid hn
  replace hkd := Lib.hid hkd
  have hmk : ∀ W : World, (Instr.makeMap 26 none).run Tryz.prog W = .ok (.map (some W.heap.size)) (W.alloc (.map #[] 0)) := fun W => by simp [Instr.makeMap, Result.andThen]
  go_enter Tryz.func3, Tryz.ntmps3
  go_upto_region 7 with (first | (go_at_call 4; refine (awake43_c _).mono ?_; rintro e w1 ⟨rfl, hb1⟩) | (go_at_call 5; refine (vNew_c key0 _).mono ?_; rintro e w2 ⟨⟨V, M, rfl, hVw, hMw, hVS⟩, hb2⟩))
  obtain ⟨H, hH⟩ : ∃ H, H = w2.heap.size := ⟨_, rfl⟩
  rw [← hH]
  have s1 := hb1.size
  have s2 := hb2.size
  have hVlt := blk_lt hVS.kV
  have hMlt := hVS.kM.lt
  have hR0 : VR w V M H key0 [] 0 (w2.alloc (.map #[] 0)) := ⟨⟨blk_alloc hVS.kV _, blk_alloc hVS.kM _⟩, by rw [hH]; exact blk_new _ _, bl_alloc (bl_call hb2 hb1) _, by omega, by simp [keysK], by simp, Nat.le_refl _⟩
  have hB1 : w.heap.size ≤ V := by omega
  have hB2 : w.heap.size ≤ M := by omega
  have hB3 : w.heap.size ≤ H := by omega
  have hMH : M ≠ H := by omega
  have hVH : V ≠ H := by omega
  have hVM := hVS.ne
  refine gen_world fun W0 hW0 => ?_
  rw [← hW0] at hR0
  clear hW0 hVS hb1 hb2 hVlt hMlt hVw hMw s1 s2 hH hmk
  go_wp2_with fail
  go_loopw [43, 0] (fun i kv wr => ∃ (j : Nat) (key : ByteArray) (L : KV), j ≤ n ∧ i = .int .i64 (j : Int) ∧ kv = .string key ∧ VR w V M H key L j wr) (fun i _ _ => n - (RowKit.intOf i).toNat)
  case atStart => exact ⟨0, key0, [], by omega, rfl, rfl, hR0⟩
  case round =>
    clear hR0 hk0
    obtain ⟨j, key, L, hj, rfl, rfl, hR⟩ := hrel
    by_cases hlt : j < n
    case neg =>
      obtain rfl : j = n := by omega
      have hltI : ¬ (j : Int) < (j : Int) := by omega
      have hLa := Labels_c wr V M key (mapV (sealS key) L) L hR.hS (keys_mapV _ _) hR.nd (fun k hk => by obtain ⟨t, ht⟩ := get_some_of k L hk; have := (hR.al _ (get_mem k t L ht)).2.1; simp only at this; omega) (by have := hR.ln; omega)
      have hBB := hR.hB
      have hHH := hR.hH
      have hnd := hR.nd
      have hln := hR.ln
      have hlen := labsK_length L
      have hmem := labsB_mem L
      have hBl : (labsB L).length = (labsK L).length := List.length_map ..
      have hcl := labsB_cell L
      have hlt2 := labsB_lt L hnd
      have hle := len_m hHH
      have hel : (ents 0 L).toArray.size = L.length := by rw [List.size_toArray, ents_length]
      rw [hel] at hle
      generalize (labsK L).map Proofs.encStr = XS at hLa hcl
      obtain ⟨N, hN⟩ : ∃ N, N = (labsK L).length := ⟨_, rfl⟩
      rw [← hN] at hLa hBl hlen
      rw [← hlen] at hle
      clear hR hcell hN hel
      obtain ⟨NB, hNB⟩ : ∃ NB, NB = labsB L := ⟨_, rfl⟩
      rw [← hNB] at hmem hBl hcl hlt2
      clear hNB
      replace hcl := Lib.hid hcl
      replace hmem := Lib.hid hmem
      replace hBl := Lib.hid hBl
      replace hlt2 := Lib.hid hlt2
      have hN12 := Lib.hid (show N ≤ 12 by omega)
      replace hlen := Lib.hid hlen
      clear hle hln
      go_upto_region 54 with (go_at_call 14; refine hLa.mono ?_; rintro e w5 ⟨v, rfl, hrow, hb5⟩; obtain ⟨ao, cap, rfl⟩ := own_nil hrow)
      have hH5 := hHH.grow hb5
      have HB5 := bl_call hb5 hBB
      clear hLa hHH hBB
      go_loop [202] (fun i => ∃ (k : Nat), k ≤ N ∧ i = .int .i64 (k : Int)) (fun i => N - (RowKit.intOf i).toNat)
      case atStart => exact ⟨0, by omega, rfl⟩
      case round =>
        obtain ⟨k, hk, rfl⟩ := hrel
        by_cases hlt3 : k < N
        · have hltI3 : (k : Int) < (N : Int) := by omega
          have hN12I : (N : Int) ≤ 12 := by have := hN12.out; omega
          obtain ⟨g, cap2, cur, hvs, hgw, hkg, hcur⟩ := own_row hrow (by omega)
          obtain ⟨rfl, _, rfl⟩ := Value.slice.inj hvs
          have hjB : k < NB.length := by rw [hBl.out]; exact hlt3
          obtain ⟨s, hs⟩ : ∃ s, s = NB[k] := ⟨_, rfl⟩
          have hsj : NB[k]? = some s := by rw [List.getElem?_eq_getElem hjB, hs]
          have ck := (blk_cell hkg k).trans (hcur k _ (hcl.out k s hsj))
          have hsk : s ∈ keysK L := (hmem.out s).1 (by rw [hs]; exact List.getElem_mem hjB)
          obtain ⟨t, ht⟩ := get_some_of s L hsk
          have hl := map_get (P := Tryz.prog) (s := s) Tryz.underlying26 Tryz.underlying9 (Tryz.zeroValue9 w5) hH5 true
          rw [ht] at hl
          simp only [if_true, Option.getD_some, Option.isSome_some] at hl
          by_cases hk0 : k = 0
          · subst hk0
            clear hvs hs hsj hsk ht hkg hcur
            go_wp2_with fail
            go_round
            case measure => simp [RowKit.intOf] <;> omega
            exact ⟨1, by omega, rfl⟩
          · obtain ⟨k1, rfl⟩ : ∃ k1, k = k1 + 1 := ⟨k - 1, by omega⟩
            have hk1B : k1 < NB.length := by omega
            obtain ⟨p, hp⟩ : ∃ p, p = NB[k1] := ⟨_, rfl⟩
            have hpj : NB[k1]? = some p := by rw [List.getElem?_eq_getElem hk1B, hp]
            have cp := (blk_cell hkg k1).trans (hcur k1 _ (hcl.out k1 p hpj))
            have hbl : Op.bytesLess p.toList s.toList = true := hlt2.out k1 p s hpj hsj
            have hk1I : (0 : Int) < ((k1 + 1 : Nat) : Int) := by omega
            have hk2I : ((k1 + 1 : Nat) : Int) - 1 = (k1 : Int) := by omega
            have hk3I : (k1 : Int) < (N : Int) := by omega
            clear hvs hs hsj hsk ht hkg hcur hp hpj
            have hge : (binOp .geq 9 (.string p) (.string s)).run Tryz.prog w5 = .ok (.bool false) w5 := by
              have : binOp .geq 9 (.string p) (.string s) = pure (.bool !(Op.bytesLess p.toList s.toList)) := by simp [binOp, Op.stringOp]
              rw [this, hbl]; rfl
            go_wp2_with fail
            go_round
            case measure => simp [RowKit.intOf] <;> omega
            exact ⟨k1 + 1 + 1, by omega, congrArg (Value.int .i64) (by omega)⟩
        · obtain rfl : k = N := by omega
          have hltI3 : ¬ (k : Int) < (k : Int) := by omega
          have hle5 := len_m hH5
          have hel : (ents 0 L).toArray.size = k := by rw [List.size_toArray, ents_length]; exact hlen.out.symm
          rw [hel] at hle5
          clear hel
          go_wp2_with fail
          exact bodyPost_ret (v := .bool true) (by simp [results, Tryz.results3, go_sem]) rfl ⟨rfl, HB5⟩
    have hltI : (j : Int) < (n : Int) := by omega
    have hjd : j < ds.length := by rw [← hn.out]; exact hlt
    obtain ⟨g, off, hao, c0, c1, c2⟩ := hcell.out j hjd
    have hkj := hkd.out _ (List.getElem_mem hjd)
    obtain ⟨d, hd⟩ : ∃ d, d = ds[j] := ⟨_, rfl⟩
    rw [← hd] at c0 c1 c2 hkj
    clear hd
    obtain ⟨kd, lb, tx⟩ := d
    simp only at c0 c1 c2 hkj
    subst hao
    have b0 := c0
    replace c0 := grow_cell hR.hB c0
    replace c1 := grow_cell hR.hB c1
    replace c2 := grow_cell hR.hB c2
    clear b0
    by_cases hlb : lb.size ≤ 80
    case neg =>
      have hlbI : 80 < (lb.size : Int) := by omega
      go_upto_region 10 with fail
      obtain ⟨DB, hDB⟩ : ∃ DB, DB = wr.heap.size := ⟨_, rfl⟩
      have kD0 : (wr.alloc (.cells #[.int .u8 (kd : Int), .string lb, .string tx] 28)).heap[DB]? = some (.cells #[.int .u8 (kd : Int), .string lb, .string tx] 28 (0, 0)) := by rw [hDB]; exact blk_new _ _
      have hS0 : VS (wr.alloc (.cells #[.int .u8 (kd : Int), .string lb, .string tx] 28)) V M key (mapV (sealS key) L) := ⟨blk_alloc hR.hS.kV _, blk_alloc hR.hS.kM _⟩
      have hH0 : MapIs (wr.alloc (.cells #[.int .u8 (kd : Int), .string lb, .string tx] 28)) H L := blk_alloc hR.hH _
      have HB0 := bl_alloc hR.hB (.cells #[.int .u8 (kd : Int), .string lb, .string tx] 28)
      have hVD : V < DB := by rw [hDB]; exact blk_lt hR.hS.kV
      have hMD : M < DB := by rw [hDB]; exact hR.hS.kM.lt
      have hHD : H < DB := by rw [hDB]; exact hR.hH.lt
      rw [← hDB]
      refine gen_world fun W4 hW4 => ?_
      rw [← hW4] at kD0 hS0 hH0 HB0
      clear hW4 hDB c0 c1 c2
      have d0 := blk_cell kD0 0
      have d1 := blk_cell kD0 1
      have d2 := blk_cell kD0 2
      go_wp2_with fail
      exact bodyPost_ret (v := .bool true) (by simp [results, Tryz.results3, go_sem]) rfl ⟨rfl, HB0⟩
    have hlbI : ¬ 80 < (lb.size : Int) := by omega
    by_cases htx : tx.size ≤ 100
    case neg =>
      have htxI : 100 < (tx.size : Int) := by omega
      go_upto_region 10 with fail
      obtain ⟨DB, hDB⟩ : ∃ DB, DB = wr.heap.size := ⟨_, rfl⟩
      have kD0 : (wr.alloc (.cells #[.int .u8 (kd : Int), .string lb, .string tx] 28)).heap[DB]? = some (.cells #[.int .u8 (kd : Int), .string lb, .string tx] 28 (0, 0)) := by rw [hDB]; exact blk_new _ _
      have hS0 : VS (wr.alloc (.cells #[.int .u8 (kd : Int), .string lb, .string tx] 28)) V M key (mapV (sealS key) L) := ⟨blk_alloc hR.hS.kV _, blk_alloc hR.hS.kM _⟩
      have hH0 : MapIs (wr.alloc (.cells #[.int .u8 (kd : Int), .string lb, .string tx] 28)) H L := blk_alloc hR.hH _
      have HB0 := bl_alloc hR.hB (.cells #[.int .u8 (kd : Int), .string lb, .string tx] 28)
      have hVD : V < DB := by rw [hDB]; exact blk_lt hR.hS.kV
      have hMD : M < DB := by rw [hDB]; exact hR.hS.kM.lt
      have hHD : H < DB := by rw [hDB]; exact hR.hH.lt
      rw [← hDB]
      refine gen_world fun W4 hW4 => ?_
      rw [← hW4] at kD0 hS0 hH0 HB0
      clear hW4 hDB c0 c1 c2
      have d0 := blk_cell kD0 0
      have d1 := blk_cell kD0 1
      have d2 := blk_cell kD0 2
      go_wp2_with fail
      exact bodyPost_ret (v := .bool true) (by simp [results, Tryz.results3, go_sem]) rfl ⟨rfl, HB0⟩
    have htxI : ¬ 100 < (tx.size : Int) := by omega
    have hLab := fun w => rLabel_c lb (by omega) w
    have hjn : j < 12 := by omega
    obtain ⟨rk, hrk⟩ : ∃ rk : Nat, rk = kd % 5 := ⟨_, rfl⟩
    have e1 : (kd : Int) % 5 = (rk : Int) := by omega
    have e2 : Int.tmod (kd : Int) 5 = (rk : Int) := by rw [Int.tmod_eq_emod_of_nonneg (by omega), e1]
    have hrk5 : rk = 0 ∨ rk = 1 ∨ rk = 2 ∨ rk = 3 ∨ rk = 4 := by omega
    clear hrk hkj
    rcases hrk5 with rfl | rfl | rfl | rfl | rfl
    · as_aux_lemma =>
        cases hmay : labB lb
        case false =>
          go_upto_region 10 with fail
          obtain ⟨DB, hDB⟩ : ∃ DB, DB = wr.heap.size := ⟨_, rfl⟩
          have kD0 : (wr.alloc (.cells #[.int .u8 (kd : Int), .string lb, .string tx] 28)).heap[DB]? = some (.cells #[.int .u8 (kd : Int), .string lb, .string tx] 28 (0, 0)) := by rw [hDB]; exact blk_new _ _
          have hS0 : VS (wr.alloc (.cells #[.int .u8 (kd : Int), .string lb, .string tx] 28)) V M key (mapV (sealS key) L) := ⟨blk_alloc hR.hS.kV _, blk_alloc hR.hS.kM _⟩
          have hH0 : MapIs (wr.alloc (.cells #[.int .u8 (kd : Int), .string lb, .string tx] 28)) H L := blk_alloc hR.hH _
          have HB0 := bl_alloc hR.hB (.cells #[.int .u8 (kd : Int), .string lb, .string tx] 28)
          have hVD : V < DB := by rw [hDB]; exact blk_lt hR.hS.kV
          have hMD : M < DB := by rw [hDB]; exact hR.hS.kM.lt
          have hHD : H < DB := by rw [hDB]; exact hR.hH.lt
          rw [← hDB]
          refine gen_world fun W4 hW4 => ?_
          rw [← hW4] at kD0 hS0 hH0 HB0
          clear hW4 hDB c0 c1 c2
          have d0 := blk_cell kD0 0
          have d1 := blk_cell kD0 1
          have d2 := blk_cell kD0 2
          go_upto_region 13 with (go_at_call 6; refine (hLab _).mono ?_; rintro e w5 ⟨rfl, hb5⟩; have hS := hS0.grow hb5; have hH := hH0.grow hb5; have kD := grow_blk hb5 kD0; have HB := bl_call hb5 HB0)
          clear d0 d1 d2 hS0 hH0 kD0 HB0 hb5
          have hl := map_get (P := Tryz.prog) (s := lb) Tryz.underlying26 Tryz.underlying9 (Tryz.zeroValue9 w5) hH true
          simp only [if_true] at hl
          have d0 := blk_cell kD 0
          have d1 := blk_cell kD 1
          go_upto_region 15 with fail
          clear hl d0 d1 hLab
          have hnx : ∀ {w' : World}, Below w.heap.size w w' → VS w' V M key (mapV (sealS key) L) → MapIs w' H L → VR w V M H key L (j + 1) w' := fun a b c => ⟨b, c, a, hR.hk, hR.nd, hR.al, by have := hR.ln; omega⟩
          have hal := hR.al
          have hkk := hR.hk
          have hP := fun w h => Put_no w V M key (mapV (sealS key) L) lb tx h hmay
          clear hmay
          replace hP := Lib.hid hP
          have l1 := blk_cell kD 1
          have l2 := blk_cell kD 2
          go_upto_region 45 with (go_at_call 7; refine (hP.out _ hS).mono ?_; rintro e w6 ⟨rfl, hb6⟩; have hS6 := hS.grow hb6; have hH6 := hH.grow hb6; have kD6 := grow_blk hb6 kD; have HB6 := bl_call hb6 HB)
          clear l1 l2
          replace hS := hS6
          replace hH := hH6
          replace kD := kD6
          replace HB := HB6
          clear hS6 hH6 kD6 HB6 hb6 hP
          have hgv := fun t ht => get_mem (s := lb) (v := t) L ht
          clear hR
          go_upto_region 46 with fail
          cases hg2 : getK lb L
          case none =>
            have hl2 := map_get (P := Tryz.prog) (s := lb) Tryz.underlying26 Tryz.underlying9 (Tryz.zeroValue9 _) hH true
            rw [hg2] at hl2
            simp only [if_true, Option.getD_none, Option.isSome_none] at hl2
            have l1 := blk_cell kD 1
            have hSe := Sealed_c _ V M key (mapV (sealS key) L) lb hS
            rw [get_mapV, hg2] at hSe
            simp only [Option.map_none, Option.getD_none] at hSe
            have hnext := hnx HB hS hH
            clear hg2
            replace hSe := Lib.hid hSe
            replace hnext := Lib.hid hnext
            go_wp2_with (go_at_call 9; refine hSe.out.mono ?_; rintro e w9 ⟨rfl, rfl⟩)
            go_roundw
            case measure => simp [RowKit.intOf] <;> omega
            exact ⟨j + 1, key, L, by omega, congrArg (Value.int .i64) (by omega), rfl, hnext.out⟩
          case some t2 =>
            have hl2 := map_get (P := Tryz.prog) (s := lb) Tryz.underlying26 Tryz.underlying9 (Tryz.zeroValue9 _) hH true
            rw [hg2] at hl2
            simp only [if_true, Option.getD_some, Option.isSome_some] at hl2
            have hpa := hal _ (hgv t2 hg2)
            simp only at hpa
            have l1 := blk_cell kD 1
            have hSe := fun w h => Sealed_c w V M key (mapV (sealS key) L) lb h
            rw [get_mapV, hg2] at hSe
            simp only [Option.map_some, Option.getD_some] at hSe
            have hrS := fun w => rSeal_c key lb t2 (by omega) (by omega) (by omega) w
            have hnext := fun w hb a b => hnx (w' := w) hb a b
            generalize sealS key lb t2 = SX at hSe hrS
            clear hg2
            replace hSe := Lib.hid hSe
            replace hrS := Lib.hid hrS
            replace hnext := Lib.hid hnext
            go_wp2_with (first | (go_at_call 13; refine (hrS.out _).mono ?_; rintro e w8 ⟨rfl, hb8⟩; have hS8 := Lib.hid (hS.grow hb8); have hH8 := hH.grow hb8; have kD8 := grow_blk hb8 kD; have m1 := blk_cell kD8 1; have HB8 := bl_call hb8 HB) | (go_at_call 9; refine (hSe.out _ hS8.out).mono ?_; rintro e w9 ⟨rfl, rfl⟩))
            go_roundw
            case measure => simp [RowKit.intOf] <;> omega
            exact ⟨j + 1, key, L, by omega, congrArg (Value.int .i64) (by omega), rfl, hnext.out _ HB8 hS8.out hH8⟩
        case true =>
          go_upto_region 10 with fail
          obtain ⟨DB, hDB⟩ : ∃ DB, DB = wr.heap.size := ⟨_, rfl⟩
          have kD0 : (wr.alloc (.cells #[.int .u8 (kd : Int), .string lb, .string tx] 28)).heap[DB]? = some (.cells #[.int .u8 (kd : Int), .string lb, .string tx] 28 (0, 0)) := by rw [hDB]; exact blk_new _ _
          have hS0 : VS (wr.alloc (.cells #[.int .u8 (kd : Int), .string lb, .string tx] 28)) V M key (mapV (sealS key) L) := ⟨blk_alloc hR.hS.kV _, blk_alloc hR.hS.kM _⟩
          have hH0 : MapIs (wr.alloc (.cells #[.int .u8 (kd : Int), .string lb, .string tx] 28)) H L := blk_alloc hR.hH _
          have HB0 := bl_alloc hR.hB (.cells #[.int .u8 (kd : Int), .string lb, .string tx] 28)
          have hVD : V < DB := by rw [hDB]; exact blk_lt hR.hS.kV
          have hMD : M < DB := by rw [hDB]; exact hR.hS.kM.lt
          have hHD : H < DB := by rw [hDB]; exact hR.hH.lt
          rw [← hDB]
          refine gen_world fun W4 hW4 => ?_
          rw [← hW4] at kD0 hS0 hH0 HB0
          clear hW4 hDB c0 c1 c2
          have d0 := blk_cell kD0 0
          have d1 := blk_cell kD0 1
          have d2 := blk_cell kD0 2
          go_upto_region 13 with (go_at_call 6; refine (hLab _).mono ?_; rintro e w5 ⟨rfl, hb5⟩; have hS := hS0.grow hb5; have hH := hH0.grow hb5; have kD := grow_blk hb5 kD0; have HB := bl_call hb5 HB0)
          clear d0 d1 d2 hS0 hH0 kD0 HB0 hb5
          have hl := map_get (P := Tryz.prog) (s := lb) Tryz.underlying26 Tryz.underlying9 (Tryz.zeroValue9 w5) hH true
          simp only [if_true] at hl
          have d0 := blk_cell kD 0
          have d1 := blk_cell kD 1
          go_upto_region 15 with fail
          clear hl d0 d1 hLab
          have hlz := lab_size hmay
          have hP := fun w h => Put_c w V M key (mapV (sealS key) L) lb tx h (by rw [mapV_length]; have := hR.ln; omega) (by have := hR.hk; omega) (by omega) (by omega) hmay
          rw [put_mapV] at hP
          have hkk := hR.hk
          have hal : ∀ p ∈ putK lb tx L, labB p.1 = true ∧ p.1.size ≤ 80 ∧ p.2.size ≤ 100 := all_put lb tx ⟨hmay, hlb, htx⟩ L hR.al
          have hnx : ∀ {w' : World}, Below w.heap.size w w' → VS w' V M key (mapV (sealS key) (putK lb tx L)) → MapIs w' H (putK lb tx L) → VR w V M H key (putK lb tx L) (j + 1) w' := fun a b c => ⟨b, c, a, hkk, nodup_put lb tx L hR.nd, hal, by have := put_len lb tx L; have := hR.ln; omega⟩
          obtain ⟨es, ck, hu, hm⟩ := map_put (P := Tryz.prog) (s := lb) Tryz.underlying26 Tryz.underlying9 hH tx
          have l1 := blk_cell kD 1
          have l2 := blk_cell kD 2
          go_upto_region 20 with fail
          have hsz := Nat.le_of_lt (Nat.lt_of_le_of_lt hB3 hH.lt)
          have hS5 : VS (setM w5 H es ck) V M key (mapV (sealS key) L) := ⟨setM_far hS.kV hVH _ _, hS.kM.far hMH⟩
          have kD5 : (setM w5 H es ck).heap[DB]? = _ := setM_far kD (by omega) es ck
          have HB5 : Below w.heap.size w (setM w5 H es ck) := setM_bl HB hB3 hsz
          refine gen_world fun W6 hW6 => ?_
          rw [← hW6] at hm hS5 kD5 HB5
          clear hW6 hu l1 l2 hS hH kD HB hR hsz hmay
          replace hP := Lib.hid hP
          have l1 := blk_cell kD5 1
          have l2 := blk_cell kD5 2
          have hHlt := hm.lt
          go_upto_region 45 with (go_at_call 7; refine (hP.out _ hS5).mono ?_; rintro e w7 ⟨rfl, hm7, ht7⟩; have hS := (⟨turned_blk ht7 hS5.kV hVM, hm7⟩ : VS w7 V M key (mapV (sealS key) (putK lb tx L))); have hH : MapIs w7 H (putK lb tx L) := turned_blk ht7 hm (Ne.symm hMH); have kD := turned_blk ht7 kD5 (by omega); have HB := turned_bl HB5 ht7 hB2 (by omega))
          clear l1 l2 hS5 hm kD5 HB5 hP hHlt hm7 ht7
          have hgv := fun t ht => get_mem (s := lb) (v := t) (putK lb tx L) ht
          skip
          go_upto_region 46 with fail
          cases hg2 : getK lb (putK lb tx L)
          case none =>
            have hl2 := map_get (P := Tryz.prog) (s := lb) Tryz.underlying26 Tryz.underlying9 (Tryz.zeroValue9 _) hH true
            rw [hg2] at hl2
            simp only [if_true, Option.getD_none, Option.isSome_none] at hl2
            have l1 := blk_cell kD 1
            have hSe := Sealed_c _ V M key (mapV (sealS key) (putK lb tx L)) lb hS
            rw [get_mapV, hg2] at hSe
            simp only [Option.map_none, Option.getD_none] at hSe
            have hnext := hnx HB hS hH
            clear hg2
            replace hSe := Lib.hid hSe
            replace hnext := Lib.hid hnext
            go_wp2_with (go_at_call 9; refine hSe.out.mono ?_; rintro e w9 ⟨rfl, rfl⟩)
            go_roundw
            case measure => simp [RowKit.intOf] <;> omega
            exact ⟨j + 1, key, (putK lb tx L), by omega, congrArg (Value.int .i64) (by omega), rfl, hnext.out⟩
          case some t2 =>
            have hl2 := map_get (P := Tryz.prog) (s := lb) Tryz.underlying26 Tryz.underlying9 (Tryz.zeroValue9 _) hH true
            rw [hg2] at hl2
            simp only [if_true, Option.getD_some, Option.isSome_some] at hl2
            have hpa := hal _ (hgv t2 hg2)
            simp only at hpa
            have l1 := blk_cell kD 1
            have hSe := fun w h => Sealed_c w V M key (mapV (sealS key) (putK lb tx L)) lb h
            rw [get_mapV, hg2] at hSe
            simp only [Option.map_some, Option.getD_some] at hSe
            have hrS := fun w => rSeal_c key lb t2 (by omega) (by omega) (by omega) w
            have hnext := fun w hb a b => hnx (w' := w) hb a b
            generalize sealS key lb t2 = SX at hSe hrS
            clear hg2
            replace hSe := Lib.hid hSe
            replace hrS := Lib.hid hrS
            replace hnext := Lib.hid hnext
            go_wp2_with (first | (go_at_call 13; refine (hrS.out _).mono ?_; rintro e w8 ⟨rfl, hb8⟩; have hS8 := Lib.hid (hS.grow hb8); have hH8 := hH.grow hb8; have kD8 := grow_blk hb8 kD; have m1 := blk_cell kD8 1; have HB8 := bl_call hb8 HB) | (go_at_call 9; refine (hSe.out _ hS8.out).mono ?_; rintro e w9 ⟨rfl, rfl⟩))
            go_roundw
            case measure => simp [RowKit.intOf] <;> omega
            exact ⟨j + 1, key, (putK lb tx L), by omega, congrArg (Value.int .i64) (by omega), rfl, hnext.out _ HB8 hS8.out hH8⟩
    · as_aux_lemma =>
        cases hg1 : getK lb L
        case none =>
          go_upto_region 10 with fail
          obtain ⟨DB, hDB⟩ : ∃ DB, DB = wr.heap.size := ⟨_, rfl⟩
          have kD0 : (wr.alloc (.cells #[.int .u8 (kd : Int), .string lb, .string tx] 28)).heap[DB]? = some (.cells #[.int .u8 (kd : Int), .string lb, .string tx] 28 (0, 0)) := by rw [hDB]; exact blk_new _ _
          have hS0 : VS (wr.alloc (.cells #[.int .u8 (kd : Int), .string lb, .string tx] 28)) V M key (mapV (sealS key) L) := ⟨blk_alloc hR.hS.kV _, blk_alloc hR.hS.kM _⟩
          have hH0 : MapIs (wr.alloc (.cells #[.int .u8 (kd : Int), .string lb, .string tx] 28)) H L := blk_alloc hR.hH _
          have HB0 := bl_alloc hR.hB (.cells #[.int .u8 (kd : Int), .string lb, .string tx] 28)
          have hVD : V < DB := by rw [hDB]; exact blk_lt hR.hS.kV
          have hMD : M < DB := by rw [hDB]; exact hR.hS.kM.lt
          have hHD : H < DB := by rw [hDB]; exact hR.hH.lt
          rw [← hDB]
          refine gen_world fun W4 hW4 => ?_
          rw [← hW4] at kD0 hS0 hH0 HB0
          clear hW4 hDB c0 c1 c2
          have d0 := blk_cell kD0 0
          have d1 := blk_cell kD0 1
          have d2 := blk_cell kD0 2
          go_upto_region 13 with (go_at_call 6; refine (hLab _).mono ?_; rintro e w5 ⟨rfl, hb5⟩; have hS := hS0.grow hb5; have hH := hH0.grow hb5; have kD := grow_blk hb5 kD0; have HB := bl_call hb5 HB0)
          clear d0 d1 d2 hS0 hH0 kD0 HB0 hb5
          have hl := map_get (P := Tryz.prog) (s := lb) Tryz.underlying26 Tryz.underlying9 (Tryz.zeroValue9 w5) hH true
          simp only [if_true] at hl
          have d0 := blk_cell kD 0
          have d1 := blk_cell kD 1
          go_upto_region 15 with fail
          clear hl d0 d1 hLab
          have hnx : ∀ {w' : World}, Below w.heap.size w w' → VS w' V M key (mapV (sealS key) L) → MapIs w' H L → VR w V M H key L (j + 1) w' := fun a b c => ⟨b, c, a, hR.hk, hR.nd, hR.al, by have := hR.ln; omega⟩
          have hal := hR.al
          have hkk := hR.hk
          have hG := fun w h => Get_none w V M key (mapV (sealS key) L) lb h (by rw [get_mapV, hg1]; rfl)
          replace hG := Lib.hid hG
          have l1 := blk_cell kD 1
          go_upto_region 45 with (go_at_call 8; refine (hG.out _ hS).mono ?_; rintro e w6 ⟨rfl, hb6⟩; have hS6 := hS.grow hb6; have hH6 := hH.grow hb6; have kD6 := grow_blk hb6 kD; have HB6 := bl_call hb6 HB)
          clear l1
          replace hS := hS6
          replace hH := hH6
          replace kD := kD6
          replace HB := HB6
          clear hS6 hH6 kD6 HB6 hb6 hG hg1
          have hgv := fun t ht => get_mem (s := lb) (v := t) L ht
          clear hR
          go_upto_region 46 with fail
          cases hg2 : getK lb L
          case none =>
            have hl2 := map_get (P := Tryz.prog) (s := lb) Tryz.underlying26 Tryz.underlying9 (Tryz.zeroValue9 _) hH true
            rw [hg2] at hl2
            simp only [if_true, Option.getD_none, Option.isSome_none] at hl2
            have l1 := blk_cell kD 1
            have hSe := Sealed_c _ V M key (mapV (sealS key) L) lb hS
            rw [get_mapV, hg2] at hSe
            simp only [Option.map_none, Option.getD_none] at hSe
            have hnext := hnx HB hS hH
            clear hg2
            replace hSe := Lib.hid hSe
            replace hnext := Lib.hid hnext
            go_wp2_with (go_at_call 9; refine hSe.out.mono ?_; rintro e w9 ⟨rfl, rfl⟩)
            go_roundw
            case measure => simp [RowKit.intOf] <;> omega
            exact ⟨j + 1, key, L, by omega, congrArg (Value.int .i64) (by omega), rfl, hnext.out⟩
          case some t2 =>
            have hl2 := map_get (P := Tryz.prog) (s := lb) Tryz.underlying26 Tryz.underlying9 (Tryz.zeroValue9 _) hH true
            rw [hg2] at hl2
            simp only [if_true, Option.getD_some, Option.isSome_some] at hl2
            have hpa := hal _ (hgv t2 hg2)
            simp only at hpa
            have l1 := blk_cell kD 1
            have hSe := fun w h => Sealed_c w V M key (mapV (sealS key) L) lb h
            rw [get_mapV, hg2] at hSe
            simp only [Option.map_some, Option.getD_some] at hSe
            have hrS := fun w => rSeal_c key lb t2 (by omega) (by omega) (by omega) w
            have hnext := fun w hb a b => hnx (w' := w) hb a b
            generalize sealS key lb t2 = SX at hSe hrS
            clear hg2
            replace hSe := Lib.hid hSe
            replace hrS := Lib.hid hrS
            replace hnext := Lib.hid hnext
            go_wp2_with (first | (go_at_call 13; refine (hrS.out _).mono ?_; rintro e w8 ⟨rfl, hb8⟩; have hS8 := Lib.hid (hS.grow hb8); have hH8 := hH.grow hb8; have kD8 := grow_blk hb8 kD; have m1 := blk_cell kD8 1; have HB8 := bl_call hb8 HB) | (go_at_call 9; refine (hSe.out _ hS8.out).mono ?_; rintro e w9 ⟨rfl, rfl⟩))
            go_roundw
            case measure => simp [RowKit.intOf] <;> omega
            exact ⟨j + 1, key, L, by omega, congrArg (Value.int .i64) (by omega), rfl, hnext.out _ HB8 hS8.out hH8⟩
        case some t1 =>
          go_upto_region 10 with fail
          obtain ⟨DB, hDB⟩ : ∃ DB, DB = wr.heap.size := ⟨_, rfl⟩
          have kD0 : (wr.alloc (.cells #[.int .u8 (kd : Int), .string lb, .string tx] 28)).heap[DB]? = some (.cells #[.int .u8 (kd : Int), .string lb, .string tx] 28 (0, 0)) := by rw [hDB]; exact blk_new _ _
          have hS0 : VS (wr.alloc (.cells #[.int .u8 (kd : Int), .string lb, .string tx] 28)) V M key (mapV (sealS key) L) := ⟨blk_alloc hR.hS.kV _, blk_alloc hR.hS.kM _⟩
          have hH0 : MapIs (wr.alloc (.cells #[.int .u8 (kd : Int), .string lb, .string tx] 28)) H L := blk_alloc hR.hH _
          have HB0 := bl_alloc hR.hB (.cells #[.int .u8 (kd : Int), .string lb, .string tx] 28)
          have hVD : V < DB := by rw [hDB]; exact blk_lt hR.hS.kV
          have hMD : M < DB := by rw [hDB]; exact hR.hS.kM.lt
          have hHD : H < DB := by rw [hDB]; exact hR.hH.lt
          rw [← hDB]
          refine gen_world fun W4 hW4 => ?_
          rw [← hW4] at kD0 hS0 hH0 HB0
          clear hW4 hDB c0 c1 c2
          have d0 := blk_cell kD0 0
          have d1 := blk_cell kD0 1
          have d2 := blk_cell kD0 2
          go_upto_region 13 with (go_at_call 6; refine (hLab _).mono ?_; rintro e w5 ⟨rfl, hb5⟩; have hS := hS0.grow hb5; have hH := hH0.grow hb5; have kD := grow_blk hb5 kD0; have HB := bl_call hb5 HB0)
          clear d0 d1 d2 hS0 hH0 kD0 HB0 hb5
          have hl := map_get (P := Tryz.prog) (s := lb) Tryz.underlying26 Tryz.underlying9 (Tryz.zeroValue9 w5) hH true
          simp only [if_true] at hl
          have d0 := blk_cell kD 0
          have d1 := blk_cell kD 1
          go_upto_region 15 with fail
          clear hl d0 d1 hLab
          have hnx : ∀ {w' : World}, Below w.heap.size w w' → VS w' V M key (mapV (sealS key) L) → MapIs w' H L → VR w V M H key L (j + 1) w' := fun a b c => ⟨b, c, a, hR.hk, hR.nd, hR.al, by have := hR.ln; omega⟩
          have hal := hR.al
          have hkk := hR.hk
          have hp1 := hal _ (get_mem lb t1 L hg1)
          simp only at hp1
          have hG := fun w h => Get_some w V M key (mapV (sealS key) L) lb t1 h (by rw [get_mapV, hg1]; rfl) (by omega) (by omega) (by omega) hp1.1
          replace hG := Lib.hid hG
          have l1 := blk_cell kD 1
          go_upto_region 45 with (go_at_call 8; refine (hG.out _ hS).mono ?_; rintro e w6 ⟨rfl, hb6⟩; have hS6 := hS.grow hb6; have hH6 := hH.grow hb6; have kD6 := grow_blk hb6 kD; have HB6 := bl_call hb6 HB)
          clear l1
          replace hS := hS6
          replace hH := hH6
          replace kD := kD6
          replace HB := HB6
          clear hS6 hH6 kD6 HB6 hb6 hG hg1
          have hgv := fun t ht => get_mem (s := lb) (v := t) L ht
          clear hR
          go_upto_region 46 with fail
          cases hg2 : getK lb L
          case none =>
            have hl2 := map_get (P := Tryz.prog) (s := lb) Tryz.underlying26 Tryz.underlying9 (Tryz.zeroValue9 _) hH true
            rw [hg2] at hl2
            simp only [if_true, Option.getD_none, Option.isSome_none] at hl2
            have l1 := blk_cell kD 1
            have hSe := Sealed_c _ V M key (mapV (sealS key) L) lb hS
            rw [get_mapV, hg2] at hSe
            simp only [Option.map_none, Option.getD_none] at hSe
            have hnext := hnx HB hS hH
            clear hg2
            replace hSe := Lib.hid hSe
            replace hnext := Lib.hid hnext
            go_wp2_with (go_at_call 9; refine hSe.out.mono ?_; rintro e w9 ⟨rfl, rfl⟩)
            go_roundw
            case measure => simp [RowKit.intOf] <;> omega
            exact ⟨j + 1, key, L, by omega, congrArg (Value.int .i64) (by omega), rfl, hnext.out⟩
          case some t2 =>
            have hl2 := map_get (P := Tryz.prog) (s := lb) Tryz.underlying26 Tryz.underlying9 (Tryz.zeroValue9 _) hH true
            rw [hg2] at hl2
            simp only [if_true, Option.getD_some, Option.isSome_some] at hl2
            have hpa := hal _ (hgv t2 hg2)
            simp only at hpa
            have l1 := blk_cell kD 1
            have hSe := fun w h => Sealed_c w V M key (mapV (sealS key) L) lb h
            rw [get_mapV, hg2] at hSe
            simp only [Option.map_some, Option.getD_some] at hSe
            have hrS := fun w => rSeal_c key lb t2 (by omega) (by omega) (by omega) w
            have hnext := fun w hb a b => hnx (w' := w) hb a b
            generalize sealS key lb t2 = SX at hSe hrS
            clear hg2
            replace hSe := Lib.hid hSe
            replace hrS := Lib.hid hrS
            replace hnext := Lib.hid hnext
            go_wp2_with (first | (go_at_call 13; refine (hrS.out _).mono ?_; rintro e w8 ⟨rfl, hb8⟩; have hS8 := Lib.hid (hS.grow hb8); have hH8 := hH.grow hb8; have kD8 := grow_blk hb8 kD; have m1 := blk_cell kD8 1; have HB8 := bl_call hb8 HB) | (go_at_call 9; refine (hSe.out _ hS8.out).mono ?_; rintro e w9 ⟨rfl, rfl⟩))
            go_roundw
            case measure => simp [RowKit.intOf] <;> omega
            exact ⟨j + 1, key, L, by omega, congrArg (Value.int .i64) (by omega), rfl, hnext.out _ HB8 hS8.out hH8⟩
    · as_aux_lemma =>
        cases hg1 : getK lb L
        case none =>
          go_upto_region 10 with fail
          obtain ⟨DB, hDB⟩ : ∃ DB, DB = wr.heap.size := ⟨_, rfl⟩
          have kD0 : (wr.alloc (.cells #[.int .u8 (kd : Int), .string lb, .string tx] 28)).heap[DB]? = some (.cells #[.int .u8 (kd : Int), .string lb, .string tx] 28 (0, 0)) := by rw [hDB]; exact blk_new _ _
          have hS0 : VS (wr.alloc (.cells #[.int .u8 (kd : Int), .string lb, .string tx] 28)) V M key (mapV (sealS key) L) := ⟨blk_alloc hR.hS.kV _, blk_alloc hR.hS.kM _⟩
          have hH0 : MapIs (wr.alloc (.cells #[.int .u8 (kd : Int), .string lb, .string tx] 28)) H L := blk_alloc hR.hH _
          have HB0 := bl_alloc hR.hB (.cells #[.int .u8 (kd : Int), .string lb, .string tx] 28)
          have hVD : V < DB := by rw [hDB]; exact blk_lt hR.hS.kV
          have hMD : M < DB := by rw [hDB]; exact hR.hS.kM.lt
          have hHD : H < DB := by rw [hDB]; exact hR.hH.lt
          rw [← hDB]
          refine gen_world fun W4 hW4 => ?_
          rw [← hW4] at kD0 hS0 hH0 HB0
          clear hW4 hDB c0 c1 c2
          have d0 := blk_cell kD0 0
          have d1 := blk_cell kD0 1
          have d2 := blk_cell kD0 2
          go_upto_region 13 with (go_at_call 6; refine (hLab _).mono ?_; rintro e w5 ⟨rfl, hb5⟩; have hS := hS0.grow hb5; have hH := hH0.grow hb5; have kD := grow_blk hb5 kD0; have HB := bl_call hb5 HB0)
          clear d0 d1 d2 hS0 hH0 kD0 HB0 hb5
          have hl := map_get (P := Tryz.prog) (s := lb) Tryz.underlying26 Tryz.underlying9 (Tryz.zeroValue9 w5) hH true
          simp only [if_true] at hl
          have d0 := blk_cell kD 0
          have d1 := blk_cell kD 1
          go_upto_region 15 with fail
          clear hl d0 d1 hLab
          have hSe := fun w h => Sealed_c w V M key (mapV (sealS key) L) lb h
          rw [get_mapV, hg1] at hSe
          simp only [Option.map_none, Option.getD_none] at hSe
          replace hSe := Lib.hid hSe
          have l1 := blk_cell kD 1
          go_upto_region 32 with (go_at_call 9; refine (hSe.out _ hS).mono ?_; rintro e w6 ⟨rfl, rfl⟩)
          clear l1 hSe hg1
          have ho : openS key lb ⟨#[]⟩ = none := by unfold openS; rw [if_pos (.inl (by decide))]
          have z0 : (⟨#[]⟩ : ByteArray).size = 0 := rfl
          cases hmay : labB lb
          case false =>
            have hnx : ∀ {w' : World}, Below w.heap.size w w' → VS w' V M key (mapV (sealS key) L) → MapIs w' H L → VR w V M H key L (j + 1) w' := fun a b c => ⟨b, c, a, hR.hk, hR.nd, hR.al, by have := hR.ln; omega⟩
            have hal := hR.al
            have hkk := hR.hk
            have hO := fun w => rOpen_c key lb ⟨#[]⟩ (by omega) (by omega) (by omega) w
            rw [ho] at hO
            have f1 : opT none = ⟨#[]⟩ := rfl
            have f2 : opB none = false := rfl
            rw [f1, f2] at hO
            have hP := fun w h => Restore_bad w V M key (mapV (sealS key) L) lb ⟨#[]⟩ h hmay
            replace hO := Lib.hid hO
            replace hP := Lib.hid hP
            clear f1 f2 ho
            have l1 := blk_cell kD 1
            go_upto_region 45 with (first | (go_at_call 10; refine (hO.out _).mono ?_; rintro e w6 ⟨rfl, hb6⟩; have hS6 := hS.grow hb6; have hH6 := hH.grow hb6; have kD6 := grow_blk hb6 kD; have HB6 := bl_call hb6 HB; have m1 := blk_cell kD6 1) | (go_at_call 11; refine (hP.out _ hS6).mono ?_; rintro e w7 ⟨rfl, hb7⟩; have hS7 := hS6.grow hb7; have hH7 := hH6.grow hb7; have kD7 := grow_blk hb7 kD6; have HB7 := bl_call hb7 HB6))
            clear l1 m1 hS hH kD HB hS6 hH6 kD6 HB6 hb6 hb7 hP hO
            have hS := hS7
            have hH := hH7
            have kD := kD7
            have HB := HB7
            clear hS7 hH7 kD7 HB7
            have hgv := fun t ht => get_mem (s := lb) (v := t) L ht
            clear hR
            go_upto_region 46 with fail
            cases hg2 : getK lb L
            case none =>
              have hl2 := map_get (P := Tryz.prog) (s := lb) Tryz.underlying26 Tryz.underlying9 (Tryz.zeroValue9 _) hH true
              rw [hg2] at hl2
              simp only [if_true, Option.getD_none, Option.isSome_none] at hl2
              have l1 := blk_cell kD 1
              have hSe := Sealed_c _ V M key (mapV (sealS key) L) lb hS
              rw [get_mapV, hg2] at hSe
              simp only [Option.map_none, Option.getD_none] at hSe
              have hnext := hnx HB hS hH
              clear hg2
              replace hSe := Lib.hid hSe
              replace hnext := Lib.hid hnext
              go_wp2_with (go_at_call 9; refine hSe.out.mono ?_; rintro e w9 ⟨rfl, rfl⟩)
              go_roundw
              case measure => simp [RowKit.intOf] <;> omega
              exact ⟨j + 1, key, L, by omega, congrArg (Value.int .i64) (by omega), rfl, hnext.out⟩
            case some t2 =>
              have hl2 := map_get (P := Tryz.prog) (s := lb) Tryz.underlying26 Tryz.underlying9 (Tryz.zeroValue9 _) hH true
              rw [hg2] at hl2
              simp only [if_true, Option.getD_some, Option.isSome_some] at hl2
              have hpa := hal _ (hgv t2 hg2)
              simp only at hpa
              have l1 := blk_cell kD 1
              have hSe := fun w h => Sealed_c w V M key (mapV (sealS key) L) lb h
              rw [get_mapV, hg2] at hSe
              simp only [Option.map_some, Option.getD_some] at hSe
              have hrS := fun w => rSeal_c key lb t2 (by omega) (by omega) (by omega) w
              have hnext := fun w hb a b => hnx (w' := w) hb a b
              generalize sealS key lb t2 = SX at hSe hrS
              clear hg2
              replace hSe := Lib.hid hSe
              replace hrS := Lib.hid hrS
              replace hnext := Lib.hid hnext
              go_wp2_with (first | (go_at_call 13; refine (hrS.out _).mono ?_; rintro e w8 ⟨rfl, hb8⟩; have hS8 := Lib.hid (hS.grow hb8); have hH8 := hH.grow hb8; have kD8 := grow_blk hb8 kD; have m1 := blk_cell kD8 1; have HB8 := bl_call hb8 HB) | (go_at_call 9; refine (hSe.out _ hS8.out).mono ?_; rintro e w9 ⟨rfl, rfl⟩))
              go_roundw
              case measure => simp [RowKit.intOf] <;> omega
              exact ⟨j + 1, key, L, by omega, congrArg (Value.int .i64) (by omega), rfl, hnext.out _ HB8 hS8.out hH8⟩
          case true =>
            have hnx : ∀ {w' : World}, Below w.heap.size w w' → VS w' V M key (mapV (sealS key) L) → MapIs w' H L → VR w V M H key L (j + 1) w' := fun a b c => ⟨b, c, a, hR.hk, hR.nd, hR.al, by have := hR.ln; omega⟩
            have hal := hR.al
            have hkk := hR.hk
            have hO := fun w => rOpen_c key lb ⟨#[]⟩ (by omega) (by omega) (by omega) w
            rw [ho] at hO
            have f1 : opT none = ⟨#[]⟩ := rfl
            have f2 : opB none = false := rfl
            rw [f1, f2] at hO
            have hP := fun w h => Restore_no w V M key (mapV (sealS key) L) lb ⟨#[]⟩ h hmay (by omega) (by omega) (by omega) ho
            replace hO := Lib.hid hO
            replace hP := Lib.hid hP
            clear f1 f2 ho
            have l1 := blk_cell kD 1
            go_upto_region 45 with (first | (go_at_call 10; refine (hO.out _).mono ?_; rintro e w6 ⟨rfl, hb6⟩; have hS6 := hS.grow hb6; have hH6 := hH.grow hb6; have kD6 := grow_blk hb6 kD; have HB6 := bl_call hb6 HB; have m1 := blk_cell kD6 1) | (go_at_call 11; refine (hP.out _ hS6).mono ?_; rintro e w7 ⟨rfl, hb7⟩; have hS7 := hS6.grow hb7; have hH7 := hH6.grow hb7; have kD7 := grow_blk hb7 kD6; have HB7 := bl_call hb7 HB6))
            clear l1 m1 hS hH kD HB hS6 hH6 kD6 HB6 hb6 hb7 hP hO
            have hS := hS7
            have hH := hH7
            have kD := kD7
            have HB := HB7
            clear hS7 hH7 kD7 HB7
            have hgv := fun t ht => get_mem (s := lb) (v := t) L ht
            clear hR
            go_upto_region 46 with fail
            cases hg2 : getK lb L
            case none =>
              have hl2 := map_get (P := Tryz.prog) (s := lb) Tryz.underlying26 Tryz.underlying9 (Tryz.zeroValue9 _) hH true
              rw [hg2] at hl2
              simp only [if_true, Option.getD_none, Option.isSome_none] at hl2
              have l1 := blk_cell kD 1
              have hSe := Sealed_c _ V M key (mapV (sealS key) L) lb hS
              rw [get_mapV, hg2] at hSe
              simp only [Option.map_none, Option.getD_none] at hSe
              have hnext := hnx HB hS hH
              clear hg2
              replace hSe := Lib.hid hSe
              replace hnext := Lib.hid hnext
              go_wp2_with (go_at_call 9; refine hSe.out.mono ?_; rintro e w9 ⟨rfl, rfl⟩)
              go_roundw
              case measure => simp [RowKit.intOf] <;> omega
              exact ⟨j + 1, key, L, by omega, congrArg (Value.int .i64) (by omega), rfl, hnext.out⟩
            case some t2 =>
              have hl2 := map_get (P := Tryz.prog) (s := lb) Tryz.underlying26 Tryz.underlying9 (Tryz.zeroValue9 _) hH true
              rw [hg2] at hl2
              simp only [if_true, Option.getD_some, Option.isSome_some] at hl2
              have hpa := hal _ (hgv t2 hg2)
              simp only at hpa
              have l1 := blk_cell kD 1
              have hSe := fun w h => Sealed_c w V M key (mapV (sealS key) L) lb h
              rw [get_mapV, hg2] at hSe
              simp only [Option.map_some, Option.getD_some] at hSe
              have hrS := fun w => rSeal_c key lb t2 (by omega) (by omega) (by omega) w
              have hnext := fun w hb a b => hnx (w' := w) hb a b
              generalize sealS key lb t2 = SX at hSe hrS
              clear hg2
              replace hSe := Lib.hid hSe
              replace hrS := Lib.hid hrS
              replace hnext := Lib.hid hnext
              go_wp2_with (first | (go_at_call 13; refine (hrS.out _).mono ?_; rintro e w8 ⟨rfl, hb8⟩; have hS8 := Lib.hid (hS.grow hb8); have hH8 := hH.grow hb8; have kD8 := grow_blk hb8 kD; have m1 := blk_cell kD8 1; have HB8 := bl_call hb8 HB) | (go_at_call 9; refine (hSe.out _ hS8.out).mono ?_; rintro e w9 ⟨rfl, rfl⟩))
              go_roundw
              case measure => simp [RowKit.intOf] <;> omega
              exact ⟨j + 1, key, L, by omega, congrArg (Value.int .i64) (by omega), rfl, hnext.out _ HB8 hS8.out hH8⟩
        case some t1 =>
          have hp1 := hR.al _ (get_mem lb t1 L hg1)
          simp only at hp1
          have hmay := hp1.1
          rw [hmay] at hLab
          go_upto_region 10 with fail
          obtain ⟨DB, hDB⟩ : ∃ DB, DB = wr.heap.size := ⟨_, rfl⟩
          have kD0 : (wr.alloc (.cells #[.int .u8 (kd : Int), .string lb, .string tx] 28)).heap[DB]? = some (.cells #[.int .u8 (kd : Int), .string lb, .string tx] 28 (0, 0)) := by rw [hDB]; exact blk_new _ _
          have hS0 : VS (wr.alloc (.cells #[.int .u8 (kd : Int), .string lb, .string tx] 28)) V M key (mapV (sealS key) L) := ⟨blk_alloc hR.hS.kV _, blk_alloc hR.hS.kM _⟩
          have hH0 : MapIs (wr.alloc (.cells #[.int .u8 (kd : Int), .string lb, .string tx] 28)) H L := blk_alloc hR.hH _
          have HB0 := bl_alloc hR.hB (.cells #[.int .u8 (kd : Int), .string lb, .string tx] 28)
          have hVD : V < DB := by rw [hDB]; exact blk_lt hR.hS.kV
          have hMD : M < DB := by rw [hDB]; exact hR.hS.kM.lt
          have hHD : H < DB := by rw [hDB]; exact hR.hH.lt
          rw [← hDB]
          refine gen_world fun W4 hW4 => ?_
          rw [← hW4] at kD0 hS0 hH0 HB0
          clear hW4 hDB c0 c1 c2
          have d0 := blk_cell kD0 0
          have d1 := blk_cell kD0 1
          have d2 := blk_cell kD0 2
          go_upto_region 13 with (go_at_call 6; refine (hLab _).mono ?_; rintro e w5 ⟨rfl, hb5⟩; have hS := hS0.grow hb5; have hH := hH0.grow hb5; have kD := grow_blk hb5 kD0; have HB := bl_call hb5 HB0)
          clear d0 d1 d2 hS0 hH0 kD0 HB0 hb5
          have hl := map_get (P := Tryz.prog) (s := lb) Tryz.underlying26 Tryz.underlying9 (Tryz.zeroValue9 w5) hH true
          simp only [if_true] at hl
          have d0 := blk_cell kD 0
          have d1 := blk_cell kD 1
          go_upto_region 15 with fail
          clear hl d0 d1 hLab
          have hSe := fun w h => Sealed_c w V M key (mapV (sealS key) L) lb h
          rw [get_mapV, hg1] at hSe
          simp only [Option.map_some, Option.getD_some] at hSe
          have zx1 : 16 ≤ (sealS key lb t1).size := by have := sealS_size key lb t1; omega
          have zx : (sealS key lb t1).size ≤ 116 := by have := sealS_size key lb t1; omega
          generalize sealS key lb t1 = sx at hSe zx zx1
          replace hSe := Lib.hid hSe
          have hsI : 0 < (sx.size : Int) := by omega
          have l1 := blk_cell kD 1
          have l2 := blk_cell kD 2
          by_cases ht0 : tx.size = 0
          case pos =>
            have ht0I : ¬ 0 < (tx.size : Int) := by omega
            go_upto_region 32 with (go_at_call 9; refine (hSe.out _ hS).mono ?_; rintro e w6 ⟨rfl, rfl⟩)
            clear l1 l2 hSe hg1 ht0I ht0
            cases ho : openS key lb sx
            case none =>
              have hnx : ∀ {w' : World}, Below w.heap.size w w' → VS w' V M key (mapV (sealS key) L) → MapIs w' H L → VR w V M H key L (j + 1) w' := fun a b c => ⟨b, c, a, hR.hk, hR.nd, hR.al, by have := hR.ln; omega⟩
              have hal := hR.al
              have hkk := hR.hk
              have hO := fun w => rOpen_c key lb sx (by omega) (by omega) (by omega) w
              rw [ho] at hO
              have f1 : opT none = ⟨#[]⟩ := rfl
              have f2 : opB none = false := rfl
              rw [f1, f2] at hO
              have hP := fun w h => Restore_no w V M key (mapV (sealS key) L) lb sx h hmay (by omega) (by omega) (by omega) ho
              replace hO := Lib.hid hO
              replace hP := Lib.hid hP
              clear f1 f2 ho hmay
              have l1 := blk_cell kD 1
              go_upto_region 45 with (first | (go_at_call 10; refine (hO.out _).mono ?_; rintro e w6 ⟨rfl, hb6⟩; have hS6 := hS.grow hb6; have hH6 := hH.grow hb6; have kD6 := grow_blk hb6 kD; have HB6 := bl_call hb6 HB; have m1 := blk_cell kD6 1) | (go_at_call 11; refine (hP.out _ hS6).mono ?_; rintro e w7 ⟨rfl, hb7⟩; have hS7 := hS6.grow hb7; have hH7 := hH6.grow hb7; have kD7 := grow_blk hb7 kD6; have HB7 := bl_call hb7 HB6))
              clear l1 m1 hS hH kD HB hS6 hH6 kD6 HB6 hb6 hb7 hP hO
              have hS := hS7
              have hH := hH7
              have kD := kD7
              have HB := HB7
              clear hS7 hH7 kD7 HB7
              have hgv := fun t ht => get_mem (s := lb) (v := t) L ht
              clear hR
              go_upto_region 46 with fail
              cases hg2 : getK lb L
              case none =>
                have hl2 := map_get (P := Tryz.prog) (s := lb) Tryz.underlying26 Tryz.underlying9 (Tryz.zeroValue9 _) hH true
                rw [hg2] at hl2
                simp only [if_true, Option.getD_none, Option.isSome_none] at hl2
                have l1 := blk_cell kD 1
                have hSe := Sealed_c _ V M key (mapV (sealS key) L) lb hS
                rw [get_mapV, hg2] at hSe
                simp only [Option.map_none, Option.getD_none] at hSe
                have hnext := hnx HB hS hH
                clear hg2
                replace hSe := Lib.hid hSe
                replace hnext := Lib.hid hnext
                go_wp2_with (go_at_call 9; refine hSe.out.mono ?_; rintro e w9 ⟨rfl, rfl⟩)
                go_roundw
                case measure => simp [RowKit.intOf] <;> omega
                exact ⟨j + 1, key, L, by omega, congrArg (Value.int .i64) (by omega), rfl, hnext.out⟩
              case some t2 =>
                have hl2 := map_get (P := Tryz.prog) (s := lb) Tryz.underlying26 Tryz.underlying9 (Tryz.zeroValue9 _) hH true
                rw [hg2] at hl2
                simp only [if_true, Option.getD_some, Option.isSome_some] at hl2
                have hpa := hal _ (hgv t2 hg2)
                simp only at hpa
                have l1 := blk_cell kD 1
                have hSe := fun w h => Sealed_c w V M key (mapV (sealS key) L) lb h
                rw [get_mapV, hg2] at hSe
                simp only [Option.map_some, Option.getD_some] at hSe
                have hrS := fun w => rSeal_c key lb t2 (by omega) (by omega) (by omega) w
                have hnext := fun w hb a b => hnx (w' := w) hb a b
                generalize sealS key lb t2 = SX at hSe hrS
                clear hg2
                replace hSe := Lib.hid hSe
                replace hrS := Lib.hid hrS
                replace hnext := Lib.hid hnext
                go_wp2_with (first | (go_at_call 13; refine (hrS.out _).mono ?_; rintro e w8 ⟨rfl, hb8⟩; have hS8 := Lib.hid (hS.grow hb8); have hH8 := hH.grow hb8; have kD8 := grow_blk hb8 kD; have m1 := blk_cell kD8 1; have HB8 := bl_call hb8 HB) | (go_at_call 9; refine (hSe.out _ hS8.out).mono ?_; rintro e w9 ⟨rfl, rfl⟩))
                go_roundw
                case measure => simp [RowKit.intOf] <;> omega
                exact ⟨j + 1, key, L, by omega, congrArg (Value.int .i64) (by omega), rfl, hnext.out _ HB8 hS8.out hH8⟩
            case some t9 =>
              obtain ⟨hse, hts, _⟩ := seal_open key lb sx t9 ho
              have hkk := hR.hk
              have hO := fun w => rOpen_c key lb sx (by omega) (by omega) (by omega) w
              rw [ho] at hO
              have f1 : opT (some t9) = t9 := rfl
              have f2 : opB (some t9) = true := rfl
              rw [f1, f2] at hO
              have hP := fun w h => Restore_c w V M key (mapV (sealS key) L) lb sx t9 h (by rw [mapV_length]; have := hR.ln; omega) hmay (by omega) (by omega) (by omega) ho
              have hpm := put_mapV (sealS key) lb t9 L
              rw [hse] at hpm
              rw [hpm] at hP
              have hal : ∀ p ∈ putK lb t9 L, labB p.1 = true ∧ p.1.size ≤ 80 ∧ p.2.size ≤ 100 := all_put lb t9 ⟨hmay, hlb, by simp only; omega⟩ L hR.al
              have hnx : ∀ {w' : World}, Below w.heap.size w w' → VS w' V M key (mapV (sealS key) (putK lb t9 L)) → MapIs w' H (putK lb t9 L) → VR w V M H key (putK lb t9 L) (j + 1) w' := fun a b c => ⟨b, c, a, hkk, nodup_put lb t9 L hR.nd, hal, by have := put_len lb t9 L; have := hR.ln; omega⟩
              replace hO := Lib.hid hO
              replace hP := Lib.hid hP
              clear f1 f2 ho hse hpm
              have l1 := blk_cell kD 1
              go_upto_region 34 with (go_at_call 10; refine (hO.out _).mono ?_; rintro e w6 ⟨rfl, hb6⟩; have hS6 := hS.grow hb6; have hH6 := hH.grow hb6; have kD6 := grow_blk hb6 kD; have HB6 := bl_call hb6 HB; have m1 := blk_cell kD6 1)
              clear l1 hS hH kD HB hb6
              obtain ⟨es, ck, hu, hm⟩ := map_put (P := Tryz.prog) (s := lb) Tryz.underlying26 Tryz.underlying9 hH6 t9
              go_upto_region 39 with fail
              have hsz := Nat.le_of_lt (Nat.lt_of_le_of_lt hB3 hH6.lt)
              have hS5 : VS (setM w6 H es ck) V M key (mapV (sealS key) L) := ⟨setM_far hS6.kV hVH _ _, hS6.kM.far hMH⟩
              have kD5 : (setM w6 H es ck).heap[DB]? = _ := setM_far kD6 (by omega) es ck
              have HB5 : Below w.heap.size w (setM w6 H es ck) := setM_bl HB6 hB3 hsz
              refine gen_world fun W6 hW6 => ?_
              rw [← hW6] at hm hS5 kD5 HB5
              clear hW6 hu m1 hS6 hH6 kD6 HB6 hsz hmay
              have l1 := blk_cell kD5 1
              have hHlt := hm.lt
              go_upto_region 45 with (go_at_call 11; refine (hP.out _ hS5).mono ?_; rintro e w7 ⟨rfl, hm7, ht7⟩; have hS := (⟨turned_blk ht7 hS5.kV hVM, hm7⟩ : VS w7 V M key (mapV (sealS key) (putK lb t9 L))); have hH : MapIs w7 H (putK lb t9 L) := turned_blk ht7 hm (Ne.symm hMH); have kD := turned_blk ht7 kD5 (by omega); have HB := turned_bl HB5 ht7 hB2 (by omega))
              clear l1 hS5 hm kD5 HB5 hP hHlt hm7 ht7 hO
              have hgv := fun t ht => get_mem (s := lb) (v := t) (putK lb t9 L) ht
              clear hR
              go_upto_region 46 with fail
              cases hg2 : getK lb (putK lb t9 L)
              case none =>
                have hl2 := map_get (P := Tryz.prog) (s := lb) Tryz.underlying26 Tryz.underlying9 (Tryz.zeroValue9 _) hH true
                rw [hg2] at hl2
                simp only [if_true, Option.getD_none, Option.isSome_none] at hl2
                have l1 := blk_cell kD 1
                have hSe := Sealed_c _ V M key (mapV (sealS key) (putK lb t9 L)) lb hS
                rw [get_mapV, hg2] at hSe
                simp only [Option.map_none, Option.getD_none] at hSe
                have hnext := hnx HB hS hH
                clear hg2
                replace hSe := Lib.hid hSe
                replace hnext := Lib.hid hnext
                go_wp2_with (go_at_call 9; refine hSe.out.mono ?_; rintro e w9 ⟨rfl, rfl⟩)
                go_roundw
                case measure => simp [RowKit.intOf] <;> omega
                exact ⟨j + 1, key, (putK lb t9 L), by omega, congrArg (Value.int .i64) (by omega), rfl, hnext.out⟩
              case some t2 =>
                have hl2 := map_get (P := Tryz.prog) (s := lb) Tryz.underlying26 Tryz.underlying9 (Tryz.zeroValue9 _) hH true
                rw [hg2] at hl2
                simp only [if_true, Option.getD_some, Option.isSome_some] at hl2
                have hpa := hal _ (hgv t2 hg2)
                simp only at hpa
                have l1 := blk_cell kD 1
                have hSe := fun w h => Sealed_c w V M key (mapV (sealS key) (putK lb t9 L)) lb h
                rw [get_mapV, hg2] at hSe
                simp only [Option.map_some, Option.getD_some] at hSe
                have hrS := fun w => rSeal_c key lb t2 (by omega) (by omega) (by omega) w
                have hnext := fun w hb a b => hnx (w' := w) hb a b
                generalize sealS key lb t2 = SX at hSe hrS
                clear hg2
                replace hSe := Lib.hid hSe
                replace hrS := Lib.hid hrS
                replace hnext := Lib.hid hnext
                go_wp2_with (first | (go_at_call 13; refine (hrS.out _).mono ?_; rintro e w8 ⟨rfl, hb8⟩; have hS8 := Lib.hid (hS.grow hb8); have hH8 := hH.grow hb8; have kD8 := grow_blk hb8 kD; have m1 := blk_cell kD8 1; have HB8 := bl_call hb8 HB) | (go_at_call 9; refine (hSe.out _ hS8.out).mono ?_; rintro e w9 ⟨rfl, rfl⟩))
                go_roundw
                case measure => simp [RowKit.intOf] <;> omega
                exact ⟨j + 1, key, (putK lb t9 L), by omega, congrArg (Value.int .i64) (by omega), rfl, hnext.out _ HB8 hS8.out hH8⟩
          case neg =>
            have ht0I : 0 < (tx.size : Int) := by omega
            have htp : 0 < tx.size := by omega
            go_upto_region 30 with (first | (go_at_call 9; refine (hSe.out _ hS).mono ?_; rintro e w6 ⟨rfl, rfl⟩) | (refine wpList_convSBw rfl rfl rfl Tryz.underlying9 Tryz.underlying36 Tryz.underlying5 ?_; intro cap8 cur8 w8 hcap8 hk8 hc8 hb8))
            have hS8 := hS.grow hb8
            have hH8 := hH.grow hb8
            have kD8 := grow_blk hb8 kD
            have HB8 := bl_call hb8 HB
            have hDl := blk_lt kD
            obtain ⟨P, hP⟩ : ∃ g, g = w6.heap.size := ⟨_, rfl⟩
            rw [← hP] at hk8 ⊢
            have hPD : DB < P := by omega
            have hPw : w.heap.size ≤ P := by omega
            clear hP l1 l2 hS hH kD HB hb8 hDl
            have hcs : sx.size ≤ cur8.size := by
              rcases Nat.lt_or_ge (sx.size - 1) cur8.size with h | h
              · omega
              · have := hc8 (sx.size - 1) (by omega)
                rw [Array.getElem?_eq_none h] at this
                cases this
            obtain ⟨b0, hb0⟩ : ∃ b, b = sx.data.toList.getD 0 0 := ⟨_, rfl⟩
            have cr : w8.cell? ⟨P, 0, none⟩ = some (.int .u8 (b0.toNat : Int)) := by rw [cell_of_row w8 P 0 _ _ _ hk8, hc8 0 (by omega), hb0]
            have fr := fz_at hk8 (show 0 < cur8.size by omega)
            have hxo : bits .xor .u8 (b0.toNat : Int) ((tx[0]'htp).toNat : Int) = ((b0 ^^^ tx[0]'htp).toNat : Int) := xor_u8 b0 _
            obtain ⟨y8, hy8⟩ : ∃ y, y = tx[0]'htp := ⟨_, rfl⟩
            rw [← hy8] at hxo
            obtain ⟨LL, hLL⟩ : ∃ LL : List UInt8, LL = sx.data.toList.set 0 (b0 ^^^ y8) := ⟨_, rfl⟩
            have hLl : LL.length = sx.size := by rw [hLL, List.length_set, Array.length_toList]; rfl
            have hrow : ∀ W : World, W.heap[P]? = some (.cells (cur8.setIfInBounds 0 (.int .u8 (((b0 ^^^ y8).toNat : Nat) : Int))) 5 (cur8.size, cur8.size + 1)) → RowB W (.slice (some ⟨P, 0, none⟩) sx.size cap8) LL := fun W h => by
              rw [← hLl]
              refine RowB.of fun q hq => ?_
              rw [Nat.zero_add, cell_of_row W P q _ _ _ h, Array.getElem?_setIfInBounds]
              have hq2 : LL[q]? = some LL[q] := List.getElem?_eq_getElem hq
              have hqs : q < sx.size := by omega
              by_cases hqr : 0 = q
              · subst hqr
                rw [if_pos rfl, if_pos (by omega)]
                have h3 : LL[0]? = some (b0 ^^^ y8) := by rw [hLL, List.getElem?_set_self (by rw [Array.length_toList]; exact hqs)]
                rw [h3] at hq2
                rw [← Option.some.inj hq2]
                rfl
              · rw [if_neg hqr, hc8 q hqs]
                have h3 : LL[q]? = some (sx.data.toList.getD q 0) := by
                  rw [hLL, List.getElem?_set_ne hqr, List.getD_eq_getElem?_getD, List.getElem?_eq_getElem (by rw [Array.length_toList]; exact hqs)]
                  rfl
                rw [h3] at hq2
                rw [← Option.some.inj hq2]
                rfl
            have l2 := blk_cell kD8 2
            have htb : ((tx[0]'htp).toNat : Int) = (y8.toNat : Int) := by rw [hy8]
            replace hLL := Lib.hid hLL
            replace hb0 := Lib.hid hb0
            replace hrow := Lib.hid hrow
            clear hy8 hc8
            go_region
            go_upto_region 31 with fail
            refine gen_world fun W hW => ?_
            have hR8 : RowB W (.slice (some ⟨P, 0, none⟩) sx.size cap8) LL := by
              subst hW
              exact hrow.out _ (set_at hk8 _)
            have hS : VS W V M key (mapV (sealS key) L) := by subst hW; exact ⟨blk_far hS8.kV (by simp; omega) _, blk_far hS8.kM (by simp; omega) _⟩
            have hH : MapIs W H L := by subst hW; exact blk_far hH8 (by simp; omega) _
            have kD : W.heap[DB]? = some (.cells #[.int .u8 (kd : Int), .string lb, .string tx] 28 (0, 0)) := by subst hW; exact blk_far kD8 (by simp; omega) _
            have HB : Below w.heap.size w W := by subst hW; exact bl_drew (bl_set _ _ hPw HB8)
            clear hW hrow cr fr l2 hk8 hS8 hH8 kD8 HB8
            have hv1 := run_convBS hR8
            obtain ⟨s9, hs9⟩ : ∃ s1 : ByteArray, s1 = ⟨LL.toArray⟩ := ⟨_, rfl⟩
            rw [← hs9] at hv1
            have z9 : s9.size ≤ 116 := by rw [hs9, bsz]; omega
            clear hs9 hR8 hLL hb0 hxo htb hSe hg1 ht0I ht0 hcs hLl
            go_upto_region 32 with fail
            clear hv1
            cases ho : openS key lb s9
            case none =>
              have hnx : ∀ {w' : World}, Below w.heap.size w w' → VS w' V M key (mapV (sealS key) L) → MapIs w' H L → VR w V M H key L (j + 1) w' := fun a b c => ⟨b, c, a, hR.hk, hR.nd, hR.al, by have := hR.ln; omega⟩
              have hal := hR.al
              have hkk := hR.hk
              have hO := fun w => rOpen_c key lb s9 (by omega) (by omega) (by omega) w
              rw [ho] at hO
              have f1 : opT none = ⟨#[]⟩ := rfl
              have f2 : opB none = false := rfl
              rw [f1, f2] at hO
              have hP := fun w h => Restore_no w V M key (mapV (sealS key) L) lb s9 h hmay (by omega) (by omega) (by omega) ho
              replace hO := Lib.hid hO
              replace hP := Lib.hid hP
              clear f1 f2 ho hmay
              have l1 := blk_cell kD 1
              go_upto_region 45 with (first | (go_at_call 10; refine (hO.out _).mono ?_; rintro e w6 ⟨rfl, hb6⟩; have hS6 := hS.grow hb6; have hH6 := hH.grow hb6; have kD6 := grow_blk hb6 kD; have HB6 := bl_call hb6 HB; have m1 := blk_cell kD6 1) | (go_at_call 11; refine (hP.out _ hS6).mono ?_; rintro e w7 ⟨rfl, hb7⟩; have hS7 := hS6.grow hb7; have hH7 := hH6.grow hb7; have kD7 := grow_blk hb7 kD6; have HB7 := bl_call hb7 HB6))
              clear l1 m1 hS hH kD HB hS6 hH6 kD6 HB6 hb6 hb7 hP hO
              have hS := hS7
              have hH := hH7
              have kD := kD7
              have HB := HB7
              clear hS7 hH7 kD7 HB7
              have hgv := fun t ht => get_mem (s := lb) (v := t) L ht
              clear hR
              go_upto_region 46 with fail
              cases hg2 : getK lb L
              case none =>
                have hl2 := map_get (P := Tryz.prog) (s := lb) Tryz.underlying26 Tryz.underlying9 (Tryz.zeroValue9 _) hH true
                rw [hg2] at hl2
                simp only [if_true, Option.getD_none, Option.isSome_none] at hl2
                have l1 := blk_cell kD 1
                have hSe := Sealed_c _ V M key (mapV (sealS key) L) lb hS
                rw [get_mapV, hg2] at hSe
                simp only [Option.map_none, Option.getD_none] at hSe
                have hnext := hnx HB hS hH
                clear hg2
                replace hSe := Lib.hid hSe
                replace hnext := Lib.hid hnext
                go_wp2_with (go_at_call 9; refine hSe.out.mono ?_; rintro e w9 ⟨rfl, rfl⟩)
                go_roundw
                case measure => simp [RowKit.intOf] <;> omega
                exact ⟨j + 1, key, L, by omega, congrArg (Value.int .i64) (by omega), rfl, hnext.out⟩
              case some t2 =>
                have hl2 := map_get (P := Tryz.prog) (s := lb) Tryz.underlying26 Tryz.underlying9 (Tryz.zeroValue9 _) hH true
                rw [hg2] at hl2
                simp only [if_true, Option.getD_some, Option.isSome_some] at hl2
                have hpa := hal _ (hgv t2 hg2)
                simp only at hpa
                have l1 := blk_cell kD 1
                have hSe := fun w h => Sealed_c w V M key (mapV (sealS key) L) lb h
                rw [get_mapV, hg2] at hSe
                simp only [Option.map_some, Option.getD_some] at hSe
                have hrS := fun w => rSeal_c key lb t2 (by omega) (by omega) (by omega) w
                have hnext := fun w hb a b => hnx (w' := w) hb a b
                generalize sealS key lb t2 = SX at hSe hrS
                clear hg2
                replace hSe := Lib.hid hSe
                replace hrS := Lib.hid hrS
                replace hnext := Lib.hid hnext
                go_wp2_with (first | (go_at_call 13; refine (hrS.out _).mono ?_; rintro e w8 ⟨rfl, hb8⟩; have hS8 := Lib.hid (hS.grow hb8); have hH8 := hH.grow hb8; have kD8 := grow_blk hb8 kD; have m1 := blk_cell kD8 1; have HB8 := bl_call hb8 HB) | (go_at_call 9; refine (hSe.out _ hS8.out).mono ?_; rintro e w9 ⟨rfl, rfl⟩))
                go_roundw
                case measure => simp [RowKit.intOf] <;> omega
                exact ⟨j + 1, key, L, by omega, congrArg (Value.int .i64) (by omega), rfl, hnext.out _ HB8 hS8.out hH8⟩
            case some t9 =>
              obtain ⟨hse, hts, _⟩ := seal_open key lb s9 t9 ho
              have hkk := hR.hk
              have hO := fun w => rOpen_c key lb s9 (by omega) (by omega) (by omega) w
              rw [ho] at hO
              have f1 : opT (some t9) = t9 := rfl
              have f2 : opB (some t9) = true := rfl
              rw [f1, f2] at hO
              have hP := fun w h => Restore_c w V M key (mapV (sealS key) L) lb s9 t9 h (by rw [mapV_length]; have := hR.ln; omega) hmay (by omega) (by omega) (by omega) ho
              have hpm := put_mapV (sealS key) lb t9 L
              rw [hse] at hpm
              rw [hpm] at hP
              have hal : ∀ p ∈ putK lb t9 L, labB p.1 = true ∧ p.1.size ≤ 80 ∧ p.2.size ≤ 100 := all_put lb t9 ⟨hmay, hlb, by simp only; omega⟩ L hR.al
              have hnx : ∀ {w' : World}, Below w.heap.size w w' → VS w' V M key (mapV (sealS key) (putK lb t9 L)) → MapIs w' H (putK lb t9 L) → VR w V M H key (putK lb t9 L) (j + 1) w' := fun a b c => ⟨b, c, a, hkk, nodup_put lb t9 L hR.nd, hal, by have := put_len lb t9 L; have := hR.ln; omega⟩
              replace hO := Lib.hid hO
              replace hP := Lib.hid hP
              clear f1 f2 ho hse hpm
              have l1 := blk_cell kD 1
              go_upto_region 34 with (go_at_call 10; refine (hO.out _).mono ?_; rintro e w6 ⟨rfl, hb6⟩; have hS6 := hS.grow hb6; have hH6 := hH.grow hb6; have kD6 := grow_blk hb6 kD; have HB6 := bl_call hb6 HB; have m1 := blk_cell kD6 1)
              clear l1 hS hH kD HB hb6
              obtain ⟨es, ck, hu, hm⟩ := map_put (P := Tryz.prog) (s := lb) Tryz.underlying26 Tryz.underlying9 hH6 t9
              go_upto_region 39 with fail
              have hsz := Nat.le_of_lt (Nat.lt_of_le_of_lt hB3 hH6.lt)
              have hS5 : VS (setM w6 H es ck) V M key (mapV (sealS key) L) := ⟨setM_far hS6.kV hVH _ _, hS6.kM.far hMH⟩
              have kD5 : (setM w6 H es ck).heap[DB]? = _ := setM_far kD6 (by omega) es ck
              have HB5 : Below w.heap.size w (setM w6 H es ck) := setM_bl HB6 hB3 hsz
              refine gen_world fun W6 hW6 => ?_
              rw [← hW6] at hm hS5 kD5 HB5
              clear hW6 hu m1 hS6 hH6 kD6 HB6 hsz hmay
              have l1 := blk_cell kD5 1
              have hHlt := hm.lt
              go_upto_region 45 with (go_at_call 11; refine (hP.out _ hS5).mono ?_; rintro e w7 ⟨rfl, hm7, ht7⟩; have hS := (⟨turned_blk ht7 hS5.kV hVM, hm7⟩ : VS w7 V M key (mapV (sealS key) (putK lb t9 L))); have hH : MapIs w7 H (putK lb t9 L) := turned_blk ht7 hm (Ne.symm hMH); have kD := turned_blk ht7 kD5 (by omega); have HB := turned_bl HB5 ht7 hB2 (by omega))
              clear l1 hS5 hm kD5 HB5 hP hHlt hm7 ht7 hO
              have hgv := fun t ht => get_mem (s := lb) (v := t) (putK lb t9 L) ht
              clear hR
              go_upto_region 46 with fail
              cases hg2 : getK lb (putK lb t9 L)
              case none =>
                have hl2 := map_get (P := Tryz.prog) (s := lb) Tryz.underlying26 Tryz.underlying9 (Tryz.zeroValue9 _) hH true
                rw [hg2] at hl2
                simp only [if_true, Option.getD_none, Option.isSome_none] at hl2
                have l1 := blk_cell kD 1
                have hSe := Sealed_c _ V M key (mapV (sealS key) (putK lb t9 L)) lb hS
                rw [get_mapV, hg2] at hSe
                simp only [Option.map_none, Option.getD_none] at hSe
                have hnext := hnx HB hS hH
                clear hg2
                replace hSe := Lib.hid hSe
                replace hnext := Lib.hid hnext
                go_wp2_with (go_at_call 9; refine hSe.out.mono ?_; rintro e w9 ⟨rfl, rfl⟩)
                go_roundw
                case measure => simp [RowKit.intOf] <;> omega
                exact ⟨j + 1, key, (putK lb t9 L), by omega, congrArg (Value.int .i64) (by omega), rfl, hnext.out⟩
              case some t2 =>
                have hl2 := map_get (P := Tryz.prog) (s := lb) Tryz.underlying26 Tryz.underlying9 (Tryz.zeroValue9 _) hH true
                rw [hg2] at hl2
                simp only [if_true, Option.getD_some, Option.isSome_some] at hl2
                have hpa := hal _ (hgv t2 hg2)
                simp only at hpa
                have l1 := blk_cell kD 1
                have hSe := fun w h => Sealed_c w V M key (mapV (sealS key) (putK lb t9 L)) lb h
                rw [get_mapV, hg2] at hSe
                simp only [Option.map_some, Option.getD_some] at hSe
                have hrS := fun w => rSeal_c key lb t2 (by omega) (by omega) (by omega) w
                have hnext := fun w hb a b => hnx (w' := w) hb a b
                generalize sealS key lb t2 = SX at hSe hrS
                clear hg2
                replace hSe := Lib.hid hSe
                replace hrS := Lib.hid hrS
                replace hnext := Lib.hid hnext
                go_wp2_with (first | (go_at_call 13; refine (hrS.out _).mono ?_; rintro e w8 ⟨rfl, hb8⟩; have hS8 := Lib.hid (hS.grow hb8); have hH8 := hH.grow hb8; have kD8 := grow_blk hb8 kD; have m1 := blk_cell kD8 1; have HB8 := bl_call hb8 HB) | (go_at_call 9; refine (hSe.out _ hS8.out).mono ?_; rintro e w9 ⟨rfl, rfl⟩))
                go_roundw
                case measure => simp [RowKit.intOf] <;> omega
                exact ⟨j + 1, key, (putK lb t9 L), by omega, congrArg (Value.int .i64) (by omega), rfl, hnext.out _ HB8 hS8.out hH8⟩
    · as_aux_lemma =>
        go_upto_region 10 with fail
        obtain ⟨DB, hDB⟩ : ∃ DB, DB = wr.heap.size := ⟨_, rfl⟩
        have kD0 : (wr.alloc (.cells #[.int .u8 (kd : Int), .string lb, .string tx] 28)).heap[DB]? = some (.cells #[.int .u8 (kd : Int), .string lb, .string tx] 28 (0, 0)) := by rw [hDB]; exact blk_new _ _
        have hS0 : VS (wr.alloc (.cells #[.int .u8 (kd : Int), .string lb, .string tx] 28)) V M key (mapV (sealS key) L) := ⟨blk_alloc hR.hS.kV _, blk_alloc hR.hS.kM _⟩
        have hH0 : MapIs (wr.alloc (.cells #[.int .u8 (kd : Int), .string lb, .string tx] 28)) H L := blk_alloc hR.hH _
        have HB0 := bl_alloc hR.hB (.cells #[.int .u8 (kd : Int), .string lb, .string tx] 28)
        have hVD : V < DB := by rw [hDB]; exact blk_lt hR.hS.kV
        have hMD : M < DB := by rw [hDB]; exact hR.hS.kM.lt
        have hHD : H < DB := by rw [hDB]; exact hR.hH.lt
        rw [← hDB]
        refine gen_world fun W4 hW4 => ?_
        rw [← hW4] at kD0 hS0 hH0 HB0
        clear hW4 hDB c0 c1 c2
        have d0 := blk_cell kD0 0
        have d1 := blk_cell kD0 1
        have d2 := blk_cell kD0 2
        go_upto_region 13 with (go_at_call 6; refine (hLab _).mono ?_; rintro e w5 ⟨rfl, hb5⟩; have hS := hS0.grow hb5; have hH := hH0.grow hb5; have kD := grow_blk hb5 kD0; have HB := bl_call hb5 HB0)
        clear d0 d1 d2 hS0 hH0 kD0 HB0 hb5
        have hl := map_get (P := Tryz.prog) (s := lb) Tryz.underlying26 Tryz.underlying9 (Tryz.zeroValue9 w5) hH true
        simp only [if_true] at hl
        have d0 := blk_cell kD 0
        have d1 := blk_cell kD 1
        go_upto_region 15 with fail
        clear hl d0 d1 hLab
        have hT := fun w h => Turn_c w V M key tx L h hR.nd (fun p hp => ⟨(hR.al p hp).1, by have := (hR.al p hp).2.1; omega, by have := (hR.al p hp).2.2; omega⟩) (by have := hR.ln; omega) (by have := hR.hk; omega) (by omega)
        have hal := hR.al
        have hnx : ∀ {w' : World}, Below w.heap.size w w' → VS w' V M tx (mapV (sealS tx) (L)) → MapIs w' H (L) → VR w V M H tx (L) (j + 1) w' := fun a b c => ⟨b, c, a, htx, hR.nd, hR.al, by have := hR.ln; omega⟩
        replace hT := Lib.hid hT
        have l2 := blk_cell kD 2
        go_upto_region 45 with (go_at_call 12; refine (hT.out _ hS).mono ?_; rintro e w6 ⟨rfl, hS6, ht6⟩; have hH6 : MapIs w6 H L := apart_blk ht6 hH (by omega); have kD6 := apart_blk ht6 kD (by omega); have HB6 := apart_bl HB ht6 (by omega) (by have := hH.lt; omega))
        clear l2
        replace hS := hS6
        replace hH := hH6
        replace kD := kD6
        replace HB := HB6
        clear hS6 hH6 kD6 HB6 ht6 hT
        have hgv := fun t ht => get_mem (s := lb) (v := t) L ht
        clear hR
        go_upto_region 46 with fail
        cases hg2 : getK lb L
        case none =>
          have hl2 := map_get (P := Tryz.prog) (s := lb) Tryz.underlying26 Tryz.underlying9 (Tryz.zeroValue9 _) hH true
          rw [hg2] at hl2
          simp only [if_true, Option.getD_none, Option.isSome_none] at hl2
          have l1 := blk_cell kD 1
          have hSe := Sealed_c _ V M tx (mapV (sealS tx) L) lb hS
          rw [get_mapV, hg2] at hSe
          simp only [Option.map_none, Option.getD_none] at hSe
          have hnext := hnx HB hS hH
          clear hg2
          replace hSe := Lib.hid hSe
          replace hnext := Lib.hid hnext
          go_wp2_with (go_at_call 9; refine hSe.out.mono ?_; rintro e w9 ⟨rfl, rfl⟩)
          go_roundw
          case measure => simp [RowKit.intOf] <;> omega
          exact ⟨j + 1, tx, L, by omega, congrArg (Value.int .i64) (by omega), rfl, hnext.out⟩
        case some t2 =>
          have hl2 := map_get (P := Tryz.prog) (s := lb) Tryz.underlying26 Tryz.underlying9 (Tryz.zeroValue9 _) hH true
          rw [hg2] at hl2
          simp only [if_true, Option.getD_some, Option.isSome_some] at hl2
          have hpa := hal _ (hgv t2 hg2)
          simp only at hpa
          have l1 := blk_cell kD 1
          have hSe := fun w h => Sealed_c w V M tx (mapV (sealS tx) L) lb h
          rw [get_mapV, hg2] at hSe
          simp only [Option.map_some, Option.getD_some] at hSe
          have hrS := fun w => rSeal_c tx lb t2 (by omega) (by omega) (by omega) w
          have hnext := fun w hb a b => hnx (w' := w) hb a b
          generalize sealS tx lb t2 = SX at hSe hrS
          clear hg2
          replace hSe := Lib.hid hSe
          replace hrS := Lib.hid hrS
          replace hnext := Lib.hid hnext
          go_wp2_with (first | (go_at_call 13; refine (hrS.out _).mono ?_; rintro e w8 ⟨rfl, hb8⟩; have hS8 := Lib.hid (hS.grow hb8); have hH8 := hH.grow hb8; have kD8 := grow_blk hb8 kD; have m1 := blk_cell kD8 1; have HB8 := bl_call hb8 HB) | (go_at_call 9; refine (hSe.out _ hS8.out).mono ?_; rintro e w9 ⟨rfl, rfl⟩))
          go_roundw
          case measure => simp [RowKit.intOf] <;> omega
          exact ⟨j + 1, tx, L, by omega, congrArg (Value.int .i64) (by omega), rfl, hnext.out _ HB8 hS8.out hH8⟩
    · as_aux_lemma =>
        go_upto_region 10 with fail
        obtain ⟨DB, hDB⟩ : ∃ DB, DB = wr.heap.size := ⟨_, rfl⟩
        have kD0 : (wr.alloc (.cells #[.int .u8 (kd : Int), .string lb, .string tx] 28)).heap[DB]? = some (.cells #[.int .u8 (kd : Int), .string lb, .string tx] 28 (0, 0)) := by rw [hDB]; exact blk_new _ _
        have hS0 : VS (wr.alloc (.cells #[.int .u8 (kd : Int), .string lb, .string tx] 28)) V M key (mapV (sealS key) L) := ⟨blk_alloc hR.hS.kV _, blk_alloc hR.hS.kM _⟩
        have hH0 : MapIs (wr.alloc (.cells #[.int .u8 (kd : Int), .string lb, .string tx] 28)) H L := blk_alloc hR.hH _
        have HB0 := bl_alloc hR.hB (.cells #[.int .u8 (kd : Int), .string lb, .string tx] 28)
        have hVD : V < DB := by rw [hDB]; exact blk_lt hR.hS.kV
        have hMD : M < DB := by rw [hDB]; exact hR.hS.kM.lt
        have hHD : H < DB := by rw [hDB]; exact hR.hH.lt
        rw [← hDB]
        refine gen_world fun W4 hW4 => ?_
        rw [← hW4] at kD0 hS0 hH0 HB0
        clear hW4 hDB c0 c1 c2
        have d0 := blk_cell kD0 0
        have d1 := blk_cell kD0 1
        have d2 := blk_cell kD0 2
        go_upto_region 13 with (go_at_call 6; refine (hLab _).mono ?_; rintro e w5 ⟨rfl, hb5⟩; have hS := hS0.grow hb5; have hH := hH0.grow hb5; have kD := grow_blk hb5 kD0; have HB := bl_call hb5 HB0)
        clear d0 d1 d2 hS0 hH0 kD0 HB0 hb5
        have hl := map_get (P := Tryz.prog) (s := lb) Tryz.underlying26 Tryz.underlying9 (Tryz.zeroValue9 w5) hH true
        simp only [if_true] at hl
        have d0 := blk_cell kD 0
        have d1 := blk_cell kD 1
        go_upto_region 15 with fail
        clear hl d0 d1 hLab
        have hnx : ∀ {w' : World}, Below w.heap.size w w' → VS w' V M key (mapV (sealS key) L) → MapIs w' H L → VR w V M H key L (j + 1) w' := fun a b c => ⟨b, c, a, hR.hk, hR.nd, hR.al, by have := hR.ln; omega⟩
        have hal := hR.al
        have hkk := hR.hk
        go_upto_region 45 with fail
        have hgv := fun t ht => get_mem (s := lb) (v := t) L ht
        clear hR
        go_upto_region 46 with fail
        cases hg2 : getK lb L
        case none =>
          have hl2 := map_get (P := Tryz.prog) (s := lb) Tryz.underlying26 Tryz.underlying9 (Tryz.zeroValue9 _) hH true
          rw [hg2] at hl2
          simp only [if_true, Option.getD_none, Option.isSome_none] at hl2
          have l1 := blk_cell kD 1
          have hSe := Sealed_c _ V M key (mapV (sealS key) L) lb hS
          rw [get_mapV, hg2] at hSe
          simp only [Option.map_none, Option.getD_none] at hSe
          have hnext := hnx HB hS hH
          clear hg2
          replace hSe := Lib.hid hSe
          replace hnext := Lib.hid hnext
          go_wp2_with (go_at_call 9; refine hSe.out.mono ?_; rintro e w9 ⟨rfl, rfl⟩)
          go_roundw
          case measure => simp [RowKit.intOf] <;> omega
          exact ⟨j + 1, key, L, by omega, congrArg (Value.int .i64) (by omega), rfl, hnext.out⟩
        case some t2 =>
          have hl2 := map_get (P := Tryz.prog) (s := lb) Tryz.underlying26 Tryz.underlying9 (Tryz.zeroValue9 _) hH true
          rw [hg2] at hl2
          simp only [if_true, Option.getD_some, Option.isSome_some] at hl2
          have hpa := hal _ (hgv t2 hg2)
          simp only at hpa
          have l1 := blk_cell kD 1
          have hSe := fun w h => Sealed_c w V M key (mapV (sealS key) L) lb h
          rw [get_mapV, hg2] at hSe
          simp only [Option.map_some, Option.getD_some] at hSe
          have hrS := fun w => rSeal_c key lb t2 (by omega) (by omega) (by omega) w
          have hnext := fun w hb a b => hnx (w' := w) hb a b
          generalize sealS key lb t2 = SX at hSe hrS
          clear hg2
          replace hSe := Lib.hid hSe
          replace hrS := Lib.hid hrS
          replace hnext := Lib.hid hnext
          go_wp2_with (first | (go_at_call 13; refine (hrS.out _).mono ?_; rintro e w8 ⟨rfl, hb8⟩; have hS8 := Lib.hid (hS.grow hb8); have hH8 := hH.grow hb8; have kD8 := grow_blk hb8 kD; have m1 := blk_cell kD8 1; have HB8 := bl_call hb8 HB) | (go_at_call 9; refine (hSe.out _ hS8.out).mono ?_; rintro e w9 ⟨rfl, rfl⟩))
          go_roundw
          case measure => simp [RowKit.intOf] <;> omega
          exact ⟨j + 1, key, L, by omega, congrArg (Value.int .i64) (by omega), rfl, hnext.out _ HB8 hS8.out hH8⟩
section
open Go.ChangeShapes Go.WideShapes
theorem open_rowD {H : Type} {enc : TypeId × Value → H} {W : World} {base : Nat} {v : Value} {d : DataW H} {p : List MemPlace} (hval : Value.okWide Tryz.prog W .any base 22 v) (h : DataW.Trod enc Tryz.prog W 0 (fun _ => true) true 22 v d p) :
    ∃ es : List Dd, RowD W v es ∧ ∀ d ∈ es, d.k < 256 := by
  obtain ⟨a1, len, cap, rfl⟩ := okWide_slice Tryz.underlying22 hval
  obtain ⟨fuel, hf⟩ := h
  have hc : Tryz.prog.cellsOf 28 = 3 := by kernel_rfl
  have hc3 : Tryz.prog.cellsOf 5 = 1 := by kernel_rfl
  have hc4 : Tryz.prog.cellsOf 9 = 1 := by kernel_rfl
  rcases Go.Deep.open_slice Tryz.underlying22 hf with ⟨hcs, _⟩ | ⟨a, len', cap', m, n, D, Pl, hcs, _, hl, hm, hmm, _, hel⟩
  · simp [Value.cells] at hcs
    obtain ⟨rfl, rfl, rfl⟩ := hcs
    exact ⟨[], ⟨none, 0, rfl, fun j h => by simp at h⟩, fun e he => by simp at he⟩
  · simp [Value.cells] at hcs
    obtain ⟨rfl, rfl, rfl⟩ := hcs
    simp only [if_true] at hmm
    have each : ∀ j, j < len → ∃ e : Dd, W.cell? (a.add (j * 3)) = some (.int .u8 (e.k : Int)) ∧ W.cell? (a.add (j * 3 + 1)) = some (.string e.l) ∧ W.cell? (a.add (j * 3 + 2)) = some (.string e.t) ∧ e.k < 256 := by
      intro j hj
      obtain ⟨cs', h1, h2⟩ := hel j (by omega)
      rw [hc] at h1
      obtain ⟨_, hlen, hcell⟩ := World.cells?_some h1
      obtain ⟨y0, y1, y2, n2, _, _, g0, g1, g2⟩ := Go.Deep.trod_struct3 Tryz.underlying28 h2
      match cs', hlen with
      | [v0, v1, v2], _ =>
        have e0 := hcell 0 (by omega)
        have e1 := hcell 1 (by omega)
        have e2 := hcell 2 (by omega)
        rw [Go.Deep.add_add] at e0 e1 e2
        simp only [hc3, hc4, List.drop_zero, List.drop_succ_cons, List.take_succ_cons, List.take_zero] at g0 g1 g2
        obtain ⟨x0, q0, _, w0⟩ := DataW.trod_int Tryz.underlying5 g0
        obtain ⟨x1, q1, _, _⟩ := DataW.trod_string Tryz.underlying9 g1
        obtain ⟨x2, q2, _, _⟩ := DataW.trod_string Tryz.underlying9 g2
        simp only [List.cons.injEq, and_true] at q0 q1 q2
        subst q0 q1 q2
        simp [Lit.wf, IntKind.min, IntKind.max, IntKind.signed, IntKind.bits] at w0
        obtain ⟨nn, rfl⟩ : ∃ nn : Nat, x0 = (nn : Int) := ⟨x0.toNat, by omega⟩
        exact ⟨⟨nn, x1, x2⟩, by simpa using e0, by simpa using e1, by simpa using e2, by simp only; omega⟩
    obtain ⟨f, hf⟩ : ∃ f : Nat → Dd, ∀ j, j < len → W.cell? (a.add (j * 3)) = some (.int .u8 ((f j).k : Int)) ∧ W.cell? (a.add (j * 3 + 1)) = some (.string (f j).l) ∧ W.cell? (a.add (j * 3 + 2)) = some (.string (f j).t) ∧ (f j).k < 256 := by
      haveI : Inhabited Dd := ⟨⟨0, ByteArray.empty, ByteArray.empty⟩⟩
      exact Go.Deep.choose_lt each
    refine ⟨(List.range len).map f, ⟨some a, cap, by simp, fun j hj => ?_⟩, fun e he => ?_⟩
    · simp only [List.length_map, List.length_range] at hj
      obtain ⟨c0, c1, c2, _⟩ := hf j hj
      obtain ⟨ab, ao, spot⟩ := a
      have hspot : spot = none := by
        have h0 := (hf 0 (by omega)).1
        simpa [Addr.add] using World.cell?_spot h0
      subst hspot
      refine ⟨ab, ao, rfl, ?_⟩
      rw [Addr.add_lit] at c0 c1 c2
      simp only [List.getElem_map, List.getElem_range]
      exact ⟨c0, c1, c2⟩
    · obtain ⟨j, hj, rfl⟩ := List.mem_map.1 he
      exact (hf j (List.mem_range.1 hj)).2.2.2
end
end Go.Proofs.YthnackakgglhbaaGreat

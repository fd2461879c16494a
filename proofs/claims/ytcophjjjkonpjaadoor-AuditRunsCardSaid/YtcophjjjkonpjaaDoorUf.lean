/- Reference 44: Read. -/
import Derived.Test.YtcophjjjkonpjaaDoorUe
import Derived.Test.YtcophjjjkonpjaaDoorUd
import Derived.Test.YtcophjjjkonpjaaDoorSp7
import Derived.BigQuiet
namespace Go.Proofs.YtcophjjjkonpjaaDoor
open Go.RowKit
set_option maxRecDepth 100000
set_option linter.unusedSimpArgs false
set_option linter.unusedVariables false
attribute [local go_sem] evR_tmp evR_const evR_global evR_func
theorem rd_bad {X : RdR} {acc : List Rn} {n : Nat} {p q : List UInt8} {t : List (List UInt8)} (hX : X = appR acc (rdA n (p :: q :: t))) (h : readA p = none ∨ 10000 < n) : X = .bad n := by
  rw [hX]
  simp only [rdA]
  cases hr : readA p with
  | none => rfl
  | some r =>
    rcases h with h | h
    · rw [hr] at h; cases h
    · simp only []; rw [if_pos h]; rfl
theorem rd_ok {X : RdR} {acc : List Rn} {n : Nat} {p q : List UInt8} {t : List (List UInt8)} {r : Rn} (hX : X = appR acc (rdA n (p :: q :: t))) (h : readA p = some r) (hn : ¬ 10000 < n) : X = appR (acc ++ [r]) (rdA (n + 1) (q :: t)) := by
  rw [hX]
  simp only [rdA]
  rw [h]
  simp only []
  rw [if_neg hn]
  exact appR_one acc r _
theorem read_ofL (p h a b c d : List UInt8) (hl : splitL 32 p = [h, a, b, c, d]) : readA p = rdN h (numA a) (numA b) (numA c) (numA d) := by
  unfold readA
  rw [hl]
  rfl
theorem read_lenL (p : List UInt8) (h : (splitL 32 p).length ≠ 5) : readA p = none := by
  unfold readA
  split
  · rename_i hs
    rw [hs] at h
    exact absurd rfl h
  · rfl
theorem own_base {w : World} {b b' : Nat} {e : TypeId} {size : Nat} {sv : Value} {n : Nat} {xs : List Value} (hb : b' ≤ b) (h : w.ownsRow b e size sv n xs) : w.ownsRow b' e size sv n xs := by
  refine ⟨h.1, ?_⟩
  rcases h.2 with q | ⟨g, cap, cur, hv, h1, h2⟩
  · exact .inl q
  · exact .inr ⟨g, cap, cur, hv, by omega, h2⟩
/-- Split's row, told by its block. -/
theorem pSplit_c (l : List UInt8) (c : UInt8) (hs : l.length ≤ 100000) (w : World) : Calls Tryd.prog 19 #[.string ⟨l.toArray⟩, .int .u8 (c.toNat : Int)] w fun e w' => (∃ g cap, e = .returned (.slice (some ⟨g, 0, none⟩) (splitL c l).length cap) ∧ w.heap.size ≤ g ∧ ∃ cur : Array Value, w'.heap[g]? = some (.cells cur 9 (0, 0)) ∧ cur.toList.take (splitL c l).length = (splitL c l).map sv) ∧ Below w.heap.size w w' := by
  have hd : (⟨l.toArray⟩ : ByteArray).data.toList = l := by simp
  have h := rSplit_c ⟨l.toArray⟩ c (by show l.toArray.size ≤ _; rw [List.size_toArray]; exact hs) w
  rw [hd] at h
  refine h.mono ?_
  rintro e w' ⟨⟨g, cap, rfl, hO⟩, hb⟩
  refine ⟨⟨g, cap, rfl, ?_⟩, hb⟩
  rcases hO.2 with ⟨q, _⟩ | ⟨g', cap', cur, e, hb1, hk, h1, h2, h3, h4⟩
  · cases q
  · cases e
    exact ⟨hb1, cur, hk, by rw [Nat.mul_one] at h4; exact h4⟩
theorem str_cell {w : World} {g n : Nat} {cur : Array Value} {l : List (List UInt8)} (hk : w.heap[g]? = some (.cells cur 9 (0, 0))) (ht : cur.toList.take n = l.map sv) (hn : n = l.length) (i : Nat) (x : List UInt8) (hx : l[i]? = some x) : w.cell? ⟨g, i, none⟩ = some (.string ⟨x.toArray⟩) := by
  have hi : i < l.length := (List.getElem?_eq_some_iff.1 hx).1
  rw [own_cell hk ht (by omega), List.getElem?_map, hx]
  rfl
theorem LexR_bsS {P : Program} {ops : Array Oper} {W : World} {K : List (Exp × Nat) → List (Nat × Value) → Prop} {R : Nat → Value} {o : Oper} {os : List Oper} {es : List Exp} {done : List (Exp × Nat)} {acc : List (Nat × Value)} {sz : Nat} {n : Nat} {cs : Array Value} {t e : TypeId} {parts : Array (Nat × Operand)} {ps : List (Nat × Value)} {z : Value} {s : Nat} (ho : o.op = .buildSlice t n parts) (hd : o.dst = some s) (hw : Region.wanted o (yieldR ops R) = true)
    (hu : P.underlying t = some (.slice e)) (hi : (P.info? e).map (fun i => (i.zero, i.size)) = some (some z, sz)) (h0 : 0 < sz) (hn : 0 < n) (hn' : n * sz ≤ 16777216) (hps : Unit → (parts.map fun (i, x) => (i, evR R x)).toList = ps)
    (hv : Unit → ((((ps.map (·.2)).zipIdx 0).map fun x => (x.2, x.1)) = ps ∧ (ps.map (·.2)).length = n ∧ (ps.map (·.2)).all (fun v => v.cells.size == sz) = true)) (hc : Unit → ((ps.map (·.2)).flatMap fun v => v.cells.toList).toArray = cs)
    (h : ∀ g, R s = .slice (some ⟨g, 0, none⟩) n n → LexR P ops W K R os es ((.slc n cs e, g) :: done) ((s, .slice (some ⟨g, 0, none⟩) n n) :: acc)) : LexR P ops W K R (o :: os) (.slc n cs e :: es) done acc := by
  cases hie : P.info? e with
  | none => simp [hie] at hi
  | some ie =>
    simp only [hie, Option.map_some, Option.some.injEq, Prod.mk.injEq] at hi
    obtain ⟨hz, hs⟩ := hi
    obtain ⟨v1, v2, v3⟩ := hv ()
    have hm1 : 0 < n * sz := Nat.mul_pos hn h0
    have hf : Instr.fill (fun i => some (i * sz, sz)) ((Array.range (n * sz)).map (z.cells[· % z.cells.size]!)) ps = some cs := by
      have := Great.fill_whole (s := sz) (by omega) (ps.map (·.2)) ((Array.range (n * sz)).map (z.cells[· % z.cells.size]!)) (fun v hv => by simpa using List.all_eq_true.1 v3 v hv) (by rw [v2]; simp)
      rw [v1, hc ()] at this
      exact this
    have run : ∀ w, (execOp (evR R) o).run P w = .ok (.value (.slice (some ⟨w.heap.size, 0, none⟩) n n)) (w.alloc (.cells cs e)) := fun w => by
      unfold execOp
      simp only [ho, Sem.run_bind, run_buildSlice w t e n _ cs ie z hu hie hz (by rw [hs]; first | omega | exact h0 | exact hm1 | exact hn') (by rw [hs]; first | omega | exact hm1 | exact hn') (by rw [hs, hps ()]; exact hf), Result.andThen_ok]
      rfl
    refine ⟨fun w _ _ => by rw [if_pos hw, run w]; exact ⟨w.heap.size, rfl, blk_new _ _, fun _ => ⟨Nat.le_refl _, by simp [Exp.blk]⟩, (Below.refl _ _).alloc (Nat.le_refl _) _⟩, fun g hr => ?_⟩
    rw [hd]
    exact h g (hr s hd)
def ReadQ (B : Nat) (x : RdR) (e : Ending) (w' : World) : Prop := match x with
  | .ok rs => ∃ ao cap, e = .returned (.tuple #[.slice ao rs.length cap, .int .i64 0]) ∧ w'.ownsRow B 49 5 (.slice ao rs.length cap) rs.length (rs.flatMap rc)
  | .bad m => e = .returned (.tuple #[.slice none 0 0, .int .i64 (m : Int)])
set_option maxHeartbeats 8000000 in
theorem rRead_c (s : ByteArray) (hs : s.size ≤ 100000) (w : World) : Calls Tryd.prog 11 #[.string s] w fun e w' => ReadQ w.heap.size (rdA 1 (splitL 10 s.data.toList)) e w' ∧ Below w.heap.size w w' := by
  have hSp := pSplit_c s.data.toList 10 (by rw [Array.length_toList]; exact hs) w
  have hsd : (⟨s.data.toList.toArray⟩ : ByteArray) = s := rfl
  rw [hsd] at hSp
  generalize hX : rdA 1 (splitL 10 s.data.toList) = X
  have hne := splitL_ne 10 s.data.toList
  have hpl : ∀ p ∈ splitL 10 s.data.toList, p.length ≤ 100000 := fun p hp => by
    have h1 := split_part 10 _ p hp
    have h2 : s.data.toList.length = s.size := Array.length_toList
    omega
  have hPl : (splitL 10 s.data.toList).length ≤ 100001 := by
    have h1 := split_len 10 s.data.toList
    have h2 : s.data.toList.length = s.size := Array.length_toList
    omega
  generalize splitL 10 s.data.toList = ps at hSp hX hne hpl hPl
  have hX0 : X = appR [] (rdA (([] : List Rn).length + 1) (ps.drop 0)) := by rw [appR_nil]; exact hX.symm
  obtain ⟨P, hP⟩ : ∃ P, P = ps.length := ⟨_, rfl⟩
  have hP1 : 1 ≤ P := by
    cases ps with
    | nil => exact absurd rfl hne
    | cons x t => simp at hP; omega
  rw [← hP] at hSp hPl
  have hc10 : ((10 : UInt8).toNat : Int) = 10 := rfl
  rw [hc10] at hSp
  clear hX hne hsd hc10
  replace hX0 := Lib.hid hX0
  replace hpl := Lib.hid hpl
  replace hP := Lib.hid hP
  replace hSp := Lib.hid hSp
  go_enter Tryd.func11, Tryd.ntmps11
  go_upto_region 3 with (go_at_call 19; refine hSp.out.mono ?_; rintro e w5 ⟨⟨L, lcap, rfl, hLg, cur, kL, hcur⟩, hb⟩)
  clear hSp
  have hw5 : w.heap.size ≤ w5.heap.size := hb.size
  have hO0 : w5.ownsRow w5.heap.size 49 5 (.slice none 0 0) (([] : List Rn).length) (([] : List Rn).flatMap rc) := World.ownsRow_nil _ _ _ _
  replace hcur := Lib.hid hcur
  go_wp2_with fail
  go_loopw [6, 4] (fun i ov wr => ∃ (j : Nat) (acc : List Rn), j + 1 ≤ P ∧ j ≤ 10000 ∧ i = .int .i64 (j : Int) ∧ acc.length = j ∧ X = appR acc (rdA (j + 1) (ps.drop j)) ∧ Below w5.heap.size w5 wr ∧ wr.ownsRow w5.heap.size 49 5 ov acc.length (acc.flatMap rc)) (fun i _ _ => P - (RowKit.intOf i).toNat)
  case atStart => exact ⟨0, [], by omega, by omega, rfl, rfl, hX0.out, Below.refl _ _, hO0⟩
  case round =>
    clear hO0 hX0
    obtain ⟨j, acc, hj, hj4, rfl, haj, hXr, HB, HO⟩ := hrel
    obtain ⟨ao, cap, rfl⟩ := own_form5 HO
    have hjP : (j : Int) < (P : Int) := by omega
    have pj : (0 : Int) ≤ (j : Int) := by omega
    have hjl : j < ps.length := by have := hP.out; omega
    have hdr := List.drop_eq_getElem_cons hjl
    obtain ⟨p, hp⟩ : ∃ p, p = ps[j] := ⟨_, rfl⟩
    rw [← hp] at hdr
    have hpx : ps[j]? = some p := by rw [List.getElem?_eq_getElem hjl, hp]
    have hpz : p.length ≤ 100000 := hpl.out p (by rw [hp]; exact List.getElem_mem hjl)
    have kLr := grow_blk HB kL
    have lp : wr.cell? ⟨L, j, none⟩ = some (.string ⟨p.toArray⟩) := str_cell kLr hcur.out hP.out j p hpx
    have hAw : Below w.heap.size w wr := bl_call (by exact HB) hb
    obtain ⟨n, hn⟩ : ∃ n : Nat, n = j + 1 := ⟨_, rfl⟩
    have hnI : (j : Int) + 1 = (n : Int) := by omega
    rw [← hn] at hXr
    rw [hdr] at hXr
    replace hn := Lib.hid hn
    replace haj := Lib.hid haj
    clear hdr hp hpx kLr
    by_cases hlast : j + 1 = P
    · have q1 : (j : Int) = (P : Int) - 1 := by omega
      have q1' : ((j : Int) == (P : Int) - 1) = true := beq_iff_eq.2 q1
      rw [List.drop_eq_nil_of_le (by have := hP.out; omega)] at hXr
      by_cases hpe : p = []
      · have hXo : X = .ok acc := by rw [hXr, hpe]; simp [rdA, appR]
        have p0 : (⟨p.toArray⟩ : ByteArray) = ⟨#[]⟩ := by rw [hpe]
        rw [p0] at lp
        replace hXo := Lib.hid hXo
        clear hXr hpe p0 q1
        go_wp2_with fail
        exact bodyPost_ret (v := .tuple #[.slice ao acc.length cap, .int .i64 0]) (by simp [results, Tryd.results11, go_sem]) rfl ⟨by rw [hXo.out]; exact ⟨ao, cap, rfl, own_base hw5 HO⟩, hAw⟩
      · have hXb : X = .bad n := by rw [hXr]; simp [rdA, appR, hpe]
        replace hXb := Lib.hid hXb
        have b0 : ¬ (⟨p.toArray⟩ : ByteArray).toList = [] := by rw [ByteArray.toList_eq]; simpa using hpe
        have b1 : (⟨p.toArray⟩ : ByteArray).toList.isEmpty = false := by rw [List.isEmpty_eq_false_iff]; exact b0
        have b2 : p.isEmpty = false := by rw [List.isEmpty_eq_false_iff]; exact hpe
        clear hXr q1
        go_wp2_with fail
        exact bodyPost_ret (v := .tuple #[.slice none 0 0, .int .i64 (n : Int)]) (by simp [results, Tryd.results11, go_sem]) rfl ⟨by rw [hXb.out]; rfl, hAw⟩
    have q1 : ¬ (j : Int) = (P : Int) - 1 := by omega
    have q1' : ((j : Int) == (P : Int) - 1) = false := beq_eq_false_iff_ne.2 q1
    obtain ⟨q0, t0, hqt⟩ : ∃ q0 t0, ps.drop (j + 1) = q0 :: t0 := by
      have h1 : j + 1 < ps.length := by have := hP.out; omega
      exact ⟨_, _, List.drop_eq_getElem_cons h1⟩
    rw [hqt] at hXr
    have hS2 := pSplit_c p 32 hpz wr
    rw [show ((32 : UInt8).toNat : Int) = 32 from rfl] at hS2
    have hXr' := hXr
    replace hXr := Lib.hid hXr'
    replace hqt := Lib.hid hqt
    clear hXr'
    by_cases hw5' : (splitL 32 p).length = 5
    rotate_left
    · have hXb := Lib.hid (rd_bad hXr.out (.inl (read_lenL p hw5')))
      have d5 : ¬ ((splitL 32 p).length : Int) = 5 := by omega
      generalize (splitL 32 p).length = m5 at hS2 d5
      have d5' : ((m5 : Int) != 5) = true := bne_iff_ne.2 d5
      replace hS2 := Lib.hid hS2
      clear hXr hw5'
      go_wp2_with (go_at_call 19; refine hS2.out.mono ?_; rintro e w7 ⟨⟨G, gcap, rfl, hGg, cur7, kG, hcur7⟩, hb7⟩)
      exact bodyPost_ret (v := .tuple #[.slice none 0 0, .int .i64 (n : Int)]) (by simp [results, Tryd.results11, go_sem]) rfl ⟨by rw [hXb.out]; rfl, bl_call hb7 hAw⟩
    obtain ⟨x0, x1, x2, x3, x4, hsp⟩ : ∃ x0 x1 x2 x3 x4, splitL 32 p = [x0, x1, x2, x3, x4] := by
      clear hS2
      match hq : splitL 32 p, hw5' with
      | [x0, x1, x2, x3, x4], _ => exact ⟨x0, x1, x2, x3, x4, rfl⟩
    have hxz : ∀ x ∈ [x0, x1, x2, x3, x4], x.length ≤ 100000 := fun x hx => by
      have := split_part 32 p x (by rw [hsp]; exact hx)
      omega
    have hx1 := hxz x1 (by simp)
    have hx2 := hxz x2 (by simp)
    have hx3 := hxz x3 (by simp)
    have hx4 := hxz x4 (by simp)
    have hRA := Lib.hid (read_ofL p x0 x1 x2 x3 x4 hsp)
    rw [hsp] at hS2
    have hl5 : ([x0, x1, x2, x3, x4] : List (List UInt8)).length = 5 := rfl
    rw [hl5] at hS2
    replace hS2 := Lib.hid hS2
    clear hl5 hsp hw5' hxz
    have hK := Lib.hid (fun w => rkind_c ⟨x0.toArray⟩ w)
    go_upto_region 10 with (go_at_call 19; refine hS2.out.mono ?_; rintro e w7 ⟨⟨G, gcap, rfl, hGg, cur7, kG, hcur7⟩, hb7⟩)
    have y0 : w7.cell? ⟨G, 0, none⟩ = some (.string ⟨x0.toArray⟩) := str_cell kG hcur7 rfl 0 x0 rfl
    replace hcur7 := Lib.hid hcur7
    have HB7 := bl_call hb7 HB
    have hA7 := bl_call hb7 hAw
    have HO7 := own_grow HO hb7
    clear hb7 HO HB hAw hS2 lp
    have hAw := hA7
    clear hA7
    by_cases hk0 : kindA x0 = 0
    · have hXb := Lib.hid (rd_bad hXr.out (.inl (by rw [hRA.out]; unfold rdN; rw [if_pos hk0])))
      have hK0 : ∀ w, Calls Tryd.prog 20 #[.string ⟨x0.toArray⟩] w fun x w' => x = .returned (.int .i64 0) ∧ w' = w := fun w => by
        have h := hK.out w
        rw [hk0] at h
        exact h
      replace hK0 := Lib.hid hK0
      clear hXr hRA hK
      go_wp2_with (go_at_call 20; refine (hK0.out _).mono ?_; rintro e w7 ⟨rfl, rfl⟩)
      exact bodyPost_ret (v := .tuple #[.slice none 0 0, .int .i64 (n : Int)]) (by simp [results, Tryd.results11, go_sem]) rfl ⟨by rw [hXb.out]; rfl, hAw⟩
    obtain ⟨kk, hkk⟩ : ∃ kk : Nat, kk = kindA x0 := ⟨_, rfl⟩
    have hK1 : ∀ w, Calls Tryd.prog 20 #[.string ⟨x0.toArray⟩] w fun x w' => x = .returned (.int .i64 (kk : Int)) ∧ w' = w := fun w => by
      have h := hK.out w
      rw [← hkk] at h
      exact h
    replace hK1 := Lib.hid hK1
    have kk0 : ¬ (kk : Int) = 0 := by omega
    have kk1 : ((kk : Int) == 0) = false := beq_eq_false_iff_ne.2 kk0
    replace hkk := Lib.hid hkk
    clear hK
    by_cases hbig : 10000 < n
    · have hXb := Lib.hid (rd_bad hXr.out (.inr hbig))
      have g1 : 10000 ≤ (j : Int) := by have := hn.out; omega
      have g2 : decide (10000 ≤ (j : Int)) = true := decide_eq_true g1
      clear hXr hRA
      go_wp2_with (go_at_call 20; refine (hK1.out _).mono ?_; rintro e w7 ⟨rfl, rfl⟩)
      exact bodyPost_ret (v := .tuple #[.slice none 0 0, .int .i64 (n : Int)]) (by simp [results, Tryd.results11, go_sem]) rfl ⟨by rw [hXb.out]; rfl, hAw⟩
    have g1 : ¬ 10000 ≤ (j : Int) := by have := hn.out; omega
    have g1' : (j : Int) < 10000 := by omega
    have g2 : decide (10000 ≤ (j : Int)) = false := decide_eq_false g1
    go_upto_region 13 with (go_at_call 20; refine (hK1.out _).mono ?_; rintro e w7 ⟨rfl, rfl⟩)
    refine gen_world fun W0 hW => ?_
    obtain ⟨T, hT⟩ : ∃ T, T = w7.heap.size := ⟨_, rfl⟩
    have hGT : G < T := by rw [hT]; exact blk_lt kG
    rw [← hT]
    have kT : W0.heap[T]? = some (.cells #[.int .i64 0, .int .i64 0, .int .i64 0, .int .i64 0] 55 (0, 0)) := by rw [hW]; exact blk_new' hT _
    have kG0 : W0.heap[G]? = some (.cells cur7 9 (0, 0)) := by rw [hW]; exact blk_alloc kG _
    have HB0 : Below w5.heap.size w5 W0 := by rw [hW]; exact bl_alloc HB7 _
    have hA0 : Below w.heap.size w W0 := by rw [hW]; exact bl_alloc hAw _
    have HO0 : W0.ownsRow w5.heap.size 49 5 (.slice ao acc.length cap) acc.length (acc.flatMap rc) := by rw [hW]; exact ownsRow_block HO7 fun g hg => heap_alloc_old _ _ (ownsRow_lt HO7 hg).2
    have hTo : ∀ g, (Value.slice ao acc.length cap).ownBlock = some g → g ≠ T := fun g hg => by have := (ownsRow_lt HO7 hg).2; omega
    have hT5 : w5.heap.size ≤ T := by have := HB7.size; omega
    clear hW hT kG HB7 hAw HO7 y0
    go_wp2_with fail
    refine wp_loop_rounds 5 ?_
    rw [rounds_succ]
    have yy : W0.cell? ⟨G, 1, none⟩ = some (.string ⟨x1.toArray⟩) := str_cell kG0 hcur7.out rfl 1 x1 rfl
    have hNq := Lib.hid (rnumber_c ⟨x1.toArray⟩ (by show x1.toArray.size ≤ _; rw [List.size_toArray]; exact hx1) W0)
    go_upto_region 17 with (go_at_call 21; refine hNq.out.mono ?_; rintro e w7 ⟨⟨m0, ok, rfl, hO⟩, rfl⟩)
    try rw [show (⟨x1.toArray⟩ : ByteArray).data.toList = x1 by simp] at hO
    clear yy hNq
    rcases hO with ⟨rfl, hm0⟩ | ⟨rfl, hm0⟩
    rotate_left
    · have hXb := Lib.hid (rd_bad hXr.out (.inl (by rw [hRA.out]; exact rdN_no _ _ _ _ _ (by left; exact hm0))))
      clear hXr hRA
      go_wp2_with fail
      exact bodyPost_ret (v := .tuple #[.slice none 0 0, .int .i64 (n : Int)]) (by simp [results, Tryd.results11, go_sem]) rfl ⟨by rw [hXb.out]; rfl, hA0⟩
    have ct : w7.cell? ⟨T, 0, none⟩ = some (.int .i64 0) := blk_cell kT 0
    have ft := blk_frozen kT 0
    go_upto_region 15 with fail
    refine gen_world fun W1 hW => ?_
    have kT2 : W1.heap[T]? = some (.cells #[.int .i64 m0, .int .i64 0, .int .i64 0, .int .i64 0] 55 (0, 0)) := by rw [hW]; exact blk_set kT 0 _
    have kG1 : W1.heap[G]? = some (.cells cur7 9 (0, 0)) := by rw [hW]; exact blk_far kG0 (by simp; omega) _
    have HB1 : Below w5.heap.size w5 W1 := by rw [hW]; exact bl_set _ _ (by simp; omega) HB0
    have hA1 : Below w.heap.size w W1 := by rw [hW]; exact bl_set _ _ (by simp; omega) hA0
    have HO1 : W1.ownsRow w5.heap.size 49 5 (.slice ao acc.length cap) acc.length (acc.flatMap rc) := by rw [hW]; exact ownsRow_block HO0 fun g hg => Below.heap_setCell _ _ _ g (hTo g hg)
    clear hW kT kG0 HB0 hA0 HO0 ct ft
    have kT := kT2
    clear kT2
    go_wp2_with fail
    rw [rounds_succ]
    have yy : W1.cell? ⟨G, 2, none⟩ = some (.string ⟨x2.toArray⟩) := str_cell kG1 hcur7.out rfl 2 x2 rfl
    have hNq := Lib.hid (rnumber_c ⟨x2.toArray⟩ (by show x2.toArray.size ≤ _; rw [List.size_toArray]; exact hx2) W1)
    go_upto_region 17 with (go_at_call 21; refine hNq.out.mono ?_; rintro e w7 ⟨⟨m1, ok, rfl, hO⟩, rfl⟩)
    try rw [show (⟨x2.toArray⟩ : ByteArray).data.toList = x2 by simp] at hO
    clear yy hNq
    rcases hO with ⟨rfl, hm1⟩ | ⟨rfl, hm1⟩
    rotate_left
    · have hXb := Lib.hid (rd_bad hXr.out (.inl (by rw [hRA.out]; exact rdN_no _ _ _ _ _ (by right; left; exact hm1))))
      clear hXr hRA
      go_wp2_with fail
      exact bodyPost_ret (v := .tuple #[.slice none 0 0, .int .i64 (n : Int)]) (by simp [results, Tryd.results11, go_sem]) rfl ⟨by rw [hXb.out]; rfl, hA1⟩
    have ct : w7.cell? ⟨T, 1, none⟩ = some (.int .i64 0) := blk_cell kT 1
    have ft := blk_frozen kT 1
    go_upto_region 15 with fail
    refine gen_world fun W2 hW => ?_
    have kT2 : W2.heap[T]? = some (.cells #[.int .i64 m0, .int .i64 m1, .int .i64 0, .int .i64 0] 55 (0, 0)) := by rw [hW]; exact blk_set kT 1 _
    have kG2 : W2.heap[G]? = some (.cells cur7 9 (0, 0)) := by rw [hW]; exact blk_far kG1 (by simp; omega) _
    have HB2 : Below w5.heap.size w5 W2 := by rw [hW]; exact bl_set _ _ (by simp; omega) HB1
    have hA2 : Below w.heap.size w W2 := by rw [hW]; exact bl_set _ _ (by simp; omega) hA1
    have HO2 : W2.ownsRow w5.heap.size 49 5 (.slice ao acc.length cap) acc.length (acc.flatMap rc) := by rw [hW]; exact ownsRow_block HO1 fun g hg => Below.heap_setCell _ _ _ g (hTo g hg)
    clear hW kT kG1 HB1 hA1 HO1 ct ft
    have kT := kT2
    clear kT2
    go_wp2_with fail
    rw [rounds_succ]
    have yy : W2.cell? ⟨G, 3, none⟩ = some (.string ⟨x3.toArray⟩) := str_cell kG2 hcur7.out rfl 3 x3 rfl
    have hNq := Lib.hid (rnumber_c ⟨x3.toArray⟩ (by show x3.toArray.size ≤ _; rw [List.size_toArray]; exact hx3) W2)
    go_upto_region 17 with (go_at_call 21; refine hNq.out.mono ?_; rintro e w7 ⟨⟨m2, ok, rfl, hO⟩, rfl⟩)
    try rw [show (⟨x3.toArray⟩ : ByteArray).data.toList = x3 by simp] at hO
    clear yy hNq
    rcases hO with ⟨rfl, hm2⟩ | ⟨rfl, hm2⟩
    rotate_left
    · have hXb := Lib.hid (rd_bad hXr.out (.inl (by rw [hRA.out]; exact rdN_no _ _ _ _ _ (by right; right; left; exact hm2))))
      clear hXr hRA
      go_wp2_with fail
      exact bodyPost_ret (v := .tuple #[.slice none 0 0, .int .i64 (n : Int)]) (by simp [results, Tryd.results11, go_sem]) rfl ⟨by rw [hXb.out]; rfl, hA2⟩
    have ct : w7.cell? ⟨T, 2, none⟩ = some (.int .i64 0) := blk_cell kT 2
    have ft := blk_frozen kT 2
    go_upto_region 15 with fail
    refine gen_world fun W3 hW => ?_
    have kT2 : W3.heap[T]? = some (.cells #[.int .i64 m0, .int .i64 m1, .int .i64 m2, .int .i64 0] 55 (0, 0)) := by rw [hW]; exact blk_set kT 2 _
    have kG3 : W3.heap[G]? = some (.cells cur7 9 (0, 0)) := by rw [hW]; exact blk_far kG2 (by simp; omega) _
    have HB3 : Below w5.heap.size w5 W3 := by rw [hW]; exact bl_set _ _ (by simp; omega) HB2
    have hA3 : Below w.heap.size w W3 := by rw [hW]; exact bl_set _ _ (by simp; omega) hA2
    have HO3 : W3.ownsRow w5.heap.size 49 5 (.slice ao acc.length cap) acc.length (acc.flatMap rc) := by rw [hW]; exact ownsRow_block HO2 fun g hg => Below.heap_setCell _ _ _ g (hTo g hg)
    clear hW kT kG2 HB2 hA2 HO2 ct ft
    have kT := kT2
    clear kT2
    go_wp2_with fail
    rw [rounds_succ]
    have yy : W3.cell? ⟨G, 4, none⟩ = some (.string ⟨x4.toArray⟩) := str_cell kG3 hcur7.out rfl 4 x4 rfl
    have hNq := Lib.hid (rnumber_c ⟨x4.toArray⟩ (by show x4.toArray.size ≤ _; rw [List.size_toArray]; exact hx4) W3)
    go_upto_region 17 with (go_at_call 21; refine hNq.out.mono ?_; rintro e w7 ⟨⟨m3, ok, rfl, hO⟩, rfl⟩)
    try rw [show (⟨x4.toArray⟩ : ByteArray).data.toList = x4 by simp] at hO
    clear yy hNq
    rcases hO with ⟨rfl, hm3⟩ | ⟨rfl, hm3⟩
    rotate_left
    · have hXb := Lib.hid (rd_bad hXr.out (.inl (by rw [hRA.out]; exact rdN_no _ _ _ _ _ (by right; right; right; exact hm3))))
      clear hXr hRA
      go_wp2_with fail
      exact bodyPost_ret (v := .tuple #[.slice none 0 0, .int .i64 (n : Int)]) (by simp [results, Tryd.results11, go_sem]) rfl ⟨by rw [hXb.out]; rfl, hA3⟩
    have ct : w7.cell? ⟨T, 3, none⟩ = some (.int .i64 0) := blk_cell kT 3
    have ft := blk_frozen kT 3
    go_upto_region 15 with fail
    refine gen_world fun W4 hW => ?_
    have kT2 : W4.heap[T]? = some (.cells #[.int .i64 m0, .int .i64 m1, .int .i64 m2, .int .i64 m3] 55 (0, 0)) := by rw [hW]; exact blk_set kT 3 _
    have kG4 : W4.heap[G]? = some (.cells cur7 9 (0, 0)) := by rw [hW]; exact blk_far kG3 (by simp; omega) _
    have HB4 : Below w5.heap.size w5 W4 := by rw [hW]; exact bl_set _ _ (by simp; omega) HB3
    have hA4 : Below w.heap.size w W4 := by rw [hW]; exact bl_set _ _ (by simp; omega) hA3
    have HO4 : W4.ownsRow w5.heap.size 49 5 (.slice ao acc.length cap) acc.length (acc.flatMap rc) := by rw [hW]; exact ownsRow_block HO3 fun g hg => Below.heap_setCell _ _ _ g (hTo g hg)
    clear hW kT kG3 HB3 hA3 HO3 ct ft
    have kT := kT2
    clear kT2
    go_wp2_with fail
    rw [rounds_succ]
    have t0 : W4.cell? ⟨T, 0, none⟩ = some (.int .i64 m0) := blk_cell kT 0
    have t1 : W4.cell? ⟨T, 1, none⟩ = some (.int .i64 m1) := blk_cell kT 1
    have t2 : W4.cell? ⟨T, 2, none⟩ = some (.int .i64 m2) := blk_cell kT 2
    have t3 : W4.cell? ⟨T, 3, none⟩ = some (.int .i64 m3) := blk_cell kT 3
    have hrd := hRA.out
    rw [hm0, hm1, hm2, hm3] at hrd
    unfold rdN okA at hrd
    rw [if_neg hk0] at hrd
    simp only [decide_eq_true_eq] at hrd
    clear hRA hm0 hm1 hm2 hm3
    by_cases z1 : m2 < 1
    · have hXb := Lib.hid (rd_bad hXr.out (.inl (by rw [hrd, if_neg (by omega)])))
      have z1' : decide (m2 < 1) = true := decide_eq_true z1
      clear hXr hrd
      go_wp2_with fail
      exact bodyPost_ret (v := .tuple #[.slice none 0 0, .int .i64 (n : Int)]) (by simp [results, Tryd.results11, go_sem]) rfl ⟨by rw [hXb.out]; rfl, hA4⟩
    have z1' : decide (m2 < 1) = false := decide_eq_false z1
    by_cases z2 : m3 < 0
    · have hXb := Lib.hid (rd_bad hXr.out (.inl (by rw [hrd, if_neg (by omega)])))
      have z2' : decide (m3 < 0) = true := decide_eq_true z2
      clear hXr hrd
      go_wp2_with fail
      exact bodyPost_ret (v := .tuple #[.slice none 0 0, .int .i64 (n : Int)]) (by simp [results, Tryd.results11, go_sem]) rfl ⟨by rw [hXb.out]; rfl, hA4⟩
    have z2' : decide (m3 < 0) = false := decide_eq_false z2
    by_cases z3 : 4294967295 < m3
    · have hXb := Lib.hid (rd_bad hXr.out (.inl (by rw [hrd, if_neg (by omega)])))
      have z3' : decide (4294967295 < m3) = true := decide_eq_true z3
      clear hXr hrd
      go_wp2_with fail
      exact bodyPost_ret (v := .tuple #[.slice none 0 0, .int .i64 (n : Int)]) (by simp [results, Tryd.results11, go_sem]) rfl ⟨by rw [hXb.out]; rfl, hA4⟩
    have z3' : decide (4294967295 < m3) = false := decide_eq_false z3
    have hyes : readA p = some ⟨(kk : Int), m0, m1, m2, m3⟩ := by rw [hrd, if_pos (by omega), hkk.out]
    have hXn := Lib.hid (rd_ok hXr.out hyes hbig)
    have hw32 : IntKind.u32.wrap m3 = m3 := by rw [IntKind.wrap_u32]; omega
    clear hXr hrd hyes
    have y0 : W4.cell? ⟨G, 0, none⟩ = some (.string ⟨x0.toArray⟩) := str_cell kG4 hcur7.out rfl 0 x0 rfl
    have hKb : ∀ w, Calls Tryd.prog 20 #[.string ⟨x0.toArray⟩] w fun x w' => x = .returned (.int .i64 (kk : Int)) ∧ Below w.heap.size w w' := fun w => (hK1.out w).mono (by rintro e w' ⟨rfl, rfl⟩; exact ⟨rfl, Below.refl _ _⟩)
    go_upto_region 22 with fail
    refine wp_region_R 16 [4, 7, 8] (by kernel_rfl) (by kernel_rfl) (by kernel_rfl) (by kernel_rfl) ?_
    intro K_ ops_ hops_ hK
    replace hops_ := Lib.hid hops_
    apply Exists.intro
    intro R_ hb_
    simp only [↓baseR, ↓nthR_succ, ↓nthR_zero] at hb_
    simp only [List.take_succ_cons, List.take_zero, List.drop_succ_cons, List.drop_zero]
    repeat (first
      | (apply LexR_bsS (t := 34) (e := 49) (z := .agg #[.int .i64 0, .int .i64 0, .int .i64 0, .int .i64 0, .int .u32 0]) (sz := 5) (ho := rfl) (by rfl) (by rfl) Tryd.underlying34 (by kernel_rfl) (by decide) (by decide) (by decide) (fun _ => ?_) (fun _ => ?_) (fun _ => ?_) (fun _ hr_ => ?_); rotate_right 4; (go_simp; rfl); (exact ⟨rfl, rfl, rfl⟩); (simp only [List.map_cons, List.map_nil, List.flatMap_cons, List.flatMap_nil, Value.cells, List.cons_append, List.nil_append, List.append_nil]; rfl))
      
      | (apply LexR_callF (f := 20) (by rfl) (by rfl) (by rfl) Tryd.func20 (by kernel_rfl) (by kernel_rfl) (fun _ => ?_) (fun w1 hw1 hd1 => ?_) (fun _ hr_ => ?_); rotate_right 3; (go_simp; first | done | rfl); (with_reducible exact (hKb w1)))
      | (apply LexR_det (by rfl) (by rfl) (by rfl) (fun w1 hw1 hd1 => ?_) (fun _ hr_ => ?_); rotate_right 2; (go_simp; first | done | rfl | (rw [grow_cell hw1 t0]; focus ((try simp); first | done | rfl)) | (rw [grow_cell hw1 t1]; focus ((try simp); first | done | rfl)) | (rw [grow_cell hw1 t2]; focus ((try simp); first | done | rfl)) | (rw [grow_cell hw1 t3]; focus ((try simp); first | done | rfl)) | (rw [grow_cell hw1 y0]; focus ((try simp); first | done | rfl))))
      | (apply LexR_box (by rfl) (by rfl) (by rfl) (fun w1 hw1 hd1 => ?_) (fun _ hr_ => ?_); rotate_right 2; (go_simp; first | done | rfl))
      )
    apply LexR_end
    refine hK _ _ ?_
    clear hK K_
    repeat clear hr_
    clear hb_ R_ hops_ ops_
    intro w1 hw1 hf1
    apply tailR (fun _ => ?_) (fun _ => ?_) ?_
    rotate_right 2
    · simp only [putAll, Act.put, List.setIfInBounds_toArray, List.set_cons_succ, List.set_cons_zero]; first | done | rfl
    · simp only [List.drop_succ_cons, List.drop_zero]; first | done | rfl
    simp [allFacts, contOf, Exp.putAt, Exp.fact, Exp.fresh, Exp.blk] at hf1
    obtain ⟨kZ, hZ⟩ := hf1
    obtain ⟨Z, e_⟩ := name_blk kZ
    subst e_
    have HO := own_grow HO4 hw1
    have HB := bl_call hw1 HB4
    clear HO4 HB4 hA4 hw1 kT t0 t1 t2 t3 y0 kG4 hKb hK1
    have hal : acc.length ≤ 10000 := by have := haj.out; omega
    go_wp2_with (refine wpList_appS rfl _ _ 34 rfl w5.heap.size 49 (.agg #[.int .i64 0, .int .i64 0, .int .i64 0, .int .i64 0, .int .u32 0]) 5 40 Tryd.underlying34 (by kernel_rfl) rfl (by decide) (by decide) _ _ _ rfl HO _ 1 (rc ⟨(kk : Int), m0, m1, m2, m3⟩) rfl rfl (fun q u hq => (blk_cell kZ q).trans (by simpa [rc] using hq)) (by simp [rc, Value.oneCell']) (by omega) (by have := HB.size; omega) ?_; intro g4 cap4 w4 HO4 hg4 hsv4 hlt4; replace HB := grown_below HB hg4 (by have := HB.size; omega) (fun g hg => (ownsRow_lt HO hg).1); replace HO := HO4; clear hg4 HO4 hsv4 hlt4)
    go_roundw
    case measure => have := hn.out; simp [RowKit.intOf] <;> omega
    refine ⟨n, acc ++ [⟨(kk : Int), m0, m1, m2, m3⟩], by have := hn.out; omega, by omega, rfl, by rw [List.length_append, haj.out, hn.out]; rfl, ?_, HB, ?_⟩
    · rw [hXn.out, hn.out, hqt.out]
    · rw [List.length_append, List.flatMap_append]
      simpa using HO
end Go.Proofs.YtcophjjjkonpjaaDoor

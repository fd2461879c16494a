/- The contract of sabretachelaw44.AuditLooks. -/
import Derived.Test.YtcophjjjkonpjaaDoorTc
namespace Go.Proofs.YtcophjjjkonpjaaDoor
open Go.RowKit
set_option maxRecDepth 100000
set_option linter.unusedSimpArgs false
set_option linter.unusedVariables false
theorem run_eql_ev2 (a b : Evt) (w : World) : (binOp .eql 28 (.agg #[.int .i64 a.k, .int .i64 a.i, .int .u32 a.v]) (.agg #[.int .i64 b.k, .int .i64 b.i, .int .u32 b.v])).run Tryd.prog w = .ok (.bool (decide (a = b))) w := by
  have := run_eql_ev a b w
  unfold ev at this
  rw [run_eql_struct]
  rw [this]
  rfl
theorem run_neq_cnt (c : Nat → Int) (w : World) : (binOp .neq 29 (.agg #[.int .i64 (c 0), .int .i64 (c 1), .int .i64 (c 2), .int .i64 (c 3), .int .i64 (c 4), .int .i64 (c 5)]) (.agg #[.int .i64 (c 0), .int .i64 (c 1), .int .i64 (c 2), .int .i64 (c 3), .int .i64 (c 4), .int .i64 (c 5)])).run Tryd.prog w = .ok (.bool false) w := by
  have hu2 := Tryd.underlying3
  have hz2 := Tryd.sizeOf3
  rw [run_neq_struct, show (10000 : Nat) = 9999 + 1 from rfl, Op.equalIn]
  simp only [Sem.run_bind, run_underlying Tryd.underlying29, Result.andThen_ok]
  simp only [Std.Legacy.Range.forIn_eq_forIn_range', Std.Legacy.Range.size, Nat.sub_zero, Nat.add_sub_cancel, Nat.div_one, List.range'_succ, List.range'_zero, List.forIn_cons, List.forIn_nil]
  go_simp
set_option maxHeartbeats 4000000 in
theorem AuditLooks_c (a b : List Evt) (va vb : Value) (w : World) (ha : RowE w va a) (hb : RowE w vb b) (hwf : WfE a) : Calls Tryd.prog 3 #[va, vb] w fun e w' => e = .returned (.bool true) ∧ Below w.heap.size w w' := by
  by_cases la : 100 < a.length
  · obtain ⟨aa, ca, rfl, _⟩ := ha
    obtain ⟨ab, cb, rfl, _⟩ := hb
    have la' : 100 < (a.length : Int) := by omega
    go_enter Tryd.func3, Tryd.ntmps3
    go_wp2_with (go_at_call 6; refine (awake44_c _).mono ?_; rintro e w1 ⟨rfl, hb1⟩)
    exact bodyPost_ret (v := .bool true) (by simp [results, Tryd.results3, go_sem]) rfl ⟨rfl, hb1⟩
  by_cases lb : 100 < b.length
  · obtain ⟨aa, ca, rfl, _⟩ := ha
    obtain ⟨ab, cb, rfl, _⟩ := hb
    have la' : ¬ 100 < (a.length : Int) := by omega
    have lb' : 100 < (b.length : Int) := by omega
    go_enter Tryd.func3, Tryd.ntmps3
    go_wp2_with (go_at_call 6; refine (awake44_c _).mono ?_; rintro e w1 ⟨rfl, hb1⟩)
    exact bodyPost_ret (v := .bool true) (by simp [results, Tryd.results3, go_sem]) rfl ⟨rfl, hb1⟩
  have la' : ¬ 100 < (a.length : Int) := by omega
  have lb' : ¬ 100 < (b.length : Int) := by omega
  have hD := fun (W : World) h h' => Differ_c a b va vb W h h' (by omega) (by omega)
  have hT : ∃ c : Nat → Int, (∀ q, c q = ((tl a q : Nat) : Int)) ∧ ∀ (W : World), RowE W va a → Calls Tryd.prog 8 #[va] W fun e w' => e = .returned (.agg #[.int .i64 (c 0), .int .i64 (c 1), .int .i64 (c 2), .int .i64 (c 3), .int .i64 (c 4), .int .i64 (c 5)]) ∧ Below W.heap.size W w' := ⟨fun q => ((tl a q : Nat) : Int), fun _ => rfl, fun (W : World) h => Tally_c a va W h (by omega)⟩
  obtain ⟨c, hc, hT⟩ := hT
  replace hc := Lib.hid hc
  have hR := fun (W : World) h => Reach_c a va W h (by omega)
  have ca3 := ha
  have cb3 := hb
  obtain ⟨aa, ca, rfl, _⟩ := ha
  obtain ⟨ab, cb, rfl, _⟩ := hb
  have cella : ∀ (W : World), Below w.heap.size w W → ∀ j (h : j < a.length), ∃ g off, aa = some ⟨g, off, none⟩ ∧ W.cell? ⟨g, off + j * 3, none⟩ = some (.int .i64 a[j].k) ∧ W.cell? ⟨g, off + j * 3 + 1, none⟩ = some (.int .i64 a[j].i) ∧ W.cell? ⟨g, off + j * 3 + 2, none⟩ = some (.int .u32 a[j].v) := fun W hb j h => by
    obtain ⟨_, _, e, h2⟩ := ca3.grow hb
    obtain ⟨rfl, _, rfl⟩ := Value.slice.inj e
    exact h2 j h
  have cellb : ∀ (W : World), Below w.heap.size w W → ∀ j (h : j < b.length), ∃ g off, ab = some ⟨g, off, none⟩ ∧ W.cell? ⟨g, off + j * 3, none⟩ = some (.int .i64 b[j].k) ∧ W.cell? ⟨g, off + j * 3 + 1, none⟩ = some (.int .i64 b[j].i) ∧ W.cell? ⟨g, off + j * 3 + 2, none⟩ = some (.int .u32 b[j].v) := fun W hb j h => by
    obtain ⟨_, _, e, h2⟩ := cb3.grow hb
    obtain ⟨rfl, _, rfl⟩ := Value.slice.inj e
    exact h2 j h
  replace cella := Lib.hid cella
  replace cellb := Lib.hid cellb
  replace hD := Lib.hid hD
  replace hT := Lib.hid hT
  replace hR := Lib.hid hR
  replace ca3 := Lib.hid ca3
  replace cb3 := Lib.hid cb3
  go_enter Tryd.func3, Tryd.ntmps3
  go_upto_region 6 with (first | (go_at_call 6; refine (awake44_c _).mono ?_; rintro e w1 ⟨rfl, hb1⟩) | (go_at_call 7; refine (hD.out _ (ca3.out.grow hb1) (cb3.out.grow hb1)).mono ?_; rintro e w2 ⟨⟨n, u, rfl, hDf⟩, hb2⟩))
  have HB := bl_call hb2 hb1
  clear hb1 hb2
  have hDn : (u = false ∧ n = 0 ∧ a = b) ∨ (u = true ∧ n ≤ a.length ∧ n ≤ b.length) := by
    rcases hDf with ⟨h1, h2, h3⟩ | ⟨h1, h2, h3, _⟩
    · exact .inl ⟨h1, h2, h3⟩
    · exact .inr ⟨h1, h2, h3⟩
  replace hDf := Lib.hid hDf
  replace hDn := Lib.hid hDn
  go_cut [65] from 37 to 64 (fun s wc => s = .bool false ∧ wc = w2)
  case first =>
    rcases hDn.out with ⟨rfl, hn, hab⟩ | ⟨rfl, h1, h2⟩
    · have q0 : ¬ (n : Int) < 0 := by omega
      have q1 : ¬ (a.length : Int) < (n : Int) := by omega
      have q2 : ¬ (b.length : Int) < (n : Int) := by omega
      have q4 : ((n : Int) != 0) = false := by simp; omega
      have q3 : ((a.length : Int) != (b.length : Int)) = false := by simp; rw [hab]
      clear hn hab
      go_wp2_with fail
      go_meet
      case rel => exact ⟨rfl, rfl⟩
    · have q0 : ¬ (n : Int) < 0 := by omega
      have q1 : ¬ (a.length : Int) < (n : Int) := by omega
      have q2 : ¬ (b.length : Int) < (n : Int) := by omega
      go_wp2_with fail
      go_meet
      case rel => exact ⟨rfl, rfl⟩
  case rest =>
    obtain ⟨rfl, rfl⟩ := hcut
    go_wp2_with fail
    have HB0 := HB
    clear HB
    go_loopw [68] (fun i wr => ∃ j : Nat, j ≤ a.length ∧ i = .int .i64 (j : Int) ∧ Below w.heap.size w wr) (fun i _ => a.length - (RowKit.intOf i).toNat)
    case atStart => exact ⟨0, by omega, rfl, HB0⟩
    case round =>
      clear HB0
      obtain ⟨j, hj, rfl, HB⟩ := hrel
      by_cases hlt : j < a.length
      · have hlt' : (j : Int) < (a.length : Int) := by omega
        have key : (∃ hb : j < b.length, a[j] = b[j] ∧ (u = false ∨ (u = true ∧ j < n))) ∨ (u = true ∧ ¬ j < n) := by
          rcases hDf.out with ⟨h1, h2, h3⟩ | ⟨h1, h2, h3, h4, h5⟩
          · subst h3; exact .inl ⟨hlt, rfl, .inl h1⟩
          · by_cases hjn : j < n
            · refine .inl ⟨by omega, ?_, .inr ⟨h1, hjn⟩⟩
              have e1 : (a.take n)[j]? = (b.take n)[j]? := by rw [h4]
              rw [List.getElem?_take_of_lt hjn, List.getElem?_take_of_lt hjn, List.getElem?_eq_getElem hlt, List.getElem?_eq_getElem (by omega)] at e1
              exact Option.some.inj e1
            · exact .inr ⟨h1, hjn⟩
        rcases key with ⟨hjb, hab, hu⟩ | ⟨rfl, hjn⟩
        · have hlb : (j : Int) < (b.length : Int) := by omega
          obtain ⟨g, off, rfl, c0, c1, c2⟩ := cella.out wr HB j hlt
          obtain ⟨g', off', rfl, d0, d1, d2⟩ := cellb.out wr HB j hjb
          have hne := fun w => run_neq_ev a[j] b[j] w
          obtain ⟨x, hx⟩ : ∃ x, x = a[j] := ⟨_, rfl⟩
          rw [← hab] at hne d0 d1 d2
          rw [← hx] at c0 c1 c2 hne d0 d1 d2
          have hd : decide (x = x) = true := by simp
          rw [hd] at hne
          clear hx hab hd
          rcases hu with rfl | ⟨rfl, hjn⟩
          · go_upto_region 11 with fail
            go_region
            go_wp2_with fail
            exact ⟨⟨j + 1, by omega, congrArg (Value.int .i64) (by omega), bl_drew HB⟩, by simp [RowKit.intOf] <;> omega⟩
          · have hjn' : (j : Int) < (n : Int) := by omega
            go_upto_region 11 with fail
            go_region
            go_wp2_with fail
            exact ⟨⟨j + 1, by omega, congrArg (Value.int .i64) (by omega), bl_drew HB⟩, by simp [RowKit.intOf] <;> omega⟩
        · have hjn' : ¬ (j : Int) < (n : Int) := by omega
          go_upto_region 11 with fail
          go_region
          go_wp2_with fail
          exact ⟨⟨j + 1, by omega, congrArg (Value.int .i64) (by omega), bl_drew HB⟩, by simp [RowKit.intOf] <;> omega⟩
      · obtain rfl : j = a.length := by omega
        have hlt' : ¬ (a.length : Int) < (a.length : Int) := by omega
        go_upto_region 14 with fail
        go_cut [113] from 90 to 112 (fun s wc => s = .bool false ∧ Below w.heap.size w wc)
        case first =>
          rcases hDf.out with ⟨rfl, hn, hab⟩ | ⟨rfl, h1, h2, h3, h4⟩
          · clear hn hab
            go_region
            go_wp2_with fail
            go_meet
            case rel => exact ⟨rfl, bl_drew HB⟩
          · by_cases q1 : n < a.length
            · have q1' : (n : Int) < (a.length : Int) := by omega
              by_cases q2 : n < b.length
              · have q2' : (n : Int) < (b.length : Int) := by omega
                have hab := h4 q1 q2
                obtain ⟨g, off, rfl, c0, c1, c2⟩ := cella.out wr HB n q1
                obtain ⟨g', off', rfl, d0, d1, d2⟩ := cellb.out wr HB n q2
                have hne := fun w => run_eql_ev2 a[n] b[n] w
                obtain ⟨x, hx⟩ : ∃ x, x = a[n] := ⟨_, rfl⟩
                obtain ⟨y, hy⟩ : ∃ y, y = b[n] := ⟨_, rfl⟩
                rw [← hy] at hab hne d0 d1 d2
                rw [← hx] at c0 c1 c2 hne hab
                have hd : decide (x = y) = false := by simp [hab]
                rw [hd] at hne
                clear hx hy hab hd h3 h4
                go_region
                go_wp2_with fail
                go_meet
                case rel => exact ⟨rfl, bl_drew HB⟩
              · have q2' : ¬ (n : Int) < (b.length : Int) := by omega
                clear h3 h4
                go_region
                go_wp2_with fail
                go_meet
                case rel => exact ⟨rfl, bl_drew HB⟩
            · have q1' : ¬ (n : Int) < (a.length : Int) := by omega
              clear h3 h4
              go_region
              go_wp2_with fail
              go_meet
              case rel => exact ⟨rfl, bl_drew HB⟩
        case rest =>
          clear HB
          obtain ⟨rfl, HB⟩ := hcut
          go_upto_region 17 with (go_at_call 8; refine (hT.out _ (ca3.out.grow HB)).mono ?_; rintro e w3 ⟨rfl, hb3⟩)
          refine gen_world fun W3 hW3 => ?_
          have k8 : W3.heap[w3.heap.size]? = some (.cells #[.int .i64 (c 0), .int .i64 (c 1), .int .i64 (c 2), .int .i64 (c 3), .int .i64 (c 4), .int .i64 (c 5)] 29 (0, 0)) := by subst hW3; exact blk_new _ _
          replace HB : Below w.heap.size w W3 := by subst hW3; exact bl_alloc (bl_call hb3 HB) _
          clear hW3
          obtain ⟨P8, hP8⟩ : ∃ g, g = w3.heap.size := ⟨_, rfl⟩
          rw [← hP8] at k8 ⊢
          clear hP8 hb3
          go_upto_region 18 with (go_at_call 9; refine (hR.out _ (ca3.out.grow HB)).mono ?_; rintro e w4 ⟨⟨lo, hi, any, rfl, hRc⟩, hb4⟩)
          refine gen_world fun W4 hW4 => ?_
          subst hW4
          replace k8 := grow_blk hb4 k8
          have l8 := blk_lt k8
          replace HB := bl_call hb4 HB
          clear hb4
          have hRch : ∀ e ∈ a, ls e → any = true ∧ lo ≤ e.i ∧ e.i ≤ hi := by
            rcases hRc with ⟨_, _, _, h⟩ | ⟨h1, h2, _, _⟩
            · exact fun e he hl => absurd hl (h e he)
            · exact fun e he hl => ⟨h1, h2 e he hl⟩
          replace hRch := Lib.hid hRch
          replace hRc := Lib.hid hRc
          go_upto_region 19 with fail
          refine gen_world fun W5 hW5 => ?_
          have k12 : W5.heap[W4.heap.size]? = some (.cells #[.int .i64 ((tl (a.take 0) 0 : Nat) : Int), .int .i64 ((tl (a.take 0) 1 : Nat) : Int), .int .i64 ((tl (a.take 0) 2 : Nat) : Int), .int .i64 ((tl (a.take 0) 3 : Nat) : Int), .int .i64 ((tl (a.take 0) 4 : Nat) : Int), .int .i64 ((tl (a.take 0) 5 : Nat) : Int)] 29 (0, 0)) := by subst hW5; exact blk_new _ _
          replace k8 : W5.heap[P8]? = some (.cells #[.int .i64 (c 0), .int .i64 (c 1), .int .i64 (c 2), .int .i64 (c 3), .int .i64 (c 4), .int .i64 (c 5)] 29 (0, 0)) := by subst hW5; exact blk_alloc k8 _
          have hP : w.heap.size ≤ W4.heap.size := HB.size
          replace HB : Below w.heap.size w W5 := by subst hW5; exact bl_alloc HB _
          have h812 : P8 ≠ W4.heap.size := by omega
          clear hW5
          obtain ⟨P12, hP12⟩ : ∃ g, g = W4.heap.size := ⟨_, rfl⟩
          rw [← hP12] at k12 hP h812 ⊢
          clear hP12 l8
          have HB0 := HB
          have k80 := k8
          have k120 := k12
          clear HB k8 k12
          go_wp2_with fail
          go_loopw [124, 13] (fun i mt wr => ∃ (j : Nat) (m : Bool), j ≤ a.length ∧ i = .int .i64 (j : Int) ∧ mt = .bool m ∧ (m = true ↔ ∃ e ∈ a.take j, ls e) ∧ Below w.heap.size w wr ∧ wr.heap[P8]? = some (.cells #[.int .i64 (c 0), .int .i64 (c 1), .int .i64 (c 2), .int .i64 (c 3), .int .i64 (c 4), .int .i64 (c 5)] 29 (0, 0)) ∧ wr.heap[P12]? = some (.cells #[.int .i64 ((tl (a.take j) 0 : Nat) : Int), .int .i64 ((tl (a.take j) 1 : Nat) : Int), .int .i64 ((tl (a.take j) 2 : Nat) : Int), .int .i64 ((tl (a.take j) 3 : Nat) : Int), .int .i64 ((tl (a.take j) 4 : Nat) : Int), .int .i64 ((tl (a.take j) 5 : Nat) : Int)] 29 (0, 0))) (fun i _ _ => a.length - (RowKit.intOf i).toNat)
          case atStart => exact ⟨0, false, by omega, rfl, rfl, by simp, HB0, k80, k120⟩
          case round =>
            clear HB0 k80 k120
            obtain ⟨j, m, hj, rfl, rfl, hm, HB, k8, k12⟩ := hrel
            replace hm := Lib.hid hm
            by_cases hlt : j < a.length
            · have hlt' : (j : Int) < (a.length : Int) := by omega
              obtain ⟨g, off, rfl, c0, c1, c2⟩ := cella.out wr HB j hlt
              have hst := fun c => tl_snoc (a.take j) a[j] c
              have htk := List.take_succ_eq_append_getElem hlt
              have hin : a[j] ∈ a := List.getElem_mem hlt
              have hrx := hRch.out _ hin
              obtain ⟨x, hx⟩ : ∃ x, x = a[j] := ⟨_, rfl⟩
              rw [← hx] at c0 c1 c2 htk hrx
              simp only [← hx] at hst
              have hle := fun c => tl_le (a.take j) c
              have htl : (a.take j).length = j := by rw [List.length_take]; omega
              rw [htl] at hle
              simp only [← htk] at hst
              have n0 := hle 0
              have n1 := hle 1
              have n2 := hle 2
              have n3 := hle 3
              have n4 := hle 4
              have n5 := hle 5
              replace hst := Lib.hid hst
              have hm1 : (∃ e ∈ a.take (j + 1), ls e) ↔ m = true ∨ ls x := by
                rw [htk, hm.out]
                simp only [List.mem_append, List.mem_singleton]
                constructor
                · rintro ⟨e, h | h, hl⟩
                  · exact .inl ⟨e, h, hl⟩
                  · exact .inr (h ▸ hl)
                · rintro (⟨e, h, hl⟩ | hl)
                  · exact ⟨e, .inl h, hl⟩
                  · exact ⟨x, .inr rfl, hl⟩
              replace hm1 := Lib.hid hm1
              replace hrx := Lib.hid hrx
              clear hx hin htk htl hle
              go_upto_region 23 with fail
              refine gen_world fun W2 hW2 => ?_
              have ke : W2.heap[wr.heap.size]? = some (.cells #[.int .i64 x.k, .int .i64 x.i, .int .u32 x.v] 28 (0, 0)) := by subst hW2; exact blk_new _ _
              have l12 := blk_lt k12
              replace k8 : W2.heap[P8]? = some (.cells #[.int .i64 (c 0), .int .i64 (c 1), .int .i64 (c 2), .int .i64 (c 3), .int .i64 (c 4), .int .i64 (c 5)] 29 (0, 0)) := by subst hW2; exact blk_alloc k8 _
              replace k12 : W2.heap[P12]? = some (.cells #[.int .i64 ((tl (a.take j) 0 : Nat) : Int), .int .i64 ((tl (a.take j) 1 : Nat) : Int), .int .i64 ((tl (a.take j) 2 : Nat) : Int), .int .i64 ((tl (a.take j) 3 : Nat) : Int), .int .i64 ((tl (a.take j) 4 : Nat) : Int), .int .i64 ((tl (a.take j) 5 : Nat) : Int)] 29 (0, 0)) := by subst hW2; exact blk_alloc k12 _
              replace HB : Below w.heap.size w W2 := by subst hW2; exact bl_alloc HB _
              have hE : wr.heap.size ≠ P12 := by omega
              clear hW2 c0 c1 c2 l12
              obtain ⟨PE, hPE⟩ : ∃ g, g = wr.heap.size := ⟨_, rfl⟩
              rw [← hPE] at ke hE ⊢
              clear hPE
              have e0 := blk_cell ke 0
              have e1 := blk_cell ke 1
              have t0 := blk_cell k12 0
              have t1 := blk_cell k12 1
              have t2 := blk_cell k12 2
              have t3 := blk_cell k12 3
              have t4 := blk_cell k12 4
              have t5 := blk_cell k12 5
              have f0 := blk_frozen k12 0
              have f1 := blk_frozen k12 1
              have f2 := blk_frozen k12 2
              have f3 := blk_frozen k12 3
              have f4 := blk_frozen k12 4
              have f5 := blk_frozen k12 5
              obtain ⟨xk, hxk⟩ : ∃ xk, xk = x.k := ⟨_, rfl⟩
              obtain ⟨xi, hxi⟩ : ∃ xi, xi = x.i := ⟨_, rfl⟩
              rw [← hxk] at e0
              rw [← hxi] at e1 hrx
              have hkd : kd x = if 1 ≤ xk ∧ xk ≤ 5 then xk.toNat else 0 := by rw [kd, ← hxk]
              have hlx : ls x ↔ xk = 1 ∨ xk = 2 := by rw [ls, ← hxk]
              clear hxk hxi ke
              rcases (show xk < 1 ∨ 5 < xk ∨ xk = 1 ∨ xk = 2 ∨ xk = 3 ∨ xk = 4 ∨ xk = 5 by omega) with hk | hk | rfl | rfl | rfl | rfl | rfl
              · rw [if_neg (by omega)] at hkd
                replace hkd := Lib.hid hkd
                have hlsx : ¬ ls x := by rw [hlx]; omega
                replace hlsx := Lib.hid hlsx
                clear hlx
                have hk' : ¬ 1 ≤ xk := by omega
                clear hrx
                go_wp2_with fail
                refine ⟨⟨j + 1, m, by omega, congrArg (Value.int .i64) (by omega), rfl, by rw [hm1.out]; simp [hlsx.out], bl_set _ _ hP HB, blk_far k8 h812 _, ?_⟩, by simp [RowKit.intOf] <;> omega⟩
                have e : #[.int .i64 ((tl (a.take (j + 1)) 0 : Nat) : Int), .int .i64 ((tl (a.take (j + 1)) 1 : Nat) : Int), .int .i64 ((tl (a.take (j + 1)) 2 : Nat) : Int), .int .i64 ((tl (a.take (j + 1)) 3 : Nat) : Int), .int .i64 ((tl (a.take (j + 1)) 4 : Nat) : Int), .int .i64 ((tl (a.take (j + 1)) 5 : Nat) : Int)] = (#[.int .i64 ((tl (a.take j) 0 : Nat) : Int), .int .i64 ((tl (a.take j) 1 : Nat) : Int), .int .i64 ((tl (a.take j) 2 : Nat) : Int), .int .i64 ((tl (a.take j) 3 : Nat) : Int), .int .i64 ((tl (a.take j) 4 : Nat) : Int), .int .i64 ((tl (a.take j) 5 : Nat) : Int)] : Array Value).setIfInBounds 0 (.int .i64 (((tl (List.take j a) 0 : Nat) : Int) + 1)) := by
                  simp [hst.out, hkd.out]
                rw [e]
                exact blk_set k12 0 _
              · rw [if_neg (by omega)] at hkd
                replace hkd := Lib.hid hkd
                have hlsx : ¬ ls x := by rw [hlx]; omega
                replace hlsx := Lib.hid hlsx
                clear hlx
                have hk' : 1 ≤ xk := by omega
                have hk2 : ¬ xk ≤ 5 := by omega
                clear hrx
                go_wp2_with fail
                refine ⟨⟨j + 1, m, by omega, congrArg (Value.int .i64) (by omega), rfl, by rw [hm1.out]; simp [hlsx.out], bl_set _ _ hP HB, blk_far k8 h812 _, ?_⟩, by simp [RowKit.intOf] <;> omega⟩
                have e : #[.int .i64 ((tl (a.take (j + 1)) 0 : Nat) : Int), .int .i64 ((tl (a.take (j + 1)) 1 : Nat) : Int), .int .i64 ((tl (a.take (j + 1)) 2 : Nat) : Int), .int .i64 ((tl (a.take (j + 1)) 3 : Nat) : Int), .int .i64 ((tl (a.take (j + 1)) 4 : Nat) : Int), .int .i64 ((tl (a.take (j + 1)) 5 : Nat) : Int)] = (#[.int .i64 ((tl (a.take j) 0 : Nat) : Int), .int .i64 ((tl (a.take j) 1 : Nat) : Int), .int .i64 ((tl (a.take j) 2 : Nat) : Int), .int .i64 ((tl (a.take j) 3 : Nat) : Int), .int .i64 ((tl (a.take j) 4 : Nat) : Int), .int .i64 ((tl (a.take j) 5 : Nat) : Int)] : Array Value).setIfInBounds 0 (.int .i64 (((tl (List.take j a) 0 : Nat) : Int) + 1)) := by
                  simp [hst.out, hkd.out]
                rw [e]
                exact blk_set k12 0 _
              · replace hkd := Lib.hid (show kd x = 1 from hkd)
                have hlsx : ls x := by rw [hlx]; omega
                replace hlsx := Lib.hid hlsx
                clear hlx
                obtain ⟨rfl, ge, le⟩ := hrx.out hlsx.out
                have g1 : ¬ xi < lo := by omega
                have g2 : ¬ hi < xi := by omega
                clear ge le
                clear hrx
                go_wp2_with fail
                refine ⟨⟨j + 1, true, by omega, congrArg (Value.int .i64) (by omega), rfl, by rw [hm1.out]; simp [hlsx.out], bl_set _ _ hP HB, blk_far k8 h812 _, ?_⟩, by simp [RowKit.intOf] <;> omega⟩
                have e : #[.int .i64 ((tl (a.take (j + 1)) 0 : Nat) : Int), .int .i64 ((tl (a.take (j + 1)) 1 : Nat) : Int), .int .i64 ((tl (a.take (j + 1)) 2 : Nat) : Int), .int .i64 ((tl (a.take (j + 1)) 3 : Nat) : Int), .int .i64 ((tl (a.take (j + 1)) 4 : Nat) : Int), .int .i64 ((tl (a.take (j + 1)) 5 : Nat) : Int)] = (#[.int .i64 ((tl (a.take j) 0 : Nat) : Int), .int .i64 ((tl (a.take j) 1 : Nat) : Int), .int .i64 ((tl (a.take j) 2 : Nat) : Int), .int .i64 ((tl (a.take j) 3 : Nat) : Int), .int .i64 ((tl (a.take j) 4 : Nat) : Int), .int .i64 ((tl (a.take j) 5 : Nat) : Int)] : Array Value).setIfInBounds 1 (.int .i64 (((tl (List.take j a) 1 : Nat) : Int) + 1)) := by
                  simp [hst.out, hkd.out]
                rw [e]
                exact blk_set k12 1 _
              · replace hkd := Lib.hid (show kd x = 2 from hkd)
                have hlsx : ls x := by rw [hlx]; omega
                replace hlsx := Lib.hid hlsx
                clear hlx
                obtain ⟨rfl, ge, le⟩ := hrx.out hlsx.out
                have g1 : ¬ xi < lo := by omega
                have g2 : ¬ hi < xi := by omega
                clear ge le
                clear hrx
                go_wp2_with fail
                refine ⟨⟨j + 1, true, by omega, congrArg (Value.int .i64) (by omega), rfl, by rw [hm1.out]; simp [hlsx.out], bl_set _ _ hP HB, blk_far k8 h812 _, ?_⟩, by simp [RowKit.intOf] <;> omega⟩
                have e : #[.int .i64 ((tl (a.take (j + 1)) 0 : Nat) : Int), .int .i64 ((tl (a.take (j + 1)) 1 : Nat) : Int), .int .i64 ((tl (a.take (j + 1)) 2 : Nat) : Int), .int .i64 ((tl (a.take (j + 1)) 3 : Nat) : Int), .int .i64 ((tl (a.take (j + 1)) 4 : Nat) : Int), .int .i64 ((tl (a.take (j + 1)) 5 : Nat) : Int)] = (#[.int .i64 ((tl (a.take j) 0 : Nat) : Int), .int .i64 ((tl (a.take j) 1 : Nat) : Int), .int .i64 ((tl (a.take j) 2 : Nat) : Int), .int .i64 ((tl (a.take j) 3 : Nat) : Int), .int .i64 ((tl (a.take j) 4 : Nat) : Int), .int .i64 ((tl (a.take j) 5 : Nat) : Int)] : Array Value).setIfInBounds 2 (.int .i64 (((tl (List.take j a) 2 : Nat) : Int) + 1)) := by
                  simp [hst.out, hkd.out]
                rw [e]
                exact blk_set k12 2 _
              · replace hkd := Lib.hid (show kd x = 3 from hkd)
                have hlsx : ¬ ls x := by rw [hlx]; omega
                replace hlsx := Lib.hid hlsx
                clear hlx
                clear hrx
                go_wp2_with fail
                refine ⟨⟨j + 1, m, by omega, congrArg (Value.int .i64) (by omega), rfl, by rw [hm1.out]; simp [hlsx.out], bl_set _ _ hP HB, blk_far k8 h812 _, ?_⟩, by simp [RowKit.intOf] <;> omega⟩
                have e : #[.int .i64 ((tl (a.take (j + 1)) 0 : Nat) : Int), .int .i64 ((tl (a.take (j + 1)) 1 : Nat) : Int), .int .i64 ((tl (a.take (j + 1)) 2 : Nat) : Int), .int .i64 ((tl (a.take (j + 1)) 3 : Nat) : Int), .int .i64 ((tl (a.take (j + 1)) 4 : Nat) : Int), .int .i64 ((tl (a.take (j + 1)) 5 : Nat) : Int)] = (#[.int .i64 ((tl (a.take j) 0 : Nat) : Int), .int .i64 ((tl (a.take j) 1 : Nat) : Int), .int .i64 ((tl (a.take j) 2 : Nat) : Int), .int .i64 ((tl (a.take j) 3 : Nat) : Int), .int .i64 ((tl (a.take j) 4 : Nat) : Int), .int .i64 ((tl (a.take j) 5 : Nat) : Int)] : Array Value).setIfInBounds 3 (.int .i64 (((tl (List.take j a) 3 : Nat) : Int) + 1)) := by
                  simp [hst.out, hkd.out]
                rw [e]
                exact blk_set k12 3 _
              · replace hkd := Lib.hid (show kd x = 4 from hkd)
                have hlsx : ¬ ls x := by rw [hlx]; omega
                replace hlsx := Lib.hid hlsx
                clear hlx
                clear hrx
                go_wp2_with fail
                refine ⟨⟨j + 1, m, by omega, congrArg (Value.int .i64) (by omega), rfl, by rw [hm1.out]; simp [hlsx.out], bl_set _ _ hP HB, blk_far k8 h812 _, ?_⟩, by simp [RowKit.intOf] <;> omega⟩
                have e : #[.int .i64 ((tl (a.take (j + 1)) 0 : Nat) : Int), .int .i64 ((tl (a.take (j + 1)) 1 : Nat) : Int), .int .i64 ((tl (a.take (j + 1)) 2 : Nat) : Int), .int .i64 ((tl (a.take (j + 1)) 3 : Nat) : Int), .int .i64 ((tl (a.take (j + 1)) 4 : Nat) : Int), .int .i64 ((tl (a.take (j + 1)) 5 : Nat) : Int)] = (#[.int .i64 ((tl (a.take j) 0 : Nat) : Int), .int .i64 ((tl (a.take j) 1 : Nat) : Int), .int .i64 ((tl (a.take j) 2 : Nat) : Int), .int .i64 ((tl (a.take j) 3 : Nat) : Int), .int .i64 ((tl (a.take j) 4 : Nat) : Int), .int .i64 ((tl (a.take j) 5 : Nat) : Int)] : Array Value).setIfInBounds 4 (.int .i64 (((tl (List.take j a) 4 : Nat) : Int) + 1)) := by
                  simp [hst.out, hkd.out]
                rw [e]
                exact blk_set k12 4 _
              · replace hkd := Lib.hid (show kd x = 5 from hkd)
                have hlsx : ¬ ls x := by rw [hlx]; omega
                replace hlsx := Lib.hid hlsx
                clear hlx
                clear hrx
                go_wp2_with fail
                refine ⟨⟨j + 1, m, by omega, congrArg (Value.int .i64) (by omega), rfl, by rw [hm1.out]; simp [hlsx.out], bl_set _ _ hP HB, blk_far k8 h812 _, ?_⟩, by simp [RowKit.intOf] <;> omega⟩
                have e : #[.int .i64 ((tl (a.take (j + 1)) 0 : Nat) : Int), .int .i64 ((tl (a.take (j + 1)) 1 : Nat) : Int), .int .i64 ((tl (a.take (j + 1)) 2 : Nat) : Int), .int .i64 ((tl (a.take (j + 1)) 3 : Nat) : Int), .int .i64 ((tl (a.take (j + 1)) 4 : Nat) : Int), .int .i64 ((tl (a.take (j + 1)) 5 : Nat) : Int)] = (#[.int .i64 ((tl (a.take j) 0 : Nat) : Int), .int .i64 ((tl (a.take j) 1 : Nat) : Int), .int .i64 ((tl (a.take j) 2 : Nat) : Int), .int .i64 ((tl (a.take j) 3 : Nat) : Int), .int .i64 ((tl (a.take j) 4 : Nat) : Int), .int .i64 ((tl (a.take j) 5 : Nat) : Int)] : Array Value).setIfInBounds 5 (.int .i64 (((tl (List.take j a) 5 : Nat) : Int) + 1)) := by
                  simp [hst.out, hkd.out]
                rw [e]
                exact blk_set k12 5 _
            · obtain rfl : j = a.length := by omega
              have hlt' : ¬ (a.length : Int) < (a.length : Int) := by omega
              rw [List.take_of_length_le (Nat.le_refl _)] at hm k12
              have ec : ∀ q, ((tl a q : Nat) : Int) = c q := fun q => (hc.out q).symm
              simp only [ec] at k12
              have hany : any = m := by
                have := hm.out
                rcases hRc.out with ⟨h1, _, _, h⟩ | ⟨h1, _, ⟨e, he, hl, _⟩, _⟩
                · cases m with
                  | false => exact h1
                  | true => obtain ⟨e, he, hl⟩ := this.1 rfl; exact absurd hl (h e he)
                · rw [h1, this.2 ⟨e, he, hl⟩]
              subst hany
              clear ec
              have t0 := blk_cell k12 0
              have t1 := blk_cell k12 1
              have t2 := blk_cell k12 2
              have t3 := blk_cell k12 3
              have t4 := blk_cell k12 4
              have t5 := blk_cell k12 5
              have s0 := blk_cell k8 0
              have s1 := blk_cell k8 1
              have s2 := blk_cell k8 2
              have s3 := blk_cell k8 3
              have s4 := blk_cell k8 4
              have s5 := blk_cell k8 5
              have hcn := run_neq_cnt c
              have HB9 := HB
              cases any with
              | false =>
                have hz : lo = 0 ∧ hi = 0 := by
                  rcases hRc.out with ⟨_, h2, h3, _⟩ | ⟨h1, _⟩
                  · exact ⟨h2, h3⟩
                  · cases h1
                obtain ⟨rfl, rfl⟩ := hz
                go_wp2_with fail
                exact bodyPost_ret (v := .bool true) (by simp [results, Tryd.results3, go_sem]) rfl ⟨rfl, HB⟩
              | true =>
                have hfin : (∃ e ∈ a, ls e ∧ e.i = lo) ∧ (∃ e ∈ a, ls e ∧ e.i = hi) := by
                  rcases hRc.out with ⟨h1, _⟩ | ⟨_, _, h3, h4⟩
                  · cases h1
                  · exact ⟨h3, h4⟩
                replace hfin := Lib.hid hfin
                go_upto_region 36 with fail
                clear t0 t1 t2 t3 t4 t5 s0 s1 s2 s3 s4 s5 k8 k12 hcn hm
                have HB0 := HB9
                clear HB9 HB
                go_wp2_with fail
                go_loopw [182, 17, 18] (fun i l h wr => ∃ (j : Nat) (lw hg : Bool), j ≤ a.length ∧ i = .int .i64 (j : Int) ∧ l = .bool lw ∧ h = .bool hg ∧ (lw = true ↔ ∃ e ∈ a.take j, ls e ∧ e.i = lo) ∧ (hg = true ↔ ∃ e ∈ a.take j, ls e ∧ e.i = hi) ∧ Below w.heap.size w wr) (fun i _ _ _ => a.length - (RowKit.intOf i).toNat)
                case atStart => exact ⟨0, false, false, by omega, rfl, rfl, rfl, by simp, by simp, HB0⟩
                case round =>
                  clear HB0
                  obtain ⟨j, lw, hg, hj, rfl, rfl, rfl, hlw, hhg, HB⟩ := hrel
                  replace hlw := Lib.hid hlw
                  replace hhg := Lib.hid hhg
                  by_cases hlt : j < a.length
                  · have hlt' : (j : Int) < (a.length : Int) := by omega
                    obtain ⟨g, off, rfl, c0, c1, c2⟩ := cella.out wr HB j hlt
                    have htk := List.take_succ_eq_append_getElem hlt
                    obtain ⟨x, hx⟩ : ∃ x, x = a[j] := ⟨_, rfl⟩
                    rw [← hx] at c0 c1 c2 htk
                    have hm1 : ∀ v, (∃ e ∈ a.take (j + 1), ls e ∧ e.i = v) ↔ (∃ e ∈ a.take j, ls e ∧ e.i = v) ∨ (ls x ∧ x.i = v) := by
                      intro v
                      rw [htk]
                      simp only [List.mem_append, List.mem_singleton]
                      constructor
                      · rintro ⟨e, h | h, hl⟩
                        · exact .inl ⟨e, h, hl⟩
                        · exact .inr (h ▸ hl)
                      · rintro (⟨e, h, hl⟩ | hl)
                        · exact ⟨e, .inl h, hl⟩
                        · exact ⟨x, .inr rfl, hl⟩
                    replace hm1 := Lib.hid hm1
                    clear hx htk
                    go_upto_region 40 with fail
                    refine gen_world fun W2 hW2 => ?_
                    have ke : W2.heap[wr.heap.size]? = some (.cells #[.int .i64 x.k, .int .i64 x.i, .int .u32 x.v] 28 (0, 0)) := by subst hW2; exact blk_new _ _
                    replace HB : Below w.heap.size w W2 := by subst hW2; exact bl_alloc HB _
                    clear hW2 c0 c1 c2
                    obtain ⟨PE, hPE⟩ : ∃ g, g = wr.heap.size := ⟨_, rfl⟩
                    rw [← hPE] at ke ⊢
                    clear hPE
                    have e0 := blk_cell ke 0
                    have e1 := blk_cell ke 1
                    obtain ⟨xk, hxk⟩ : ∃ xk, xk = x.k := ⟨_, rfl⟩
                    obtain ⟨xi, hxi⟩ : ∃ xi, xi = x.i := ⟨_, rfl⟩
                    rw [← hxk] at e0
                    rw [← hxi] at e1
                    have hlx : ls x ↔ xk = 1 ∨ xk = 2 := by rw [ls, ← hxk]
                    obtain ⟨b1, q1⟩ : ∃ b, (xi == lo) = b := ⟨_, rfl⟩
                    obtain ⟨b2, q2⟩ : ∃ b, (xi == hi) = b := ⟨_, rfl⟩
                    obtain ⟨d1, r1⟩ : ∃ b, (xk == 1) = b := ⟨_, rfl⟩
                    obtain ⟨d2, r2⟩ : ∃ b, (xk == 2) = b := ⟨_, rfl⟩
                    have key : ∀ (p b : Bool) (v : Int), (p = true ↔ ∃ e ∈ a.take j, ls e ∧ e.i = v) → (xi == v) = b → ((p || (b && (d1 || d2))) = true ↔ ∃ e ∈ a.take (j + 1), ls e ∧ e.i = v) := fun p b v hp hb => by
                      rw [hm1.out v, ← hp, hlx, ← hxi, ← hb, ← r1, ← r2]
                      simp [and_comm]
                    have key1 := key lw b1 lo hlw.out q1
                    have key2 := key hg b2 hi hhg.out q2
                    clear hxk hxi ke key hlx hm1 hlw hhg
                    replace key1 := Lib.hid key1
                    replace key2 := Lib.hid key2
                    cases lw with
                    | true =>
                      cases hg with
                      | true =>
                        go_quiet (fail)
                        go_wp2_with fail
                        exact ⟨⟨j + 1, _, _, by omega, congrArg (Value.int .i64) (by omega), rfl, rfl, by simpa using key1.out, by simpa using key2.out, bl_drewN HB _⟩, by simp [RowKit.intOf] <;> omega⟩
                      | false =>
                        cases b2 with
                        | true =>
                          cases d1 with
                          | true =>
                            go_quiet (fail)
                            go_wp2_with fail
                            exact ⟨⟨j + 1, _, _, by omega, congrArg (Value.int .i64) (by omega), rfl, rfl, by simpa using key1.out, by simpa using key2.out, bl_drewN HB _⟩, by simp [RowKit.intOf] <;> omega⟩
                          | false =>
                            cases d2 with
                            | true =>
                              go_quiet (fail)
                              go_wp2_with fail
                              exact ⟨⟨j + 1, _, _, by omega, congrArg (Value.int .i64) (by omega), rfl, rfl, by simpa using key1.out, by simpa using key2.out, bl_drewN HB _⟩, by simp [RowKit.intOf] <;> omega⟩
                            | false =>
                              go_quiet (fail)
                              go_wp2_with fail
                              exact ⟨⟨j + 1, _, _, by omega, congrArg (Value.int .i64) (by omega), rfl, rfl, by simpa using key1.out, by simpa using key2.out, bl_drewN HB _⟩, by simp [RowKit.intOf] <;> omega⟩
                        | false =>
                          go_quiet (fail)
                          go_wp2_with fail
                          exact ⟨⟨j + 1, _, _, by omega, congrArg (Value.int .i64) (by omega), rfl, rfl, by simpa using key1.out, by simpa using key2.out, bl_drewN HB _⟩, by simp [RowKit.intOf] <;> omega⟩
                    | false =>
                      cases b1 with
                      | true =>
                        cases hg with
                        | true =>
                          cases d1 with
                          | true =>
                            go_quiet (fail)
                            go_wp2_with fail
                            exact ⟨⟨j + 1, _, _, by omega, congrArg (Value.int .i64) (by omega), rfl, rfl, by simpa using key1.out, by simpa using key2.out, bl_drewN HB _⟩, by simp [RowKit.intOf] <;> omega⟩
                          | false =>
                            cases d2 with
                            | true =>
                              go_quiet (fail)
                              go_wp2_with fail
                              exact ⟨⟨j + 1, _, _, by omega, congrArg (Value.int .i64) (by omega), rfl, rfl, by simpa using key1.out, by simpa using key2.out, bl_drewN HB _⟩, by simp [RowKit.intOf] <;> omega⟩
                            | false =>
                              go_quiet (fail)
                              go_wp2_with fail
                              exact ⟨⟨j + 1, _, _, by omega, congrArg (Value.int .i64) (by omega), rfl, rfl, by simpa using key1.out, by simpa using key2.out, bl_drewN HB _⟩, by simp [RowKit.intOf] <;> omega⟩
                        | false =>
                          cases b2 with
                          | true =>
                            cases d1 with
                            | true =>
                              go_quiet (fail)
                              go_wp2_with fail
                              exact ⟨⟨j + 1, _, _, by omega, congrArg (Value.int .i64) (by omega), rfl, rfl, by simpa using key1.out, by simpa using key2.out, bl_drewN HB _⟩, by simp [RowKit.intOf] <;> omega⟩
                            | false =>
                              cases d2 with
                              | true =>
                                go_quiet (fail)
                                go_wp2_with fail
                                exact ⟨⟨j + 1, _, _, by omega, congrArg (Value.int .i64) (by omega), rfl, rfl, by simpa using key1.out, by simpa using key2.out, bl_drewN HB _⟩, by simp [RowKit.intOf] <;> omega⟩
                              | false =>
                                go_quiet (fail)
                                go_wp2_with fail
                                exact ⟨⟨j + 1, _, _, by omega, congrArg (Value.int .i64) (by omega), rfl, rfl, by simpa using key1.out, by simpa using key2.out, bl_drewN HB _⟩, by simp [RowKit.intOf] <;> omega⟩
                          | false =>
                            cases d1 with
                            | true =>
                              go_quiet (fail)
                              go_wp2_with fail
                              exact ⟨⟨j + 1, _, _, by omega, congrArg (Value.int .i64) (by omega), rfl, rfl, by simpa using key1.out, by simpa using key2.out, bl_drewN HB _⟩, by simp [RowKit.intOf] <;> omega⟩
                            | false =>
                              cases d2 with
                              | true =>
                                go_quiet (fail)
                                go_wp2_with fail
                                exact ⟨⟨j + 1, _, _, by omega, congrArg (Value.int .i64) (by omega), rfl, rfl, by simpa using key1.out, by simpa using key2.out, bl_drewN HB _⟩, by simp [RowKit.intOf] <;> omega⟩
                              | false =>
                                go_quiet (fail)
                                go_wp2_with fail
                                exact ⟨⟨j + 1, _, _, by omega, congrArg (Value.int .i64) (by omega), rfl, rfl, by simpa using key1.out, by simpa using key2.out, bl_drewN HB _⟩, by simp [RowKit.intOf] <;> omega⟩
                      | false =>
                        cases hg with
                        | true =>
                          go_quiet (fail)
                          go_wp2_with fail
                          exact ⟨⟨j + 1, _, _, by omega, congrArg (Value.int .i64) (by omega), rfl, rfl, by simpa using key1.out, by simpa using key2.out, bl_drewN HB _⟩, by simp [RowKit.intOf] <;> omega⟩
                        | false =>
                          cases b2 with
                          | true =>
                            cases d1 with
                            | true =>
                              go_quiet (fail)
                              go_wp2_with fail
                              exact ⟨⟨j + 1, _, _, by omega, congrArg (Value.int .i64) (by omega), rfl, rfl, by simpa using key1.out, by simpa using key2.out, bl_drewN HB _⟩, by simp [RowKit.intOf] <;> omega⟩
                            | false =>
                              cases d2 with
                              | true =>
                                go_quiet (fail)
                                go_wp2_with fail
                                exact ⟨⟨j + 1, _, _, by omega, congrArg (Value.int .i64) (by omega), rfl, rfl, by simpa using key1.out, by simpa using key2.out, bl_drewN HB _⟩, by simp [RowKit.intOf] <;> omega⟩
                              | false =>
                                go_quiet (fail)
                                go_wp2_with fail
                                exact ⟨⟨j + 1, _, _, by omega, congrArg (Value.int .i64) (by omega), rfl, rfl, by simpa using key1.out, by simpa using key2.out, bl_drewN HB _⟩, by simp [RowKit.intOf] <;> omega⟩
                          | false =>
                            go_quiet (fail)
                            go_wp2_with fail
                            exact ⟨⟨j + 1, _, _, by omega, congrArg (Value.int .i64) (by omega), rfl, rfl, by simpa using key1.out, by simpa using key2.out, bl_drewN HB _⟩, by simp [RowKit.intOf] <;> omega⟩
                  · obtain rfl : j = a.length := by omega
                    have hlt' : ¬ (a.length : Int) < (a.length : Int) := by omega
                    rw [List.take_of_length_le (Nat.le_refl _)] at hlw hhg
                    obtain rfl : lw = true := hlw.out.2 hfin.out.1
                    obtain rfl : hg = true := hhg.out.2 hfin.out.2
                    go_wp2_with fail
                    exact bodyPost_ret (v := .bool true) (by simp [results, Tryd.results3, go_sem]) rfl ⟨rfl, HB⟩
end Go.Proofs.YtcophjjjkonpjaaDoor

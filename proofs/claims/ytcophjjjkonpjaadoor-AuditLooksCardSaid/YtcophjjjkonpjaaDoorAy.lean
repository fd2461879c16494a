/- The contract of audit.Runs. -/
import Derived.Test.YtcophjjjkonpjaaDoorAx
import Derived.Deep.CutRange
import Derived.BigQuiet
namespace Go.Proofs.YtcophjjjkonpjaaDoor
open Go.RowKit
set_option maxRecDepth 100000
set_option linter.unusedSimpArgs false
set_option linter.unusedVariables false
theorem Below.byApart {F : Nat → Prop} {w W W1 : World} (h : Apart F W W1) (hb : Below w.heap.size w W) (hF : ∀ b, F b → w.heap.size ≤ b) : Below w.heap.size w W1 :=
  hb.trans ⟨h.os, h.tape, h.output, h.size, fun b q => h.block b (by have := hb.size; omega) fun z => by have := hF b z; omega⟩
set_option maxHeartbeats 4000000 in
theorem Runs_c (a : List Evt) (va : Value) (w : World) (ha : RowE w va a) (hwf : WfE a) (la : a.length ≤ 100000) : Calls Tryd.prog 14 #[va] w fun e w' => (∃ ao cap, e = .returned (.slice ao (runsL a).length cap) ∧ w'.ownsRow w.heap.size 49 5 (.slice ao (runsL a).length cap) (runsL a).length ((runsL a).flatMap rc)) ∧ Below w.heap.size w w' := by
  obtain ⟨aa, ca, rfl, ca3⟩ := ha
  have cell : ∀ (W : World), Below w.heap.size w W → ∀ j (h : j < a.length), ∃ g off, aa = some ⟨g, off, none⟩ ∧ W.cell? ⟨g, off + j * 3, none⟩ = some (.int .i64 a[j].k) ∧ W.cell? ⟨g, off + j * 3 + 1, none⟩ = some (.int .i64 a[j].i) ∧ W.cell? ⟨g, off + j * 3 + 2, none⟩ = some (.int .u32 a[j].v) := fun W hb j h => by
    obtain ⟨g, off, e, c0, c1, c2⟩ := ca3 j h
    exact ⟨g, off, e, grow_cell hb c0, grow_cell hb c1, grow_cell hb c2⟩
  replace cell := Lib.hid cell
  clear ca3
  replace hwf := Lib.hid hwf
  have hO0 : w.ownsRow w.heap.size 49 5 (.slice none 0 0) (([] : List Rn).length) (([] : List Rn).flatMap rc) := World.ownsRow_nil _ _ _ _
  have hch0 : runsL a = [] ++ runsL (a.drop 0) := rfl
  go_enter Tryd.func14, Tryd.ntmps14
  go_wp2_with fail
  go_loopw [4, 3] (fun i sv wr => ∃ (j : Nat) (acc : List Rn), j ≤ a.length ∧ i = .int .i64 (j : Int) ∧ acc.length ≤ j ∧ runsL a = acc ++ runsL (a.drop j) ∧ Below w.heap.size w wr ∧ wr.ownsRow w.heap.size 49 5 sv acc.length (acc.flatMap rc)) (fun i _ _ => a.length - (RowKit.intOf i).toNat)
  case atStart => exact ⟨0, [], by omega, rfl, by simp, hch0, Below.refl _ _, hO0⟩
  case round =>
    clear hO0 hch0
    obtain ⟨j, acc, hj, rfl, hal, hch, HB, HO⟩ := hrel
    replace hch := Lib.hid hch
    by_cases hlt : j < a.length
    · have hlt' : (j : Int) < (a.length : Int) := by omega
      obtain ⟨g, off, rfl, c0, c1, c2⟩ := cell.out wr HB j hlt
      have hdr := List.drop_eq_getElem_cons hlt
      obtain ⟨x, hx⟩ : ∃ x, x = a[j] := ⟨_, rfl⟩
      rw [← hx] at c0 c1 c2 hdr
      replace hdr := Lib.hid hdr
      replace hx := Lib.hid hx
      have lg : g < wr.heap.size := cell_lt' c0
      have p0 : ∀ o, (wr.alloc o).cell? ⟨g, off + j * 3, none⟩ = some (.int .i64 x.k) := fun o => (World.cell?_alloc_lt wr o _ lg).trans c0
      have p1 : ∀ o, (wr.alloc o).cell? ⟨g, off + j * 3 + 1, none⟩ = some (.int .i64 x.i) := fun o => (World.cell?_alloc_lt wr o _ lg).trans c1
      have p2 : ∀ o, (wr.alloc o).cell? ⟨g, off + j * 3 + 2, none⟩ = some (.int .u32 x.v) := fun o => (World.cell?_alloc_lt wr o _ lg).trans c2
      go_upto_region 4 with fail
      go_region
      go_upto_region 6 with fail
      refine gen_world fun W hW2 => ?_
      have kr : W.heap[wr.heap.size]? = some (.cells #[.int .i64 x.k, .int .i64 x.i, .int .i64 0, .int .i64 1, .int .u32 x.v] 49 (0, 0)) := by subst hW2; exact blk_new _ _
      have hna : u3.ownBlock ≠ some wr.heap.size := fun q => by have := (ownsRow_lt HO q).2; omega
      replace HO : W.ownsRow w.heap.size 49 5 u3 acc.length (acc.flatMap rc) := by subst hW2; exact ownsRow_block HO fun g hg => heap_alloc_old _ _ (ownsRow_lt HO hg).2
      have hGw : w.heap.size ≤ wr.heap.size := HB.size
      replace HB : Below w.heap.size w W := by subst hW2; exact bl_drew (bl_alloc HB _)
      clear hW2 p0 p1 p2 c0 c1 c2 lg
      obtain ⟨G, hG⟩ : ∃ G, G = wr.heap.size := ⟨_, rfl⟩
      rw [← hG] at kr hna hGw ⊢
      clear hG
      go_cut [43] from 6 to 99 (fun s43 wc => s43 = .bool (nxt x (a.drop (j + 1))) ∧ Below w.heap.size w wc ∧ wc.heap[G]? = some (.cells #[.int .i64 x.k, .int .i64 x.i, .int .i64 0, .int .i64 1, .int .u32 x.v] 49 (0, 0)) ∧ wc.ownsRow w.heap.size 49 5 u3 acc.length (acc.flatMap rc))
      case first =>
        by_cases hlt2 : j + 1 < a.length
        case neg =>
          have hdn : a.drop (j + 1) = [] := List.drop_eq_nil_of_le (by omega)
          have hq : ¬ (j : Int) + 1 < (a.length : Int) := by omega
          go_upto_region 6 with fail
          go_region
          go_wp2_with fail
          go_meet
          case rel => exact ⟨by rw [hdn]; rfl, bl_drew HB, kr, HO⟩
        case pos =>
          have hlt2' : (j : Int) + 1 < (a.length : Int) := by omega
          obtain ⟨g1, off1, e1, c0, c1, c2⟩ := cell.out W HB j hlt
          cases e1
          rw [← hx.out] at c0 c1 c2
          obtain ⟨g2, off2, e2, d0, d1, d2⟩ := cell.out W HB (j + 1) hlt2
          cases e2
          obtain ⟨y, hy⟩ : ∃ y, y = a[j + 1] := ⟨_, rfl⟩
          rw [← hy] at d0 d1 d2
          replace hy := Lib.hid hy
          have wj : IntKind.i64.wrap (j : Int) = (j : Int) := IntWalk.i64_in _ (by omega)
          have nj : (((j : Int) + 1)).toNat = j + 1 := by omega
          have pj : 0 ≤ (j : Int) + 1 := by omega
          refine wp_region_grow (fun w' => Below W.heap.size W w') 15 (by kernel_rfl) (by kernel_rfl) ⟨rfl, rfl, rfl, Nat.le_refl _, fun _ _ => rfl⟩ ?_
          simp only [List.take_succ_cons, List.take_zero, List.drop_succ_cons, List.drop_zero]
          repeat (first | go_big_quiet_skip | (go_big_quiet_want; go_big_quiet_op; first | go_big_quiet_on | (apply Exists.intro; refine ⟨fun w1 hw1 => ?_, ?_⟩; (first | exact rfl | (simp only [grow_cell hw1 c0, grow_cell hw1 c1, grow_cell hw1 c2, Result.andThen_ok]; exact ⟨trivial, rfl⟩) | (simp only [grow_cell hw1 d0, grow_cell hw1 d1, grow_cell hw1 d2, Result.andThen_ok]; exact ⟨trivial, rfl⟩) | (go_at_call 26; refine Calls_grow hw1 (like_c x y w1))); go_big_quiet_on)))
          refine wpQuiet_nil ?_
          intro w1 hw1
          replace kr := grow_blk hw1 kr
          replace HO : w1.ownsRow w.heap.size 49 5 u3 acc.length (acc.flatMap rc) := ownsRow_block HO fun g hg => hw1.block g (ownsRow_lt HO hg).2
          replace HB := bl_call hw1 HB
          have hdr2 := List.drop_eq_getElem_cons hlt2
          rw [← hy.out] at hdr2
          have hnx : nxt x (a.drop (j + 1)) = lk x y := by rw [hdr2, nxt]
          go_wp2_with fail
          all_goals go_meet
          case rel => exact ⟨by rw [hnx], HB, kr, HO⟩
      case rest =>
        clear HB kr HO
        obtain ⟨rfl, HB, kr, HO⟩ := hcut
        go_upto_if 43 with fail
        go_cut [] from 6 to 99 (fun wd => Below w.heap.size w wd ∧ wd.heap[G]? = some (.cells #[.int .i64 x.k, .int .i64 x.i, .int .i64 (stepOf x (a.drop (j + 1))), .int .i64 1, .int .u32 x.v] 49 (0, 0)) ∧ wd.ownsRow w.heap.size 49 5 u3 acc.length (acc.flatMap rc))
        case first =>
          cases hnx : nxt x (a.drop (j + 1)) with
          | false =>
            have hst : stepOf x (a.drop (j + 1)) = 0 := by
              cases hd : a.drop (j + 1) with
              | nil => rfl
              | cons f r => rw [hd] at hnx; simp only [nxt] at hnx; simp [stepOf, hnx]
            go_wp2_with fail
            go_meet
            case rel => exact ⟨HB, by rw [hst]; exact kr, HO⟩
          | true =>
            have hlt2 : j + 1 < a.length := by
              rcases Nat.lt_or_ge (j + 1) a.length with h | h
              · exact h
              · rw [List.drop_eq_nil_of_le h] at hnx; cases hnx
            have hlt2' : (j : Int) + 1 < (a.length : Int) := by omega
            obtain ⟨g1, off1, e1, c0, c1, c2⟩ := cell.out wc HB j hlt
            cases e1
            rw [← hx.out] at c1
            obtain ⟨g2, off2, e2, d0, d1, d2⟩ := cell.out wc HB (j + 1) hlt2
            cases e2
            obtain ⟨y, hy⟩ : ∃ y, y = a[j + 1] := ⟨_, rfl⟩
            rw [← hy] at d1
            have hdr2 := List.drop_eq_getElem_cons hlt2
            rw [← hy] at hdr2
            have hst : stepOf x (a.drop (j + 1)) = wrap64 (y.i - x.i) := by
              rw [hdr2] at hnx ⊢
              simp only [nxt] at hnx
              simp only [stepOf, hnx, if_true, far]
            replace hst := Lib.hid hst
            have wj : IntKind.i64.wrap (j : Int) = (j : Int) := IntWalk.i64_in _ (by omega)
            have nj : (((j : Int) + 1)).toNat = j + 1 := by omega
            have pj : 0 ≤ (j : Int) + 1 := by omega
            have t2 := blk_cell kr 2
            have f2 := blk_frozen kr 2
            clear c0 c2 d0 d2 hdr2 hy
            go_upto_region 7 with fail
            go_region
            go_wp2_with fail
            go_meet
            case rel =>
              refine ⟨bl_drew (bl_set _ _ hGw HB), ?_, ?_⟩
              · rw [hst.out]
                exact blk_set kr 2 _
              · exact ownsRow_block HO fun g hg => Below.heap_setCell _ _ _ g fun q => hna (by rw [hg]; exact congrArg some q)
        case rest =>
          clear HB kr HO
          obtain ⟨HB, kr, HO⟩ := hcut
          have hstep := hdr.out
          obtain ⟨s, hs⟩ : ∃ s, s = stepOf x (a.drop (j + 1)) := ⟨_, rfl⟩
          rw [← hs] at kr
          replace hs := Lib.hid hs
          clear hstep
          have hE0 : ext x s (a.drop (j + 1)) = (j - j) + ext x s (a.drop (j + 1)) := by omega
          go_wp2_with fail
          go_loopw [4] (fun i wt => ∃ (m : Nat) (p : Evt), j ≤ m ∧ m < a.length ∧ i = .int .i64 ((m + 1 : Nat) : Int) ∧ a[m]? = some p ∧ ext x s (a.drop (j + 1)) = (m - j) + ext p s (a.drop (m + 1)) ∧ Below w.heap.size w wt ∧ wt.heap[G]? = some (.cells #[.int .i64 x.k, .int .i64 x.i, .int .i64 s, .int .i64 (((m - j : Nat) : Int) + 1), .int .u32 x.v] 49 (0, 0)) ∧ wt.ownsRow w.heap.size 49 5 u3 acc.length (acc.flatMap rc)) (fun i _ => a.length + 1 - (RowKit.intOf i).toNat)
          case atStart => exact ⟨j, x, by omega, hlt, rfl, by rw [List.getElem?_eq_getElem hlt, ← hx.out], hE0, HB, by simpa using kr, HO⟩
          case round =>
            clear HB kr HO hE0
            obtain ⟨m, p, hjm, hma, rfl, hp, hE, HB, kr, HO⟩ := hrel
            replace hE := Lib.hid hE
            go_upto_region 8 with fail
            go_cut [89] from 57 to 95 (fun s89 wd => s89 = .bool (gox p s (a.drop (m + 1))) ∧ Below w.heap.size w wd ∧ wd.heap[G]? = some (.cells #[.int .i64 x.k, .int .i64 x.i, .int .i64 s, .int .i64 (((m - j : Nat) : Int) + 1), .int .u32 x.v] 49 (0, 0)) ∧ wd.ownsRow w.heap.size 49 5 u3 acc.length (acc.flatMap rc))
            case first =>
              obtain ⟨W, hW⟩ : ∃ W : World, W = wr := ⟨_, rfl⟩
              rw [← hW] at HB kr HO ⊢
              clear hW
              by_cases hlt2 : m + 1 < a.length
              case neg =>
                have hdn : a.drop (m + 1) = [] := List.drop_eq_nil_of_le (by omega)
                have hq : ¬ (m : Int) + 1 < (a.length : Int) := by omega
                go_region
                go_wp2_with fail
                go_meet
                case rel => exact ⟨by rw [hdn]; rfl, bl_drew HB, kr, HO⟩
              case pos =>
                have hlt2' : (m : Int) + 1 < (a.length : Int) := by omega
                obtain ⟨g1, off1, e1, c0, c1, c2⟩ := cell.out W HB m hma
                cases e1
                have hpe : a[m] = p := by rw [List.getElem?_eq_getElem hma] at hp; exact Option.some.inj hp
                rw [hpe] at c0 c1 c2
                obtain ⟨g2, off2, e2, d0, d1, d2⟩ := cell.out W HB (m + 1) hlt2
                cases e2
                obtain ⟨y, hy⟩ : ∃ y, y = a[m + 1] := ⟨_, rfl⟩
                rw [← hy] at d0 d1 d2
                have hdr2 := List.drop_eq_getElem_cons hlt2
                rw [← hy] at hdr2
                have hgx : gox p s (a.drop (m + 1)) = (lk p y && decide (far p y = s)) := by rw [hdr2, gox]
                have t2 : W.cell? ⟨G, 2, none⟩ = some (.int .i64 s) := blk_cell kr 2
                have wj : IntKind.i64.wrap (m : Int) = (m : Int) := IntWalk.i64_in _ (by omega)
                have nj : (((m : Int) + 1)).toNat = m + 1 := by omega
                have pj : 0 ≤ (m : Int) + 1 := by omega
                have hL := fun w => like_c p y w
                clear hdr2 hy hpe hp cell hE hch hdr hx hs hwf
                cases hlk : lk p y with
                | false =>
                  simp only [hlk] at hL
                  replace hgx := Lib.hid (show gox p s (a.drop (m + 1)) = false by rw [hgx, hlk]; rfl)
                  clear hlk
                  refine wp_region_grow (fun w' => Below W.heap.size W w') 32 (by kernel_rfl) (by kernel_rfl) ⟨rfl, rfl, rfl, Nat.le_refl _, fun _ _ => rfl⟩ ?_
                  simp only [List.take_succ_cons, List.take_zero, List.drop_succ_cons, List.drop_zero]
                  repeat (first | go_big_quiet_skip | (go_big_quiet_want; go_big_quiet_op; first | go_big_quiet_on | (apply Exists.intro; refine ⟨fun w1 hw1 => ?_, ?_⟩; (first | exact rfl | (simp only [grow_cell hw1 c0, grow_cell hw1 c1, grow_cell hw1 c2, Result.andThen_ok]; exact ⟨trivial, rfl⟩) | (simp only [grow_cell hw1 d0, grow_cell hw1 d1, grow_cell hw1 d2, Result.andThen_ok]; exact ⟨trivial, rfl⟩) | (simp only [grow_cell hw1 t2, Result.andThen_ok]; exact ⟨trivial, rfl⟩) | (go_at_call 26; refine Calls_grow hw1 (hL w1))); go_big_quiet_on)))
                  refine wpQuiet_nil ?_
                  intro w1 hw1
                  replace kr := grow_blk hw1 kr
                  replace HO : w1.ownsRow w.heap.size 49 5 u3 acc.length (acc.flatMap rc) := ownsRow_block HO fun g hg => hw1.block g (ownsRow_lt HO hg).2
                  replace HB := bl_call hw1 HB
                  go_wp2_with fail
                  all_goals go_meet
                  case rel => exact ⟨by rw [hgx.out], HB, kr, HO⟩
                | true =>
                  simp only [hlk] at hL
                  by_cases hf : far p y = s
                  · have hfb : (wrap64 (y.i - p.i) == s) = true := by simpa [far] using hf
                    have hfc : wrap64 (y.i - p.i) = s := hf
                    replace hgx := Lib.hid (show gox p s (a.drop (m + 1)) = true by rw [hgx, hlk]; simp [hf])
                    clear hlk hf
                    refine wp_region_grow (fun w' => Below W.heap.size W w') 32 (by kernel_rfl) (by kernel_rfl) ⟨rfl, rfl, rfl, Nat.le_refl _, fun _ _ => rfl⟩ ?_
                    simp only [List.take_succ_cons, List.take_zero, List.drop_succ_cons, List.drop_zero]
                    repeat (first | go_big_quiet_skip | (go_big_quiet_want; go_big_quiet_op; first | go_big_quiet_on | (apply Exists.intro; refine ⟨fun w1 hw1 => ?_, ?_⟩; (first | exact rfl | (simp only [grow_cell hw1 c0, grow_cell hw1 c1, grow_cell hw1 c2, Result.andThen_ok]; exact ⟨trivial, rfl⟩) | (simp only [grow_cell hw1 d0, grow_cell hw1 d1, grow_cell hw1 d2, Result.andThen_ok]; exact ⟨trivial, rfl⟩) | (simp only [grow_cell hw1 t2, Result.andThen_ok]; exact ⟨trivial, rfl⟩) | (go_at_call 26; refine Calls_grow hw1 (hL w1))); go_big_quiet_on)))
                    refine wpQuiet_nil ?_
                    intro w1 hw1
                    replace kr := grow_blk hw1 kr
                    replace HO : w1.ownsRow w.heap.size 49 5 u3 acc.length (acc.flatMap rc) := ownsRow_block HO fun g hg => hw1.block g (ownsRow_lt HO hg).2
                    replace HB := bl_call hw1 HB
                    go_wp2_with fail
                    all_goals go_meet
                    case rel => exact ⟨by rw [hgx.out], HB, kr, HO⟩
                  · have hfb : (wrap64 (y.i - p.i) == s) = false := by simpa [far] using hf
                    replace hgx := Lib.hid (show gox p s (a.drop (m + 1)) = false by rw [hgx, hlk]; simp [hf])
                    clear hlk hf
                    refine wp_region_grow (fun w' => Below W.heap.size W w') 32 (by kernel_rfl) (by kernel_rfl) ⟨rfl, rfl, rfl, Nat.le_refl _, fun _ _ => rfl⟩ ?_
                    simp only [List.take_succ_cons, List.take_zero, List.drop_succ_cons, List.drop_zero]
                    repeat (first | go_big_quiet_skip | (go_big_quiet_want; go_big_quiet_op; first | go_big_quiet_on | (apply Exists.intro; refine ⟨fun w1 hw1 => ?_, ?_⟩; (first | exact rfl | (simp only [grow_cell hw1 c0, grow_cell hw1 c1, grow_cell hw1 c2, Result.andThen_ok]; exact ⟨trivial, rfl⟩) | (simp only [grow_cell hw1 d0, grow_cell hw1 d1, grow_cell hw1 d2, Result.andThen_ok]; exact ⟨trivial, rfl⟩) | (simp only [grow_cell hw1 t2, Result.andThen_ok]; exact ⟨trivial, rfl⟩) | (go_at_call 26; refine Calls_grow hw1 (hL w1))); go_big_quiet_on)))
                    refine wpQuiet_nil ?_
                    intro w1 hw1
                    replace kr := grow_blk hw1 kr
                    replace HO : w1.ownsRow w.heap.size 49 5 u3 acc.length (acc.flatMap rc) := ownsRow_block HO fun g hg => hw1.block g (ownsRow_lt HO hg).2
                    replace HB := bl_call hw1 HB
                    go_wp2_with fail
                    all_goals go_meet
                    case rel => exact ⟨by rw [hgx.out], HB, kr, HO⟩
            case rest =>
              clear HB kr HO
              obtain ⟨rfl, HB, kr, HO⟩ := hcut
              have t0 := blk_cell kr 0
              have t1 := blk_cell kr 1
              have t2 := blk_cell kr 2
              have t3 := blk_cell kr 3
              have t4 := blk_cell kr 4
              have f3 := blk_frozen kr 3
              have hmj : (((m - j : Nat) : Int) + 1) ≤ 100000 := by omega
              have hmj0 : 0 ≤ (((m - j : Nat) : Int) + 1) := by omega
              obtain ⟨cn, hcn⟩ : ∃ cn, cn = ((m - j : Nat) : Int) + 1 := ⟨_, rfl⟩
              rw [← hcn] at t0 t1 t2 t3 t4 kr hmj hmj0
              replace hcn := Lib.hid hcn
              cases hgo : gox p s (a.drop (m + 1)) with
              | false =>
                have hx0 := ext_stop p s _ hgo
                have hr : runsL (a.drop j) = ⟨x.k, x.i, s, cn, x.v⟩ :: runsL (a.drop (m + 1)) := by
                  rw [hdr.out, runsL, ← hs.out, hE.out, hx0, List.drop_drop, hcn.out]
                  congr 3
                  omega
                replace hr := Lib.hid hr
                clear hx0 hgo
                go_wp2_with (refine wpList_appS rfl _ _ 34 rfl w.heap.size 49 (.agg #[.int .i64 0, .int .i64 0, .int .i64 0, .int .i64 0, .int .u32 0]) 5 40 Tryd.underlying34 (by kernel_rfl) rfl (by decide) (by decide) _ _ _ rfl (ownsRow_block HO fun g hg => heap_alloc_old _ _ (ownsRow_lt HO hg).2) _ 1 (rc ⟨x.k, x.i, s, cn, x.v⟩) rfl rfl (fun q u hq => (blk_cell (blk_new _ _) q).trans (by simpa [rc] using hq)) (by simp [rc, Value.oneCell']) (by omega) (by have := HB.size; simp; omega) ?_; intro g4 cap4 w4 HO4 hg4 hsv4 hlt4; replace HB := grown_below (bl_alloc HB _) hg4 (by have := HB.size; simp; omega) (fun g hg => (ownsRow_lt HO hg).1); replace HO := HO4; clear hg4 HO4 hsv4 hlt4)
                refine ⟨⟨m + 1, acc ++ [⟨x.k, x.i, s, cn, x.v⟩], by omega, congrArg (Value.int .i64) (by omega), by simp; omega, by rw [hch.out, hr.out, List.append_assoc]; rfl, HB, ?_⟩, by simp [RowKit.intOf] <;> omega⟩
                rw [List.length_append, List.flatMap_append]
                simpa using HO
              | true =>
                have hlt2 : m + 1 < a.length := by
                  rcases Nat.lt_or_ge (m + 1) a.length with h | h
                  · exact h
                  · rw [List.drop_eq_nil_of_le h] at hgo; cases hgo
                have hdr2 := List.drop_eq_getElem_cons hlt2
                have hE2 : ext x s (a.drop (j + 1)) = (m + 1 - j) + ext a[m + 1] s (a.drop (m + 1 + 1)) := by
                  rw [hE.out]
                  rw [hdr2] at hgo ⊢
                  rw [ext_go p a[m + 1] s _ hgo]
                  omega
                have hcn2 : cn + 1 = ((m + 1 - j : Nat) : Int) + 1 := by rw [hcn.out]; omega
                replace hE2 := Lib.hid hE2
                replace hcn2 := Lib.hid hcn2
                clear hdr2 hgo
                go_wp2_with fail
                refine ⟨⟨m + 1, a[m + 1], by omega, hlt2, congrArg (Value.int .i64) (by omega), List.getElem?_eq_getElem hlt2, hE2.out, bl_set _ _ hGw HB, ?_, ?_⟩, by simp [RowKit.intOf] <;> omega⟩
                · rw [← hcn2.out]
                  exact blk_set kr 3 _
                · exact ownsRow_block HO fun g hg => Below.heap_setCell _ _ _ g fun q => hna (by rw [hg]; exact congrArg some q)
    · obtain rfl : j = a.length := by omega
      have hlt' : ¬ (a.length : Int) < (a.length : Int) := by omega
      have hfin : runsL a = acc := by
        rw [hch.out, List.drop_eq_nil_of_le (Nat.le_refl _)]; simp [runsL]
      obtain ⟨ao, cap, rfl⟩ : ∃ ao cap, u3 = .slice ao acc.length cap := by
        rcases HO.2 with ⟨rfl, q⟩ | ⟨g, cap, _, rfl, _⟩
        · exact ⟨none, 0, by rw [q]⟩
        · exact ⟨_, cap, rfl⟩
      rw [hfin]
      go_wp2_with fail
      exact bodyPost_ret (v := .slice ao acc.length cap) (by simp [results, Tryd.results14, go_sem]) rfl ⟨⟨ao, cap, rfl, HO⟩, HB⟩
end Go.Proofs.YtcophjjjkonpjaaDoor

/- Reference 09's Points, reference 33's name. -/
import Derived.Test.YtjigckibbjfkmaaGreatDoorPx
import Derived.Test.YtjigckibbjfkmaaGreatDoorRu
namespace Go.Proofs.YtjigckibbjfkmaaGreatDoor
open Go.RowKit Go.Lib
set_option maxRecDepth 100000
set_option linter.unusedSimpArgs false
set_option linter.unusedVariables false
/-- What Points answers. -/
def PtsR (l : List UInt8) (e : Ending) : Prop := ∃ v : Value, e = .returned (.tuple #[v, .bool (pointsL l)])
theorem RowAt.grow {w w' : World} {g off : Nat} {bs : List UInt8} (h : RowAt w g off bs) (hb : Below w.heap.size w w') : RowAt w' g off bs := fun k hk => grow_cell hb (h k hk)
theorem RowAt.drop {w : World} {g : Nat} {l : List UInt8} (h : RowAt w g 0 l) (o : Nat) : RowAt w g o (l.drop o) := by
  intro k hk
  rw [List.length_drop] at hk
  have := h (o + k) (by omega)
  rw [Nat.zero_add] at this
  rw [this, List.getElem_drop]
set_option maxHeartbeats 4000000 in
theorem Points_c (l : List UInt8) (g cap : Nat) (hl : l.length ≤ 100000) (hcap : l.length ≤ cap) (hc63 : cap < 9223372036854775808) (w : World) (hg : l ≠ [] → g < w.heap.size) (hk : RowAt w g 0 l) : Calls Tryz.prog 48 #[.slice (some ⟨g, 0, none⟩) l.length cap] w fun e w' => PtsR l e ∧ Below w.heap.size w w' := by
  have hP := fun (bs : List UInt8) (off cap : Nat) (hn : 0 < bs.length) (w : World) (hk : RowAt w g off bs) => Point_c bs g off cap hn w hk
  unfold PtsR
  obtain ⟨X, hX⟩ : ∃ X, X = pointsL l := ⟨_, rfl⟩
  rw [← hX]
  replace hX := Lib.hid hX
  obtain ⟨n, hn⟩ : ∃ n, n = l.length := ⟨_, rfl⟩
  rw [← hn] at hl hcap ⊢
  replace hn := Lib.hid hn
  replace hk := Lib.hid hk
  replace hP := Lib.hid hP
  replace hg := Lib.hid hg
  have hO0 := World.ownsRow_nil w w.heap.size 79 1
  go_enter Tryz.func48, Tryz.ntmps48
  go_wp2_with fail
  go_loopw [0, 4] (fun b sl wr => ∃ (o : Nat) (ao : Option Addr) (c q : Nat) (xs : List Value), o ≤ n ∧ (o < n → ao = some ⟨g, o, none⟩) ∧ b = .slice ao (n - o) c ∧ n - o ≤ c ∧ c ≤ cap ∧ Hid (X = pointsL (l.drop o)) ∧ q ≤ o ∧ wr.ownsRow w.heap.size 79 1 sl q xs ∧ Below w.heap.size w wr) (fun b _ _ => (match b with | .slice _ m _ => m | _ => 0))
  case atStart => exact ⟨0, _, cap, 0, [], by omega, fun _ => rfl, rfl, by omega, Nat.le_refl _, Lib.hid (by rw [List.drop_zero]; exact hX.out), by omega, hO0, Below.refl _ _⟩
  case round =>
    clear hO0
    obtain ⟨o, ao, c, q, xs, ho, hao, rfl, hcc, hcc2, hXo, hq, HO, HB⟩ := hrel
    by_cases hlt : o < n
    · obtain rfl := hao hlt
      have hln : (l.drop o).length = n - o := by rw [List.length_drop, hn.out]
      have hne : l.drop o ≠ [] := List.length_pos_iff.1 (by omega)
      have hpt := hP.out (l.drop o) o c (by omega)
      rw [hln] at hpt
      have hrow : RowAt wr g o (l.drop o) := (hk.out.grow HB).drop o
      have hstep := hXo.out
      rw [pointsL_step _ hne] at hstep
      have hple := pointL_le _ hne
      rw [hln] at hple
      unfold PtR at hpt
      obtain ⟨p, hp⟩ : ∃ p, p = pointL (l.drop o) := ⟨_, rfl⟩
      rw [← hp] at hpt hstep hple
      rw [List.drop_drop] at hstep
      obtain ⟨m, hm⟩ : ∃ m, m = n - o := ⟨_, rfl⟩
      rw [← hm] at hcc hple hpt ⊢
      have hm0 : 0 < m := by omega
      have hmI : (0 : Int) < (m : Int) := by omega
      replace hm := Lib.hid hm
      replace hrow := Lib.hid hrow
      replace hpt := Lib.hid hpt
      clear hp hne hln hXo hao
      by_cases hp0 : p = 0
      · subst hp0
        rw [if_pos rfl] at hstep
        replace hstep := Lib.hid hstep
        go_wp2_with (go_at_call 71; refine (hpt.out _ hrow.out).mono ?_; rintro e w5 ⟨⟨v, rfl⟩, rfl⟩)
        exact bodyPost_ret (v := .tuple #[.slice none 0 0, .bool false]) (by simp [results, Tryz.results48, go_sem]) rfl ⟨⟨_, by rw [hstep.out]⟩, HB⟩
      · rw [if_neg hp0] at hstep
        have hpI : ¬ (p : Int) = 0 := by omega
        have hpJ : ((p : Int) == 0) = false := beq_eq_false_iff_ne.2 hpI
        have hpK : (p : Int) ≤ (m : Int) := by omega
        have hccI : (m : Int) ≤ (c : Int) := by omega
        replace hstep := Lib.hid hstep
        go_wp2_with (first | (go_at_call 71; refine (hpt.out _ hrow.out).mono ?_; rintro e w5 ⟨⟨v, rfl⟩, rfl⟩) | (refine wpList_app1 rfl _ _ 61 rfl w.heap.size 79 (.int .u32 0) 4 Tryz.underlying61 (by kernel_rfl) rfl (by decide) _ _ _ rfl (ownsRow_block HO fun g hg => heap_alloc_old _ _ (ownsRow_lt HO hg).2) _ 1 _ rfl (blk_cell (blk_new _ _) 0) rfl (by omega) (by have := HB.size; simp; omega) ?_; intro g4 cap4 w4 HO4 hg4 hsv4 hlt4; replace HB := grown_below (bl_alloc HB _) hg4 (by have := HB.size; simp; omega) (fun g hg => (ownsRow_lt HO hg).1); replace HO := HO4; clear hg4 HO4 hsv4 hlt4))
        have hmo := hm.out
        refine ⟨⟨o + p, if c = p then some ⟨g, o, none⟩ else some ⟨g, o + p, none⟩, c - p, q + 1, _, by omega, ?_, ?_, by omega, by omega, hstep, by omega, HO, HB⟩, ?_⟩
        · intro h
          rw [if_neg (by omega)]
        · rw [show n - (o + p) = m - p by omega]
        · show m - p < m
          omega
    · obtain rfl : o = n := by omega
      have hX1 : Hid (X = true) := Lib.hid (by
        rw [hXo.out, List.drop_eq_nil_of_le (by rw [hn.out]; exact Nat.le_refl _)]; rfl)
      have e0 : ((o - o : Nat) : Int) = 0 := by omega
      have e1 : o - o = 0 := Nat.sub_self o
      clear hXo
      rw [e1]
      go_wp2_with fail
      exact bodyPost_ret (v := .tuple #[_, .bool true]) (by simp [results, Tryz.results48, go_sem]; rfl) rfl ⟨⟨_, by rw [hX1.out]⟩, HB⟩
theorem PointsNil_c (cap : Nat) (ao : Option Addr) (w : World) : Calls Tryz.prog 48 #[.slice ao 0 cap] w fun e w' => PtsR [] e ∧ Below w.heap.size w w' := by
  unfold PtsR
  go_enter Tryz.func48, Tryz.ntmps48
  go_wp2_with fail
  go_loopw [0] (fun b wr => b = .slice ao 0 cap ∧ wr = w) (fun _ _ => 0)
  case atStart => exact ⟨rfl, rfl⟩
  case round =>
    obtain ⟨rfl, rfl⟩ := hrel
    go_wp2_with fail
    exact bodyPost_ret (v := .tuple #[_, .bool true]) (by simp [results, Tryz.results48, go_sem]; rfl) rfl ⟨⟨_, rfl⟩, Below.refl _ _⟩
/-- A text as bytes, its room told. -/
theorem wpList_convSBc {P : Program} {ops : Array Oper} {rest : List Oper} {o : Oper} {a : Act} {w : World} {Q : Exit → Act → World → Prop} {src dst e : TypeId} {x : Operand} {s : ByteArray} (hg : o.guard = none) (ho : o.op = .convert src dst x) (hx : a.eval x = .string s)
    (hs : P.underlying src = some .string) (hd : P.underlying dst = some (.slice e)) (he : P.underlying e = some (.int .u8)) (hz : s.size ≤ 1000000)
    (h : ∀ cap w', RowAt w' w.heap.size 0 s.data.toList → s.size ≤ cap → cap < 9223372036854775808 → Below w.heap.size w w' → w.heap.size < w'.heap.size → wpList P ops Q rest (a.put o.dst (.slice (some ⟨w.heap.size, 0, none⟩) s.size cap)) w') : wpList P ops Q (o :: rest) a w := by
  refine wpList_plain hg fun K hK => ?_
  have hrow : RowAt (bytesWorld w e s) w.heap.size 0 s.data.toList := by
    intro k hk
    have hk' : k < s.size := by rw [Array.length_toList] at hk; exact hk
    rw [Nat.zero_add, bytesWorld_cell w e s k hk', List.getD_eq_getElem?_getD, List.getElem?_eq_getElem hk]
    rfl
  have hmx : grownCap w s.size 0 e ≤ maxLen := grownCap_le_maxLen w s.size 0 e (by unfold maxLen; omega)
  have main := h (grownCap w s.size 0 e) _ hrow (grownCap_ge _ _ _ _) (by unfold maxLen at hmx; omega) ⟨rfl, rfl, rfl, by rw [bytesWorld_size]; omega, fun k hk => bytesWorld_at_old w e s k hk⟩ (by rw [bytesWorld_size]; omega)
  have hr := Go.Lib.run_convert_string_bytes w src dst e s hs hd he
  have e1 : (execOp a.eval o).run P w = .ok (.value (.slice (some ⟨w.heap.size, 0, none⟩) s.size (grownCap w s.size 0 e))) (bytesWorld w e s) := by
    unfold execOp
    simp only [ho, hx]
    rw [Sem.run_bind, hr]
    rfl
  unfold Oper.wp
  rw [e1, Oper.upon_value]
  exact hK _ _ main
set_option maxHeartbeats 2000000 in
theorem rname_c (s : ByteArray) (hs : s.size ≤ 100000) (w : World) : Calls Tryz.prog 22 #[.string s] w fun e w' => e = .returned (.bool (nameOk s.data.toList)) ∧ Below w.heap.size w w' := by
  have hPt : ∀ (g cap : Nat), s.size ≤ cap → cap < 9223372036854775808 → ∀ W : World, g < W.heap.size → RowAt W g 0 s.data.toList → Calls Tryz.prog 48 #[.slice (some ⟨g, 0, none⟩) s.size cap] W fun e w' => PtsR s.data.toList e ∧ Below W.heap.size W w' := by
    intro g cap h1 h2 W h3 h4
    have := Points_c s.data.toList g cap (by rw [zlen]; exact hs) (by rw [zlen]; exact h1) h2 W (fun _ => h3) h4
    rw [zlen] at this
    exact this
  have hN : nameOk s.data.toList = (pointsL s.data.toList && decide (1 ≤ s.size ∧ s.size ≤ 200) && decide (0 ∉ s.data.toList)) := by
    unfold nameOk; rw [zlen, points_valid _ _ (Nat.le_refl _)]
  unfold PtsR at hPt
  obtain ⟨X, hX⟩ : ∃ X, X = nameOk s.data.toList := ⟨_, rfl⟩
  rw [← hX] at hN ⊢
  clear hX
  obtain ⟨V, hV⟩ : ∃ V, V = pointsL s.data.toList := ⟨_, rfl⟩
  rw [← hV] at hN hPt
  clear hV
  replace hN := Lib.hid hN
  replace hPt := Lib.hid hPt
  have hl := Lib.hid (zlen s)
  go_enter Tryz.func22, Tryz.ntmps22
  cases V
  case false =>
    have hX0 : Hid (X = false) := Lib.hid (by rw [hN.out]; rfl)
    go_wp2_with (first | (refine wpList_convSBc rfl rfl rfl Tryz.underlying9 Tryz.underlying49 Tryz.underlying5 (by omega) ?_; intro cap w1 hrow hc1 hc2 hb1 hsz; replace hrow := Lib.hid hrow) | (go_at_call 48; refine (hPt.out _ _ hc1 hc2 _ hsz hrow.out).mono ?_; rintro e w5 ⟨⟨v, rfl⟩, hb5⟩))
    exact bodyPost_ret (v := .bool false) (by simp [results, Tryz.results22, go_sem]) rfl ⟨by rw [hX0.out], bl_call hb5 hb1⟩
  by_cases h1 : 1 ≤ s.size
  case neg =>
    have h1I : (s.size : Int) < 1 := by omega
    have hX0 : Hid (X = false) := Lib.hid (by rw [hN.out]; simp [h1])
    go_wp2_with (first | (refine wpList_convSBc rfl rfl rfl Tryz.underlying9 Tryz.underlying49 Tryz.underlying5 (by omega) ?_; intro cap w1 hrow hc1 hc2 hb1 hsz; replace hrow := Lib.hid hrow) | (go_at_call 48; refine (hPt.out _ _ hc1 hc2 _ hsz hrow.out).mono ?_; rintro e w5 ⟨⟨v, rfl⟩, hb5⟩))
    exact bodyPost_ret (v := .bool false) (by simp [results, Tryz.results22, go_sem]) rfl ⟨by rw [hX0.out], bl_call hb5 hb1⟩
  have h1I : ¬ (s.size : Int) < 1 := by omega
  by_cases h2 : s.size ≤ 200
  case neg =>
    have h2I : 200 < (s.size : Int) := by omega
    have hX0 : Hid (X = false) := Lib.hid (by rw [hN.out]; simp [h2])
    go_wp2_with (first | (refine wpList_convSBc rfl rfl rfl Tryz.underlying9 Tryz.underlying49 Tryz.underlying5 (by omega) ?_; intro cap w1 hrow hc1 hc2 hb1 hsz; replace hrow := Lib.hid hrow) | (go_at_call 48; refine (hPt.out _ _ hc1 hc2 _ hsz hrow.out).mono ?_; rintro e w5 ⟨⟨v, rfl⟩, hb5⟩))
    exact bodyPost_ret (v := .bool false) (by simp [results, Tryz.results22, go_sem]) rfl ⟨by rw [hX0.out], bl_call hb5 hb1⟩
  have h2I : ¬ 200 < (s.size : Int) := by omega
  have hN2 : X = decide (0 ∉ s.data.toList) := by rw [hN.out, decide_eq_true ⟨h1, h2⟩]; rfl
  replace hN2 := Lib.hid hN2
  clear hN
  go_wp2_with (first | (refine wpList_convSBc rfl rfl rfl Tryz.underlying9 Tryz.underlying49 Tryz.underlying5 (by omega) ?_; intro cap w1 hrow hc1 hc2 hb1 hsz; replace hrow := Lib.hid hrow) | (go_at_call 48; refine (hPt.out _ _ hc1 hc2 _ hsz hrow.out).mono ?_; rintro e w5 ⟨⟨v, rfl⟩, hb5⟩))
  have hB0 := bl_call hb5 hb1
  clear hb5 hb1 hrow hsz
  go_loopw [5] (fun i wr => ∃ k : Nat, k ≤ s.size ∧ i = .int .i64 (k : Int) ∧ Hid (0 ∉ s.data.toList.take k) ∧ Below w.heap.size w wr) (fun i _ => s.size - (RowKit.intOf i).toNat)
  case atStart => exact ⟨0, by omega, rfl, Lib.hid (by simp), hB0⟩
  case round =>
    obtain ⟨k, hk, rfl, hno, HB⟩ := hrel
    have pn : (0 : Int) ≤ (k : Int) := by omega
    by_cases hlt : k < s.size
    · have hlt' : (k : Int) < (s.size : Int) := by omega
      have hkl : k < s.data.toList.length := by rw [hl.out]; exact hlt
      by_cases hz : s[k] = 0
      · obtain ⟨q1, q2⟩ := u8_q _ _ hz
        rw [show ((0 : UInt8).toNat : Int) = 0 from rfl] at q1 q2
        have hX0 : Hid (X = false) := Lib.hid (by
          rw [hN2.out, decide_eq_false_iff_not, Classical.not_not, ← hz]
          exact List.getElem_mem hkl)
        clear hz
        go_wp2_with fail
        exact bodyPost_ret (v := .bool false) (by simp [results, Tryz.results22, go_sem]) rfl ⟨by rw [hX0.out], HB⟩
      · obtain ⟨q1, q2⟩ := u8_nq _ _ hz
        rw [show ((0 : UInt8).toNat : Int) = 0 from rfl] at q1 q2
        have hno2 : Hid (0 ∉ s.data.toList.take (k + 1)) := Lib.hid (by
          rw [take_snoc _ k hkl]
          intro q
          rcases List.mem_append.1 q with q | q
          · exact hno.out q
          · exact hz (List.mem_singleton.1 q).symm)
        clear hz hno
        go_wp2_with fail
        go_roundw
        case measure => simp [RowKit.intOf] <;> omega
        exact ⟨k + 1, by omega, congrArg (Value.int .i64) (by omega), hno2, HB⟩
    · obtain rfl : k = s.size := by omega
      have hlt' : ¬ (s.size : Int) < (s.size : Int) := by omega
      have hX1 : Hid (X = true) := Lib.hid (by
        rw [hN2.out]
        have := hno.out
        rw [List.take_of_length_le (by rw [hl.out]; exact Nat.le_refl _)] at this
        exact decide_eq_true this)
      clear hno
      go_wp2_with fail
      exact bodyPost_ret (v := .bool true) (by simp [results, Tryz.results22, go_sem]) rfl ⟨by rw [hX1.out], HB⟩
end Go.Proofs.YtjigckibbjfkmaaGreatDoor

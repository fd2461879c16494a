/- The contract of audit.Read. -/
import Derived.Test.YtcophjjjkonpjaaDoorUc
namespace Go.Proofs.YtcophjjjkonpjaaDoor
open Go.RowKit
set_option maxRecDepth 100000
set_option linter.unusedSimpArgs false
set_option linter.unusedVariables false
def appR (acc : List Rn) : RdR → RdR
  | .ok rs => .ok (acc ++ rs)
  | .bad m => .bad m
theorem appR_nil (x : RdR) : appR [] x = x := by cases x <;> rfl
theorem appR_one (acc : List Rn) (r : Rn) (x : RdR) : appR acc (match x with | .ok rs => .ok (r :: rs) | .bad m => .bad m) = appR (acc ++ [r]) x := by
  cases x with
  | ok rs => simp [appR]
  | bad m => rfl
/-- What Read answers. -/
def ReadE (B : Nat) (x : RdR) (e : Ending) (w' : World) : Prop := match x with
  | .ok rs => ∃ ao cap, e = .returned (.tuple #[.slice ao rs.length cap, .int .i64 0, .int .i64 0]) ∧ w'.ownsRow B 49 5 (.slice ao rs.length cap) rs.length (rs.flatMap rc)
  | .bad m => e = .returned (.tuple #[.slice none 0 0, .int .i64 3, .int .i64 (m : Int)])
def strSz : Value → Nat
  | .string s => s.size
  | _ => 0
theorem Cut_c (s : ByteArray) (hs : s.size ≤ 100000) (w : World) (hm : MaxL w) : Calls Tryd.prog 17 #[.string s, .string ⟨#[10]⟩] w fun e w' => e = .returned (.tuple #[.string ⟨(Lib.cut s.data.toList [10]).1.toArray⟩, .string ⟨(Lib.cut s.data.toList [10]).2.1.toArray⟩, .bool (Lib.cut s.data.toList [10]).2.2]) ∧ Below w.heap.size w w' := by
  obtain ⟨m, hm⟩ := hm
  refine (Tryd.strings_Cut s ⟨#[10]⟩ m w (by omega) hm).mono ?_
  rintro e w' ⟨rfl, n, rfl⟩
  exact ⟨rfl, bl_drewN (Below.refl _ _) _⟩
theorem own_form5 {w : World} {base : Nat} {e : TypeId} {size : Nat} {sv : Value} {n : Nat} {xs : List Value} (h : w.ownsRow base e size sv n xs) : ∃ ao cap, sv = .slice ao n cap := by
  rcases h.2 with ⟨rfl, rfl⟩ | ⟨g, cap, _, rfl, _⟩
  · exact ⟨none, 0, rfl⟩
  · exact ⟨_, cap, rfl⟩
theorem own_grow {w w1 : World} {base : Nat} {e : TypeId} {size : Nat} {sv : Value} {n : Nat} {xs : List Value} (h : w.ownsRow base e size sv n xs) (hb : Below w.heap.size w w1) : w1.ownsRow base e size sv n xs :=
  ownsRow_block h fun g hg => hb.block g (ownsRow_lt h hg).2
set_option maxHeartbeats 4000000 in
theorem Read_c (s : ByteArray) (hs : s.size ≤ 100000) (w : World) (he : Env w) : Calls Tryd.prog 10 #[.string s] w fun e w' => ReadE w.heap.size (rdA 1 (splitL 10 s.data.toList)) e w' ∧ Below w.heap.size w w' := by
  have hO0 : w.ownsRow w.heap.size 49 5 (.slice none 0 0) (([] : List Rn).length) (([] : List Rn).flatMap rc) := World.ownsRow_nil _ _ _ _
  generalize hX : rdA 1 (splitL 10 s.data.toList) = X
  have hX0 : X = appR [] (rdA (([] : List Rn).length + 1) (splitL 10 s.data.toList)) := by rw [appR_nil]; exact hX.symm
  have hl0 : s.data.toList.length ≤ 100000 := by rw [Array.length_toList]; exact hs
  clear hX
  replace he := Lib.hid he
  replace hX0 := Lib.hid hX0
  go_enter Tryd.func10, Tryd.ntmps10
  go_wp2_with fail
  go_loopw [0, 5, 6] (fun sv ov nv wr => ∃ (rest : List UInt8) (acc : List Rn), sv = .string ⟨rest.toArray⟩ ∧ rest.length ≤ 100000 ∧ acc.length ≤ 10000 ∧ nv = .int .i64 ((acc.length : Int) + 1) ∧ X = appR acc (rdA (acc.length + 1) (splitL 10 rest)) ∧ Below w.heap.size w wr ∧ wr.ownsRow w.heap.size 49 5 ov acc.length (acc.flatMap rc)) (fun sv _ _ _ => strSz sv)
  case atStart => exact ⟨s.data.toList, [], rfl, hl0, by simp, rfl, hX0.out, Below.refl _ _, hO0⟩
  case round =>
    clear hO0 hX0 hl0
    obtain ⟨rest, acc, rfl, hrl, hal, rfl, hXr, HB, HO⟩ := hrel
    obtain ⟨ao, cap, rfl⟩ := own_form5 HO
    by_cases hrest : rest = []
    · subst hrest
      have hXo : X = .ok acc := by rw [hXr]; simp [splitL, rdA, appR]
      replace hXo := Lib.hid hXo
      have e0 : (⟨([] : List UInt8).toArray⟩ : ByteArray) = ⟨#[]⟩ := rfl
      rw [e0]
      clear hXr e0
      go_wp2_with fail
      exact bodyPost_ret (v := .tuple #[.slice ao acc.length cap, .int .i64 0, .int .i64 0]) (by simp [results, Tryd.results10, go_sem]) rfl ⟨by rw [hXo.out]; exact ⟨ao, cap, rfl, HO⟩, HB⟩
    · have hne : rest ≠ [] := hrest
      clear hrest
      have b0 : ¬ (⟨rest.toArray⟩ : ByteArray).toList = [] := by rw [ByteArray.toList_eq]; simpa using hne
      have b1 : (⟨rest.toArray⟩ : ByteArray).toList.isEmpty = false := by rw [List.isEmpty_eq_false_iff]; exact b0
      have hsz : (⟨rest.toArray⟩ : ByteArray).size = rest.length := by show rest.toArray.size = _; rw [List.size_toArray]
      have hC := Cut_c ⟨rest.toArray⟩ (by omega) wr (he.out.below HB).max
      have hdt : (⟨rest.toArray⟩ : ByteArray).data.toList = rest := by simp
      rw [hdt] at hC
      replace hXr := Lib.hid hXr
      obtain ⟨n, hn⟩ : ∃ n : Nat, n = acc.length + 1 := ⟨_, rfl⟩
      have hnI : ((acc.length : Int) + 1) = (n : Int) := by omega
      rw [hnI]
      have hX2 := hXr.out
      rw [← hn] at hX2
      have hn1 : n ≤ 10001 := by omega
      have hre : rest.isEmpty = false := by rw [List.isEmpty_eq_false_iff]; exact hne
      replace hn := Lib.hid hn
      cases hcut : (Lib.cut rest [10]).2.2 with
      | false =>
        obtain ⟨e1, e2⟩ := cut_split rest hcut
        rw [e2] at hC
        have hXb : X = .bad n := by rw [hX2, e1]; simp [rdA, hne, appR]
        replace hXb := Lib.hid hXb
        simp only at hC
        replace hC := Lib.hid hC
        have hRd := Lib.hid (fun w he => read_c ⟨rest.toArray⟩ (by omega) w he)
        clear hX2 hXr e1 e2 hcut hnI hdt
        go_wp2_with (first | (go_at_call 17; refine hC.out.mono ?_; rintro e w5 ⟨rfl, hb5⟩; have hA5 := bl_call hb5 HB) | (go_at_call 18; refine (hRd.out _ (he.out.below hA5)).mono ?_; rintro e w6 ⟨⟨r0, b, rfl, _⟩, hb6⟩; simp only [runV]; have hA6 := bl_call hb6 hA5))
        exact bodyPost_ret (v := .tuple #[.slice none 0 0, .int .i64 3, .int .i64 (n : Int)]) (by simp [results, Tryd.results10, go_sem]) rfl ⟨by rw [hXb.out]; rfl, by (repeat (first | exact Below.refl _ _ | (refine bl_alloc ?_ _) | (refine bl_drewN ?_ _) | (refine bl_drew ?_) | (refine bl_call (by assumption) ?_) | (refine bl_set _ _ (by simp <;> omega) ?_) | assumption))⟩
      | true =>
        obtain ⟨e1, e2⟩ := cut_yes rest hcut
        rw [hcut] at hC
        generalize (Lib.cut rest [10]).1 = p at hC e1
        generalize (Lib.cut rest [10]).2.1 = q at hC e1 e2
        have hpl : p.length ≤ 100000 := by
          have := split_part 10 rest p (by rw [e1]; simp)
          omega
        have hql : q.length ≤ 100000 := by omega
        have hqr : q.length < rest.length := e2
        rw [e1] at hX2
        have hne2 := splitL_ne 10 q
        replace hC := Lib.hid hC
        have hpsz : (⟨p.toArray⟩ : ByteArray).size ≤ 100000 := by show p.toArray.size ≤ _; rw [List.size_toArray]; exact hpl
        have hRd := Lib.hid (fun w he => read_c ⟨p.toArray⟩ hpsz w he)
        have hpd : (⟨p.toArray⟩ : ByteArray).data.toList = p := by simp
        rw [hpd] at hRd
        replace hX2 := Lib.hid hX2
        replace hne2 := Lib.hid hne2
        clear hXr e1 e2 hcut hdt hpd hpsz hpl hnI
        go_upto_region 7 with (first | (go_at_call 17; refine hC.out.mono ?_; rintro e w5 ⟨rfl, hb5⟩; have hA5 := bl_call hb5 HB) | (go_at_call 18; refine (hRd.out _ (he.out.below hA5)).mono ?_; rintro e w6 ⟨⟨r0, b, rfl, hrd⟩, hb6⟩; simp only [runV]; have hA6 := bl_call hb6 hA5))
        have HO6 := own_grow (own_grow HO hb5) hb6
        clear HO hb5 hb6 hA5 HB hC hRd
        refine gen_world fun Z hZ => ?_
        obtain ⟨T, hT⟩ : ∃ T, T = w6.heap.size := ⟨_, rfl⟩
        rw [← hT]
        have kT : Z.heap[T]? = some (.cells (rcA r0) 49 (0, 0)) := by rw [hZ]; exact blk_new' hT _
        have HOZ : Z.ownsRow w.heap.size 49 5 (.slice ao acc.length cap) acc.length (acc.flatMap rc) := by rw [hZ]; exact ownsRow_block HO6 fun g hg => heap_alloc_old _ _ (ownsRow_lt HO6 hg).2
        have HZ : Below w.heap.size w Z := by rw [hZ]; exact bl_alloc hA6 _
        clear hZ hT HO6 hA6
        rcases hrd with ⟨rfl, hr⟩ | ⟨rfl, hr⟩
        rotate_left
        · have hXb : X = .bad n := by
            rw [hX2.out]
            have := hne2.out
            generalize splitL 10 q = ps at this
            cases ps with
            | nil => exact absurd rfl this
            | cons q0 t0 => simp only [rdA]; rw [hr]; rfl
          replace hXb := Lib.hid hXb
          clear hX2 hne2 hr
          go_wp2_with fail
          exact bodyPost_ret (v := .tuple #[.slice none 0 0, .int .i64 3, .int .i64 (n : Int)]) (by simp [results, Tryd.results10, go_sem]) rfl ⟨by rw [hXb.out]; rfl, HZ⟩
        by_cases hbig : 10000 < n
        · have hXb : X = .bad n := by
            rw [hX2.out]
            have := hne2.out
            generalize splitL 10 q = ps at this
            cases ps with
            | nil => exact absurd rfl this
            | cons q0 t0 => simp only [rdA]; rw [hr]; simp only []; rw [if_pos hbig]; rfl
          replace hXb := Lib.hid hXb
          have gI : 10000 < (n : Int) := by omega
          have gD : decide (10000 < (n : Int)) = true := decide_eq_true gI
          clear hX2 hne2 hr
          go_wp2_with fail
          exact bodyPost_ret (v := .tuple #[.slice none 0 0, .int .i64 3, .int .i64 (n : Int)]) (by simp [results, Tryd.results10, go_sem]) rfl ⟨by rw [hXb.out]; rfl, HZ⟩
        have hXn : X = appR (acc ++ [r0]) (rdA (n + 1) (splitL 10 q)) := by
          rw [hX2.out]
          have := hne2.out
          generalize splitL 10 q = ps at this ⊢
          cases ps with
          | nil => exact absurd rfl this
          | cons q0 t0 =>
            simp only [rdA]
            rw [hr]
            simp only []
            rw [if_neg hbig]
            exact appR_one acc r0 _
        replace hXn := Lib.hid hXn
        have gI : ¬ 10000 < (n : Int) := by omega
        have gD : decide (10000 < (n : Int)) = false := decide_eq_false gI
        clear hX2 hne2 hr
        have t0 : Z.cell? ⟨T, 0, none⟩ = some (.int .i64 r0.k) := blk_cell kT 0
        have t1 : Z.cell? ⟨T, 1, none⟩ = some (.int .i64 r0.i) := blk_cell kT 1
        have t2 : Z.cell? ⟨T, 2, none⟩ = some (.int .i64 r0.s) := blk_cell kT 2
        have t3 : Z.cell? ⟨T, 3, none⟩ = some (.int .i64 r0.c) := blk_cell kT 3
        have t4 : Z.cell? ⟨T, 4, none⟩ = some (.int .u32 r0.v) := blk_cell kT 4
        clear kT
        have HB := HZ
        have HO := HOZ
        clear HZ HOZ
        go_wp2_with (refine wpList_appS rfl _ _ 34 rfl w.heap.size 49 (.agg #[.int .i64 0, .int .i64 0, .int .i64 0, .int .i64 0, .int .u32 0]) 5 40 Tryd.underlying34 (by kernel_rfl) rfl (by decide) (by decide) _ _ _ rfl (ownsRow_block HO fun g hg => heap_alloc_old _ _ (ownsRow_lt HO hg).2) _ 1 (rc r0) rfl rfl (fun q u hq => (blk_cell (blk_new _ _) q).trans (by simpa [rc] using hq)) (by simp [rc, Value.oneCell']) (by omega) (by have := HB.size; simp; omega) ?_; intro g4 cap4 w4 HO4 hg4 hsv4 hlt4; replace HB := grown_below (bl_alloc HB _) hg4 (by have := HB.size; simp; omega) (fun g hg => (ownsRow_lt HO hg).1); replace HO := HO4; clear hg4 HO4 hsv4 hlt4)
        go_roundw
        case measure => show q.toArray.size < rest.toArray.size; rw [List.size_toArray, List.size_toArray]; exact hqr
        refine ⟨q, acc ++ [r0], rfl, hql, by have := hn.out; simp; omega, by have := hn.out; simp; omega, ?_, HB, ?_⟩
        · rw [hXn.out, List.length_append, hn.out]; rfl
        · rw [List.length_append, List.flatMap_append]
          simpa using HO
end Go.Proofs.YtcophjjjkonpjaaDoor

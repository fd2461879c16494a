/- attr.values, attr.bytes. -/
import Derived.Test.YtjigckibbjfkmaaGreatDoorMf
import Derived.Test.YtjigckibbjfkmaaGreatDoorMe
import Derived.Test.YtjigckibbjfkmaaGreatDoorSp7
import Derived.Test.YtjigckibbjfkmaaGreatDoorBg
namespace Go.Proofs.YtjigckibbjfkmaaGreatDoor
open Go.RowKit
set_option maxRecDepth 100000
set_option linter.unusedSimpArgs false
set_option linter.unusedVariables false
theorem Split44_c (s : ByteArray) (hs : s.size ≤ 100000) (w : World) (he : Env w) : Calls Tryz.prog 81 #[.string s, .string ⟨#[44]⟩] w fun e w' =>
      e = .returned (.slice (some ⟨w.heap.size, 0, none⟩) (splitL 44 s.data.toList).length (splitL 44 s.data.toList).length) ∧ w'.heap[w.heap.size]? = some (.cells ((splitL 44 s.data.toList).map sv).toArray 9 (0, 0)) ∧ Below w.heap.size w w' := by
  obtain ⟨m, hm⟩ := he.max
  refine (Tryz.strings_Split s ⟨#[44]⟩ m w (by omega) hm (by decide)).mono ?_
  rintro e w' ⟨rfl, rfl⟩
  have h := splitB_is 44 s
  have hl := splitS_length 44 s
  have hm2 : (splitS 44 s).map Value.string = (splitL 44 s.data.toList).map sv := by
    unfold splitS
    rw [List.map_map]
    rfl
  have hl2 : (splitS 44 s).length = (splitL 44 s.data.toList).length := by unfold splitS; rw [List.length_map]
  refine ⟨by rw [← hl2, hl], ?_, (Below.refl _ _).alloc (Nat.le_refl _) _⟩
  rw [h, hm2]
  exact blk_new _ _
theorem part_pre (c : UInt8) (p : List UInt8) : partC c p = if Lib.hasPrefix p [c, 61] = true then some (p.drop 2) else none := by
  unfold partC Lib.hasPrefix
  match p with
  | [] => rfl
  | [a] => simp [List.isPrefixOf]
  | a :: b :: t =>
    by_cases h2 : b = 61
    · subst h2
      by_cases h1 : a = c
      · subst h1; simp [List.isPrefixOf]
      · have : (c == a) = false := by simpa using fun q : c = a => h1 q.symm
        simp [List.isPrefixOf, this, h1]
    · have : ((61 : UInt8) == b) = false := by simpa using fun q : 61 = b => h2 q.symm
      simp only [List.isPrefixOf, this, Bool.false_and, Bool.and_false, Bool.false_eq_true, if_false]
      split
      · rename_i h
        simp at h
        exact absurd h.2.1 h2
      · rfl
theorem vals_len : ∀ (cs : List UInt8) (ps : List (List UInt8)), cs.length ≠ ps.length → valsC cs ps = none
  | [], [], h => absurd rfl h
  | [], p :: ps, _ => rfl
  | c :: cs, [], _ => rfl
  | c :: cs, p :: ps, h => by
    have ih := vals_len cs ps (fun q => h (by simp [q]))
    unfold valsC
    rw [ih]
    cases partC c p <;> rfl
theorem vals_step (c : UInt8) (cs : List UInt8) (p : List UInt8) (ps done : List (List UInt8)) : (valsC (c :: cs) (p :: ps)).map (done ++ ·) = match partC c p with
    | some a => (valsC cs ps).map ((done ++ [a]) ++ ·)
    | none => none := by
  rw [valsC]
  cases partC c p with
  | none => rfl
  | some a =>
    cases valsC cs ps with
    | none => rfl
    | some r => simp
/-- What values answers. -/
def VaE (B : Nat) (x : Option (List (List UInt8))) (e : Ending) (w' : World) : Prop := match x with
  | some l => ∃ g, e = .returned (.tuple #[.slice (some ⟨g, 0, none⟩) l.length l.length, .bool true]) ∧ B ≤ g ∧ w'.heap[g]? = some (.cells (l.map sv).toArray 9 (0, 0))
  | none => e = .returned (.tuple #[.slice none 0 0, .bool false])
theorem ext_one (s : ByteArray) (k : Nat) (h : k < s.size) : s.extract k (k + 1) = ⟨#[s[k]]⟩ := by
  apply ByteArray.ext
  apply Array.ext'
  rw [ByteArray.data_extract, Array.toList_extract]
  have hl : k < s.data.toList.length := by rw [zlen]; exact h
  simp only [List.extract_eq_take_drop]
  rw [List.drop_eq_getElem_cons hl, show k + 1 - k = 1 by omega]
  rfl
set_option maxHeartbeats 4000000 in
theorem values_c (s names : ByteArray) (hs : s.size ≤ 100000) (hn : names.size ≤ 1000) (w : World) (he : Env w) : Calls Tryz.prog 56 #[.string s, .string names] w fun e w' => VaE w.heap.size (valsM names.data.toList s.data.toList) e w' ∧ Below w.heap.size w w' := by
  have hS := fun w he => Split44_c s hs w he
  unfold valsM
  have hpl := split_part 44 s.data.toList
  rw [zlen] at hpl
  generalize splitL 44 s.data.toList = PS at hS hpl ⊢
  have hnl := zlen names
  by_cases hlen : PS.length = names.size
  case neg =>
    have hno : valsC names.data.toList PS = none := vals_len _ _ (by rw [hnl]; exact fun q => hlen q.symm)
    rw [hno]
    have q1 : ¬ (PS.length : Int) = (names.size : Int) := by omega
    have q2 : ((PS.length : Int) != (names.size : Int)) = true := bne_iff_ne.2 q1
    clear hno hlen hpl hnl
    generalize PS.length = L at hS q1 q2
    replace he := Lib.hid he
    go_enter Tryz.func56, Tryz.ntmps56
    go_wp2_with (go_at_call 81; refine (hS _ he.out).mono ?_; rintro e w5 ⟨rfl, _, hb5⟩)
    exact bodyPost_ret (v := .tuple #[.slice none 0 0, .bool false]) (by simp [results, Tryz.results56, go_sem]) rfl ⟨rfl, hb5⟩
  · obtain ⟨X, hX⟩ : ∃ X, X = valsC names.data.toList PS := ⟨_, rfl⟩
    rw [← hX]
    have hX0 : X = (valsC (names.data.toList.drop 0) (PS.drop 0)).map ([] ++ ·) := by
      rw [List.drop_zero, List.drop_zero, hX]
      cases valsC names.data.toList PS <;> rfl
    have q1 : (PS.length : Int) = (names.size : Int) := by omega
    have q2 : ((PS.length : Int) != (names.size : Int)) = false := by rw [q1]; simp
    clear hX
    replace he := Lib.hid he
    replace hX0 := Lib.hid hX0
    replace hlen := Lib.hid hlen
    replace hpl := Lib.hid hpl
    replace hnl := Lib.hid hnl
    obtain ⟨L, hL⟩ : ∃ L, L = PS.length := ⟨_, rfl⟩
    rw [← hL] at hS q1 q2
    replace hL := Lib.hid hL
    go_enter Tryz.func56, Tryz.ntmps56
    go_upto_region 4 with (go_at_call 81; refine (hS _ he.out).mono ?_; rintro e w5 ⟨rfl, hk5, hb5⟩)
    obtain ⟨G, hG⟩ : ∃ G, G = w.heap.size := ⟨_, rfl⟩
    rw [← hG]
    rw [← hG] at hk5
    have hGw : w.heap.size ≤ G := by omega
    clear hG
    go_wp2_with fail
    go_loopw [18] (fun iv wr => ∃ (j : Nat) (done : List (List UInt8)), j ≤ L ∧ iv = .int .i64 (j : Int) ∧ done.length = j ∧ wr.heap[G]? = some (.cells ((done ++ PS.drop j).map sv).toArray 9 (0, 0)) ∧ Below w.heap.size w wr ∧ X = (valsC (names.data.toList.drop j) (PS.drop j)).map (done ++ ·)) (fun i _ => L - (RowKit.intOf i).toNat)
    case atStart => exact ⟨0, [], by omega, rfl, rfl, hk5, hb5, hX0.out⟩
    case round =>
      clear hk5 hb5 hX0
      obtain ⟨j, done, hj, rfl, hd, hk, HB, hXr⟩ := hrel
      by_cases hlt : j < L
      · have hlt' : (j : Int) < (L : Int) := by omega
        have hjn : j < names.size := by omega
        have hjI : (j : Int) < (names.size : Int) := by omega
        have hjp : j < PS.length := by have := hL.out; omega
        have hc : names.data.toList.drop j = names[j] :: names.data.toList.drop (j + 1) := by
          rw [List.drop_eq_getElem_cons (by rw [hnl.out]; exact hjn)]; rfl
        have hp : PS.drop j = PS[j] :: PS.drop (j + 1) := List.drop_eq_getElem_cons hjp
        have hpz : PS[j].length ≤ 100000 := by have := hpl.out _ (List.getElem_mem hjp); omega
        obtain ⟨p, hpp⟩ : ∃ p, p = PS[j] := ⟨_, rfl⟩
        obtain ⟨c, hcc⟩ : ∃ c, c = names[j] := ⟨_, rfl⟩
        rw [← hpp] at hp hpz
        rw [← hcc] at hc
        have hcell : wr.cell? ⟨G, j, none⟩ = some (.string ⟨p.toArray⟩) := by
          rw [blk_cell hk j, hp]
          simp [← hd, sv]
        have hfro : wr.frozen? ⟨G, j, none⟩ = false := blk_frozen hk j
        rw [hc, hp, vals_step, part_pre] at hXr
        have hsl := fun W => run_one names j hjn W
        rw [← hcc] at hsl
        have hPr := fun w => Tryz.strings_HasPrefix ⟨p.toArray⟩ ⟨#[c, 61]⟩ w
        have e1 : (⟨p.toArray⟩ : ByteArray).data.toList = p := by simp
        have e2 : (⟨#[c, 61]⟩ : ByteArray).data.toList = [c, 61] := rfl
        rw [e1, e2] at hPr
        have ha1 := fun w => run_catA ⟨#[c]⟩ ⟨#[61]⟩ ⟨#[c, 61]⟩ rfl (show 1 + 1 ≤ 100000 by decide) w
        clear e1 e2 hc hcc
        by_cases hpre : Lib.hasPrefix p [c, 61] = true
        · rw [hpre] at hPr
          rw [if_pos hpre] at hXr
          simp only at hXr
          have h2 := pre_len hpre
          have hsl2 := ext_from ⟨p.toArray⟩ 2 (by rw [bsz]; exact h2)
          rw [bsz, bldl] at hsl2
          have h2I : (2 : Int) ≤ (p.length : Int) := by have : 2 ≤ p.length := h2; omega
          have hg3 := blk_set hk j (.string ⟨(p.drop 2).toArray⟩)
          replace hXr := Lib.hid hXr
          replace hnl := Lib.hid hnl
          clear hpre h2 hpp
          go_wp2_with (go_at_call 43; refine (hPr _).mono ?_; rintro e w7 ⟨rfl, rfl⟩)
          go_roundw
          case measure => simp [RowKit.intOf] <;> omega
          refine ⟨j + 1, done ++ [p.drop 2], by omega, congrArg (Value.int .i64) (by omega), by simp [hd], ?_, bl_set _ _ hGw HB, hXr.out⟩
          rw [hg3, hp, List.setIfInBounds_toArray]
          simp [← hd, sv]
        · have hpre2 : Lib.hasPrefix p [c, 61] = false := by simpa using hpre
          rw [hpre2] at hPr
          rw [if_neg hpre] at hXr
          replace hXr := Lib.hid (show X = none from hXr)
          clear hpre hpre2 hpp
          go_wp2_with (go_at_call 43; refine (hPr _).mono ?_; rintro e w7 ⟨rfl, rfl⟩)
          exact bodyPost_ret (v := .tuple #[.slice none 0 0, .bool false]) (by simp [results, Tryz.results56, go_sem]) rfl ⟨by rw [hXr.out]; rfl, HB⟩
      · obtain rfl : j = L := by omega
        have hlt' : ¬ (j : Int) < (j : Int) := by omega
        have e1 : names.data.toList.drop j = [] := List.drop_eq_nil_of_le (by have := hL.out; have := hlen.out; have := hnl.out; omega)
        have e2 : PS.drop j = [] := List.drop_eq_nil_of_le (by have := hL.out; omega)
        rw [e1, e2] at hXr
        rw [e2, List.append_nil] at hk
        replace hXr := Lib.hid (show X = some done by rw [hXr]; simp [valsC])
        clear e1 e2
        go_wp2_with fail
        exact bodyPost_ret (v := .tuple #[.slice (some ⟨G, 0, none⟩) j j, .bool true]) (by simp [results, Tryz.results56, go_sem]) rfl ⟨by rw [hXr.out]; exact ⟨G, by rw [hd], hGw, hk⟩, HB⟩
theorem bytes_c (s : ByteArray) (hs : s.size ≤ 2000) (w : World) : Calls Tryz.prog 57 #[.string s] w fun e w' => e = .returned (.string ⟨(b64 s.data.toList).toArray⟩) ∧ Below w.heap.size w w' := by
  have hD := fun w => Decode_c s hs w
  unfold b64
  cases hd : decL s.data.toList with
  | none =>
    rw [hd] at hD
    simp only [dres] at hD
    go_enter Tryz.func57, Tryz.ntmps57
    go_wp2_with (go_at_call 82; refine (hD _).mono ?_; rintro e w7 ⟨rfl, hb⟩)
    exact bodyPost_ret (v := .string ⟨#[]⟩) (by simp [results, Tryz.results57, go_sem]) rfl ⟨rfl, hb⟩
  | some x =>
    rw [hd] at hD
    simp only [dres] at hD
    go_enter Tryz.func57, Tryz.ntmps57
    go_wp2_with (go_at_call 82; refine (hD _).mono ?_; rintro e w7 ⟨rfl, hb⟩)
    exact bodyPost_ret (v := .string ⟨x.toArray⟩) (by simp [results, Tryz.results57, go_sem]) rfl ⟨rfl, hb⟩
end Go.Proofs.YtjigckibbjfkmaaGreatDoor

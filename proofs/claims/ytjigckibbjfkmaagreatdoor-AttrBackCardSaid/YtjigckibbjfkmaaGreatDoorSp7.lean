/- The contract of the reference's Split. -/
import Derived.Test.YtjigckibbjfkmaaGreatDoorGb
import Derived.Test.YtjigckibbjfkmaaGreatDoorSpl
namespace Go.Proofs.YtjigckibbjfkmaaGreatDoor
open Go.RowKit Go.Lib
set_option maxRecDepth 100000
set_option linter.unusedSimpArgs false
set_option linter.unusedVariables false
/-- A sign more behind the last part. -/
def snocF (b : UInt8) : List (List UInt8) → List (List UInt8)
  | [] => [[b]]
  | [p] => [p ++ [b]]
  | p :: q :: t => p :: snocF b (q :: t)
theorem snocF_cons (b : UInt8) (p : List UInt8) (t : List (List UInt8)) (h : t ≠ []) : snocF b (p :: t) = p :: snocF b t := by
  cases t with
  | nil => exact absurd rfl h
  | cons q t => rfl
theorem consF_app (b : UInt8) (t u : List (List UInt8)) (h : t ≠ []) : consF b (t ++ u) = consF b t ++ u := by
  cases t with
  | nil => exact absurd rfl h
  | cons q t => rfl
theorem snocF_consF (a b : UInt8) (t : List (List UInt8)) (h : t ≠ []) : snocF b (consF a t) = consF a (snocF b t) := by
  cases t with
  | nil => exact absurd rfl h
  | cons q t =>
    cases t with
    | nil => rfl
    | cons r t => rfl
theorem split_snoc (c b : UInt8) : ∀ l : List UInt8, splitL c (l ++ [b]) = if b = c then splitL c l ++ [[]] else snocF b (splitL c l)
  | [] => by
    by_cases h : b = c
    · simp [splitL, h]
    · simp [splitL, h, consF, snocF]
  | a :: r => by
    have ih := split_snoc c b r
    rw [List.cons_append, splitL, splitL, ih]
    by_cases h1 : a = c
    · rw [if_pos h1, if_pos h1]
      by_cases h2 : b = c
      · rw [if_pos h2, if_pos h2]; rfl
      · rw [if_neg h2, if_neg h2, snocF_cons _ _ _ (splitL_ne _ _)]
    · rw [if_neg h1, if_neg h1]
      by_cases h2 : b = c
      · rw [if_pos h2, if_pos h2, consF_app _ _ _ (splitL_ne _ _)]
      · rw [if_neg h2, if_neg h2, snocF_consF _ _ _ (splitL_ne _ _)]
theorem snocF_last (b : UInt8) : ∀ (t : List (List UInt8)) (h : t ≠ []), snocF b t = t.set (t.length - 1) ((t.getD (t.length - 1) []) ++ [b])
  | [], h => absurd rfl h
  | [p], _ => by simp [snocF]
  | p :: q :: t, _ => by
    have ih := snocF_last b (q :: t) (by simp)
    rw [snocF, ih]
    simp
/-- A row's cells as strings. -/
def sv (l : List UInt8) : Value := .string ⟨l.toArray⟩
theorem ownsRow_set {w : World} {base : Nat} {e : TypeId} {g n cap : Nat} {vs : List Value} (h : w.ownsRow base e 1 (.slice (some ⟨g, 0, none⟩) n cap) n vs) (k : Nat) (v : Value) (hk : k < n) : (w.setCell ⟨g, k, none⟩ v).ownsRow base e 1 (.slice (some ⟨g, 0, none⟩) n cap) n (vs.set k v) := by
  refine ⟨by rw [List.length_set]; exact h.1, ?_⟩
  rcases h.2 with ⟨hn, _⟩ | ⟨g', cap', cur, hv, hb, hg, h1, h2, h3, h4⟩
  · cases hn
  · obtain ⟨hg', _, hcap⟩ := Value.slice.inj hv
    have hg2 : g = g' := by simpa using hg'
    subst hg2 hcap
    refine .inr ⟨g, cap, cur.setIfInBounds k v, rfl, hb, blk_set hg k v, h1, h2, by rw [Array.size_setIfInBounds]; exact h3, ?_⟩
    rw [Array.toList_setIfInBounds, List.take_set, h4]
theorem ownsRow_one (w : World) (e : TypeId) (v : Value) : (w.alloc (.cells #[v] e (0, 0))).ownsRow w.heap.size e 1 (.slice (some ⟨w.heap.size, 0, none⟩) 1 1) 1 [v] := by
  refine ⟨rfl, .inr ⟨w.heap.size, 1, #[v], rfl, Nat.le_refl _, blk_new _ _, Nat.le_refl _, by decide, rfl, rfl⟩⟩
/-- A row of at least one part. -/
theorem split_full (c : UInt8) (l : List UInt8) : 1 ≤ (splitL c l).length := by
  cases h : splitL c l with
  | nil => exact absurd h (splitL_ne _ _)
  | cons p t => simp
theorem take_snoc (l : List UInt8) (k : Nat) (h : k < l.length) : l.take (k + 1) = l.take k ++ [l[k]] := by
  rw [List.take_add_one, List.getElem?_eq_getElem h]; rfl
theorem run_one (s : ByteArray) (k : Nat) (h : k < s.size) (w : World) : (Instr.slice 9 (.string s) (some (.int .i64 (k : Int))) (some (.int .i64 ((k : Int) + 1))) none).run Tryz.prog w = .ok (.string ⟨#[s[k]]⟩) w := by
  have := run_slice_string (P := Tryz.prog) w 9 s .i64 .i64 (k : Int) ((k : Int) + 1) Tryz.underlying9 (by omega) (by omega) (by omega)
  rw [this]
  congr 2
  apply ByteArray.ext
  apply Array.ext'
  have e1 : ((k : Int) + 1).toNat = k + 1 := by omega
  have e2 : ((k : Nat) : Int).toNat = k := by omega
  rw [e1, e2, ByteArray.data_extract, Array.toList_extract]
  have hl : k < s.data.toList.length := by rw [Array.length_toList]; exact h
  simp only [List.extract_eq_take_drop]
  rw [List.drop_eq_getElem_cons hl, show k + 1 - k = 1 by omega]
  rfl
theorem run_add_one (p : List UInt8) (b : UInt8) (h : p.length ≤ 100000) (w : World) : (Op.stringOp .add ⟨p.toArray⟩ ⟨#[b]⟩).run Tryz.prog w = .ok (.string ⟨(p ++ [b]).toArray⟩) w := by
  exact run_string_add_lists w p [b] (by omega) (by simp)
theorem own_at7 {w : World} {base : Nat} {e : TypeId} {sv : Value} {n : Nat} {xs : List Value} (h : w.ownsRow base e 1 sv n xs) {i : Nat} {v : Value} (hi : xs[i]? = some v) : ∃ g cap, sv = .slice (some ⟨g, 0, none⟩) n cap ∧ w.cell? ⟨g, i, none⟩ = some v := by
  rcases h.2 with ⟨rfl, rfl⟩ | ⟨g, cap, cur, rfl, _, hk, _, _, _, ht⟩
  · have := h.1
    have hlt : i < xs.length := (List.getElem?_eq_some_iff.1 hi).1
    omega
  · refine ⟨g, cap, rfl, ?_⟩
    rw [← ht] at hi
    have h2 : cur.toList[i]? = some v := by
      rw [List.getElem?_take] at hi
      split at hi
      · exact hi
      · cases hi
    simp [World.cell?, hk]
    simpa using h2
theorem own_fro {w : World} {base : Nat} {e : TypeId} {n g cap : Nat} {xs : List Value} (h : w.ownsRow base e 1 (.slice (some ⟨g, 0, none⟩) n cap) n xs) {m : Nat} : w.frozen? ⟨g, m, none⟩ = false := by
  rcases h.2 with ⟨q, _⟩ | ⟨g', cap', cur, e, _, hk, _⟩
  · cases q
  · cases e
    exact blk_frozen hk m
set_option maxHeartbeats 4000000 in
theorem rSplit_c (s : ByteArray) (c : UInt8) (hs : s.size ≤ 100000) (w : World) : Calls Tryz.prog 35 #[.string s, .int .u8 (c.toNat : Int)] w fun e w' => (∃ g cap, e = .returned (.slice (some ⟨g, 0, none⟩) (splitL c s.data.toList).length cap) ∧ w'.ownsRow w.heap.size 9 1 (.slice (some ⟨g, 0, none⟩) (splitL c s.data.toList).length cap) (splitL c s.data.toList).length ((splitL c s.data.toList).map sv)) ∧ Below w.heap.size w w' := by
  have hl : s.data.toList.length = s.size := Array.length_toList
  replace hl := Lib.hid hl
  have hO0 := ownsRow_one w 9 (.string ⟨#[]⟩)
  have hA0 : Below w.heap.size w (w.alloc (.cells #[.string ⟨#[]⟩] 9)) := (Below.refl _ _).alloc (Nat.le_refl _) _
  go_enter Tryz.func35, Tryz.ntmps35
  go_wp2_with fail
  go_loopw [6, 5] (fun i v wr => ∃ k g cap n, k ≤ s.size ∧ i = .int .i64 (k : Int) ∧ n = (splitL c (s.data.toList.take k)).length ∧ v = .slice (some ⟨g, 0, none⟩) n cap ∧ Below w.heap.size w wr ∧ wr.ownsRow w.heap.size 9 1 (.slice (some ⟨g, 0, none⟩) n cap) n ((splitL c (s.data.toList.take k)).map sv)) (fun i _ _ => s.size - (RowKit.intOf i).toNat)
  case atStart => exact ⟨0, _, _, 1, by omega, rfl, rfl, rfl, hA0, hO0⟩
  case round =>
    clear hO0 hA0
    obtain ⟨k, g, cap, n, hk, rfl, hn, rfl, HB, HO⟩ := hrel
    have pn : (0 : Int) ≤ (k : Int) := by omega
    by_cases hlt : k < s.size
    · have hlt' : (k : Int) < (s.size : Int) := by omega
      have hst := split_snoc c s[k] (s.data.toList.take k)
      have hts : s.data.toList.take (k + 1) = s.data.toList.take k ++ [s[k]] := take_snoc s.data.toList k (by rw [hl.out]; exact hlt)
      rw [← hts] at hst
      clear hts
      have hnl := split_len c (s.data.toList.take k)
      rw [← hn] at hnl
      have hn1 := split_full c (s.data.toList.take k)
      rw [← hn] at hn1
      have hnk : n ≤ k + 1 := by
        rw [List.length_take] at hnl; omega
      by_cases hbc : s[k] = c
      · rw [if_pos hbc] at hst
        have hq : ((s[k].toNat : Int) == (c.toNat : Int)) = true := by rw [hbc]; simp
        have hq2 : (s[k].toNat : Int) = (c.toNat : Int) := by rw [hbc]
        replace hst := Lib.hid hst
        replace hn := Lib.hid hn
        go_wp2_with (refine wpList_app1 rfl _ _ 43 rfl w.heap.size 9 (.string ⟨#[]⟩) 16 Tryz.underlying43 (by kernel_rfl) rfl (by decide) _ _ _ rfl (ownsRow_block HO fun g hg => heap_alloc_old _ _ (ownsRow_lt HO hg).2) _ 1 _ rfl (blk_cell (blk_new _ _) 0) rfl (by omega) (by have := HB.size; simp; omega) ?_; intro g4 cap4 w4 HO4 hg4 hsv4 hlt4; replace HB := grown_below (bl_alloc HB _) hg4 (by have := HB.size; simp; omega) (fun g hg => (ownsRow_lt HO hg).1); replace HO := HO4; clear hg4 HO4 hsv4 hlt4)
        go_roundw
        case measure => simp [RowKit.intOf] <;> omega
        refine ⟨k + 1, g4, cap4, n + 1, by omega, congrArg (Value.int .i64) (by omega), ?_, rfl, HB, ?_⟩
        · rw [hst.out, List.length_append, ← hn.out]; rfl
        · rw [hst.out, List.map_append]
          exact HO
      · rw [if_neg hbc, snocF_last _ _ (splitL_ne _ _), ← hn] at hst
        have hq : ((s[k].toNat : Int) == (c.toNat : Int)) = false := by
          rw [beq_eq_false_iff_ne]; intro q; exact hbc (UInt8.toNat_inj.1 (by omega))
        have hq2 : ¬ (s[k].toNat : Int) = (c.toNat : Int) := by intro q; exact hbc (UInt8.toNat_inj.1 (by omega))
        obtain ⟨m, rfl⟩ : ∃ m, n = m + 1 := ⟨n - 1, by omega⟩
        rw [Nat.add_sub_cancel] at hst
        have hone := fun W => run_one s k hlt W
        have hmI : ((m + 1 : Nat) : Int) - 1 = (m : Int) := by omega
        obtain ⟨p, hp⟩ : ∃ p, p = (splitL c (s.data.toList.take k)).getD m [] := ⟨_, rfl⟩
        have hpm : ((splitL c (s.data.toList.take k)).map sv)[m]? = some (sv p) := by
          rw [List.getElem?_map, hp, List.getD_eq_getElem?_getD, List.getElem?_eq_getElem (by omega)]; rfl
        have hcell : wr.cell? ⟨g, m, none⟩ = some (.string ⟨p.toArray⟩) := by
          obtain ⟨g', cap', e, hc⟩ := own_at7 HO hpm
          cases e
          exact hc
        have hfro : wr.frozen? ⟨g, m, none⟩ = false := own_fro HO
        have hpl : p.length ≤ s.size := by
          have hmem : p ∈ splitL c (s.data.toList.take k) := by
            rw [hp, List.getD_eq_getElem?_getD, List.getElem?_eq_getElem (by omega)]; exact List.getElem_mem _
          have := split_part c _ p hmem
          rw [List.length_take] at this; omega
        rw [← hp] at hst
        have hadd := fun (W : World) => run_add_one p s[k] (by omega) W
        replace hst := Lib.hid hst
        replace hn := Lib.hid hn
        clear hpm hp hnl hn1
        have hw1 : IntKind.i64.wrap ((k : Int) + 1) = (k : Int) + 1 := IntWalk.i64_in _ (by omega)
        have hml : m < m + 1 := by omega
        go_upto_region 8 with fail
        go_region
        go_wp2_with fail
        go_roundw
        case measure => simp [RowKit.intOf] <;> omega
        have hg : w.heap.size ≤ g := (ownsRow_lt HO rfl).1
        refine ⟨k + 1, g, cap, m + 1, by omega, congrArg (Value.int .i64) (by omega), ?_, rfl, bl_drewN (bl_set _ _ hg HB) _, ?_⟩
        · rw [hst.out, List.length_set]; exact hn.out
        · rw [hst.out, List.map_set]
          exact ownsRow_block (ownsRow_set HO m _ hml) fun _ _ => rfl
    · obtain rfl : k = s.size := by omega
      have hlt' : ¬ (s.size : Int) < (s.size : Int) := by omega
      rw [List.take_of_length_le (by rw [hl.out]; exact Nat.le_refl _)] at HO hn
      subst hn
      go_wp2_with fail
      exact bodyPost_ret (v := .slice (some ⟨g, 0, none⟩) (splitL c s.data.toList).length cap) (by simp [results, Tryz.results35, go_sem]) rfl ⟨⟨g, cap, rfl, HO⟩, HB⟩
end Go.Proofs.YtjigckibbjfkmaaGreatDoor

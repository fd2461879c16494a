/- The contract of audit.Reach. -/
import Derived.Test.YtcophjjjkonpjaaDoorAv
namespace Go.Proofs.YtcophjjjkonpjaaDoor
open Go.RowKit
set_option maxRecDepth 100000
set_option linter.unusedSimpArgs false
set_option linter.unusedVariables false
/-- Loads and stores. -/
def ls (e : Evt) : Prop := e.k = 1 ∨ e.k = 2
/-- From which place to which one. -/
def Rch (es : List Evt) (lo hi : Int) (any : Bool) : Prop := (any = false ∧ lo = 0 ∧ hi = 0 ∧ ∀ e ∈ es, ¬ ls e) ∨ (any = true ∧ (∀ e ∈ es, ls e → lo ≤ e.i ∧ e.i ≤ hi) ∧ (∃ e ∈ es, ls e ∧ e.i = lo) ∧ (∃ e ∈ es, ls e ∧ e.i = hi))
theorem Rch.skip {es : List Evt} {lo hi : Int} {any : Bool} {e : Evt} (h : Rch es lo hi any) (he : ¬ ls e) : Rch (es ++ [e]) lo hi any := by
  rcases h with ⟨h1, h2, h3, h4⟩ | ⟨h1, h2, ⟨x, hx, hx2⟩, ⟨y, hy, hy2⟩⟩
  · refine .inl ⟨h1, h2, h3, fun z hz => ?_⟩
    rcases List.mem_append.1 hz with q | q
    · exact h4 z q
    · rw [List.mem_singleton.1 q]; exact he
  · refine .inr ⟨h1, fun z hz hl => ?_, ⟨x, List.mem_append_left _ hx, hx2⟩, ⟨y, List.mem_append_left _ hy, hy2⟩⟩
    rcases List.mem_append.1 hz with q | q
    · exact h2 z q hl
    · rw [List.mem_singleton.1 q] at hl; exact absurd hl he
theorem Rch.first {es : List Evt} {lo hi : Int} {e : Evt} (h : Rch es lo hi false) (he : ls e) : Rch (es ++ [e]) e.i e.i true := by
  rcases h with ⟨h1, h2, h3, h4⟩ | ⟨h1, _⟩
  · refine .inr ⟨rfl, fun z hz hl => ?_, ⟨e, by simp, he, rfl⟩, ⟨e, by simp, he, rfl⟩⟩
    rcases List.mem_append.1 hz with q | q
    · exact absurd hl (h4 z q)
    · rw [List.mem_singleton.1 q]; exact ⟨Int.le_refl _, Int.le_refl _⟩
  · cases h1
theorem Rch.more {es : List Evt} {lo hi lo' hi' : Int} {e : Evt} (h : Rch es lo hi true) (he : ls e) (hlo : lo' = if e.i < lo then e.i else lo) (hhi : hi' = if hi < e.i then e.i else hi) : Rch (es ++ [e]) lo' hi' true := by
  rcases h with ⟨h1, _⟩ | ⟨h1, h2, ⟨x, hx, hx2, hx3⟩, ⟨y, hy, hy2, hy3⟩⟩
  · cases h1
  · refine .inr ⟨rfl, fun z hz hl => ?_, ?_, ?_⟩
    · rcases List.mem_append.1 hz with q | q
      · have := h2 z q hl
        constructor
        · rw [hlo]; split <;> omega
        · rw [hhi]; split <;> omega
      · rw [List.mem_singleton.1 q]
        constructor
        · rw [hlo]; split <;> omega
        · rw [hhi]; split <;> omega
    · rw [hlo]
      split
      · exact ⟨e, by simp, he, rfl⟩
      · exact ⟨x, List.mem_append_left _ hx, hx2, hx3⟩
    · rw [hhi]
      split
      · exact ⟨e, by simp, he, rfl⟩
      · exact ⟨y, List.mem_append_left _ hy, hy2, hy3⟩
def RchR (es : List Evt) (e : Ending) : Prop := ∃ (lo hi : Int) (any : Bool), e = .returned (.tuple #[.int .i64 lo, .int .i64 hi, .bool any]) ∧ Rch es lo hi any
set_option maxHeartbeats 1000000 in
theorem Reach_c (a : List Evt) (va : Value) (w : World) (ha : RowE w va a) (la : a.length ≤ 1000000) : Calls Tryd.prog 9 #[va] w fun e w' => RchR a e ∧ Below w.heap.size w w' := by
  obtain ⟨aa, ca, rfl, ca3⟩ := ha
  replace ca3 := Lib.hid ca3
  have hR0 : Rch (a.take 0) 0 0 false := .inl ⟨rfl, rfl, rfl, fun e he => by simp at he⟩
  go_enter Tryd.func9, Tryd.ntmps9
  go_wp2_with fail
  go_loopw [12, 5, 6, 7] (fun i l h y wr => ∃ (j : Nat) (lo hi : Int) (any : Bool), j ≤ a.length ∧ i = .int .i64 (j : Int) ∧ l = .int .i64 lo ∧ h = .int .i64 hi ∧ y = .bool any ∧ Rch (a.take j) lo hi any ∧ Below w.heap.size w wr) (fun i _ _ _ _ => a.length - (RowKit.intOf i).toNat)
  case atStart => exact ⟨0, 0, 0, false, by omega, rfl, rfl, rfl, rfl, hR0, Below.refl _ _⟩
  case round =>
    clear hR0
    obtain ⟨j, lo, hi, any, hj, rfl, rfl, rfl, rfl, hR, HB⟩ := hrel
    by_cases hlt : j < a.length
    · have hlt' : (j : Int) < (a.length : Int) := by omega
      obtain ⟨g, off, rfl, c0, c1, c2⟩ := ca3.out j hlt
      replace c0 := grow_cell HB c0
      replace c1 := grow_cell HB c1
      replace c2 := grow_cell HB c2
      have htk := List.take_succ_eq_append_getElem hlt
      obtain ⟨x, hx⟩ : ∃ x, x = a[j] := ⟨_, rfl⟩
      rw [← hx] at c0 c1 c2 htk
      replace htk := Lib.hid htk
      replace hx := Lib.hid hx
      replace hR := Lib.hid hR
      go_upto_region 5 with fail
      refine gen_world fun W2 hW2 => ?_
      have ke : W2.heap[wr.heap.size]? = some (.cells #[.int .i64 x.k, .int .i64 x.i, .int .u32 x.v] 28 (0, 0)) := by subst hW2; exact blk_new _ _
      replace HB : Below w.heap.size w W2 := by subst hW2; exact bl_alloc HB _
      clear hW2 c0 c1 c2
      have e0 := blk_cell ke 0
      have e1 := blk_cell ke 1
      clear ke
      by_cases hls : ls x
      · have hkk : x.k = 1 ∨ x.k = 2 := hls
        have hmr : any = false → Rch (a.take (j + 1)) x.i x.i true := fun q => by rw [htk.out]; have := hR.out; rw [q] at this; exact this.first hls
        have hmo : any = true → ∀ lo' hi', (lo' = if x.i < lo then x.i else lo) → (hi' = if hi < x.i then x.i else hi) → Rch (a.take (j + 1)) lo' hi' true := fun q lo' hi' h1 h2 => by rw [htk.out]; have := hR.out; rw [q] at this; exact this.more hls h1 h2
        replace hls := Lib.hid hls
        generalize x.k = xk at hkk e0
        generalize x.i = xi at e1 hmr hmo
        replace hmr := Lib.hid hmr
        replace hmo := Lib.hid hmo
        rcases hkk with rfl | rfl
        · cases any with
          | false =>
            go_upto_region 7 with fail
            go_region
            go_upto_region 8 with fail
            go_region
            go_wp2_with fail
            exact ⟨⟨j + 1, xi, xi, true, by omega, congrArg (Value.int .i64) (by omega), rfl, rfl, rfl, hmr.out rfl, (bl_drew (bl_drew HB))⟩, by simp [RowKit.intOf] <;> omega⟩
          | true =>
            by_cases q1 : xi < lo <;> by_cases q2 : hi < xi
            · go_upto_region 8 with fail
              go_region
              go_wp2_with fail
              exact ⟨⟨j + 1, xi, xi, true, by omega, congrArg (Value.int .i64) (by omega), rfl, rfl, rfl, hmo.out rfl _ _ (by rw [if_pos q1]) (by rw [if_pos q2]), (bl_drew HB)⟩, by simp [RowKit.intOf] <;> omega⟩
            · go_upto_region 8 with fail
              go_region
              go_wp2_with fail
              exact ⟨⟨j + 1, xi, hi, true, by omega, congrArg (Value.int .i64) (by omega), rfl, rfl, rfl, hmo.out rfl _ _ (by rw [if_pos q1]) (by rw [if_neg q2]), (bl_drew HB)⟩, by simp [RowKit.intOf] <;> omega⟩
            · go_upto_region 8 with fail
              go_region
              go_wp2_with fail
              exact ⟨⟨j + 1, lo, xi, true, by omega, congrArg (Value.int .i64) (by omega), rfl, rfl, rfl, hmo.out rfl _ _ (by rw [if_neg q1]) (by rw [if_pos q2]), (bl_drew HB)⟩, by simp [RowKit.intOf] <;> omega⟩
            · go_upto_region 8 with fail
              go_region
              go_wp2_with fail
              exact ⟨⟨j + 1, lo, hi, true, by omega, congrArg (Value.int .i64) (by omega), rfl, rfl, rfl, hmo.out rfl _ _ (by rw [if_neg q1]) (by rw [if_neg q2]), (bl_drew HB)⟩, by simp [RowKit.intOf] <;> omega⟩
        · cases any with
          | false =>
            go_upto_region 7 with fail
            go_region
            go_upto_region 8 with fail
            go_region
            go_wp2_with fail
            exact ⟨⟨j + 1, xi, xi, true, by omega, congrArg (Value.int .i64) (by omega), rfl, rfl, rfl, hmr.out rfl, (bl_drew (bl_drew HB))⟩, by simp [RowKit.intOf] <;> omega⟩
          | true =>
            by_cases q1 : xi < lo <;> by_cases q2 : hi < xi
            · go_upto_region 8 with fail
              go_region
              go_wp2_with fail
              exact ⟨⟨j + 1, xi, xi, true, by omega, congrArg (Value.int .i64) (by omega), rfl, rfl, rfl, hmo.out rfl _ _ (by rw [if_pos q1]) (by rw [if_pos q2]), (bl_drew HB)⟩, by simp [RowKit.intOf] <;> omega⟩
            · go_upto_region 8 with fail
              go_region
              go_wp2_with fail
              exact ⟨⟨j + 1, xi, hi, true, by omega, congrArg (Value.int .i64) (by omega), rfl, rfl, rfl, hmo.out rfl _ _ (by rw [if_pos q1]) (by rw [if_neg q2]), (bl_drew HB)⟩, by simp [RowKit.intOf] <;> omega⟩
            · go_upto_region 8 with fail
              go_region
              go_wp2_with fail
              exact ⟨⟨j + 1, lo, xi, true, by omega, congrArg (Value.int .i64) (by omega), rfl, rfl, rfl, hmo.out rfl _ _ (by rw [if_neg q1]) (by rw [if_pos q2]), (bl_drew HB)⟩, by simp [RowKit.intOf] <;> omega⟩
            · go_upto_region 8 with fail
              go_region
              go_wp2_with fail
              exact ⟨⟨j + 1, lo, hi, true, by omega, congrArg (Value.int .i64) (by omega), rfl, rfl, rfl, hmo.out rfl _ _ (by rw [if_neg q1]) (by rw [if_neg q2]), (bl_drew HB)⟩, by simp [RowKit.intOf] <;> omega⟩
      · have hkk : ¬ (x.k = 1 ∨ x.k = 2) := hls
        have hsk : Rch (a.take (j + 1)) lo hi any := by rw [htk.out]; exact hR.out.skip hls
        have n1 : ¬ x.k = 1 := fun q => hkk (.inl q)
        have n2 : ¬ x.k = 2 := fun q => hkk (.inr q)
        replace hsk := Lib.hid hsk
        clear hls hkk
        generalize x.k = xk at n1 n2 e0
        have n3 : (xk != 1) = true := by simp [n1]
        have n4 : (xk != 2) = true := by simp [n2]
        go_wp2_with fail
        exact ⟨⟨j + 1, lo, hi, any, by omega, congrArg (Value.int .i64) (by omega), rfl, rfl, rfl, hsk.out, HB⟩, by simp [RowKit.intOf] <;> omega⟩
    · obtain rfl : j = a.length := by omega
      have hlt' : ¬ (a.length : Int) < (a.length : Int) := by omega
      rw [List.take_of_length_le (Nat.le_refl _)] at hR
      go_wp2_with fail
      exact bodyPost_ret (v := .tuple #[.int .i64 lo, .int .i64 hi, .bool any]) (by simp [results, Tryd.results9, go_sem]) rfl ⟨⟨lo, hi, any, rfl, hR⟩, HB⟩
end Go.Proofs.YtcophjjjkonpjaaDoor

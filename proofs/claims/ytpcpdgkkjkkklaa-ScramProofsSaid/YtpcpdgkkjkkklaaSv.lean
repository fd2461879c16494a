/- The law's own short and awake, of chapter 27. -/
import Derived.Test.YtpcpdgkkjkkklaaSs
import Derived.ChangeArms
import Derived.OpenShut
import Derived.SizedLaws
namespace Go.Proofs.Ytpcpdgkkjkkklaa
open Go.RowKit Go.Lib
set_option maxRecDepth 100000
set_option linter.unusedSimpArgs false
set_option linter.unusedVariables false
attribute [local go_sem] evR_tmp evR_const evR_global evR_func
/-- How many bytes the first k texts have. -/
def sumT (l : List ByteArray) (k : Nat) : Nat := ((l.take k).map ByteArray.size).sum
theorem sumT_next (l : List ByteArray) (k : Nat) (h : k < l.length) : sumT l (k + 1) = sumT l k + l[k].size := by
  unfold sumT
  rw [List.take_succ_eq_append_getElem h, List.map_append, List.sum_append]; simp
theorem sumT_mono (l : List ByteArray) (k : Nat) : sumT l k ≤ sumT l l.length := by
  have h : ∀ j, sumT l k ≤ sumT l (k + j) := fun j => by
    induction j with
    | zero => exact Nat.le_refl _
    | succ j ih =>
      rcases Nat.lt_or_ge (k + j) l.length with h | h
      · have := sumT_next l (k + j) h
        rw [← Nat.add_assoc]; omega
      · have : sumT l (k + (j + 1)) = sumT l (k + j) := by unfold sumT; rw [List.take_of_length_le (by omega), List.take_of_length_le h]
        omega
  rcases Nat.le_total k l.length with q | q
  · have := h (l.length - k)
    rwa [Nat.add_sub_cancel' q] at this
  · unfold sumT; rw [List.take_of_length_le q, List.take_of_length_le (Nat.le_refl _)]; exact Nat.le_refl _
set_option maxHeartbeats 2000000 in
theorem short_c (most : Nat) (hm : most ≤ 1000) (l : List ByteArray) (hl : l.length ≤ 10) (hz : ∀ k (h : k < l.length), l[k].size ≤ 140737488355328) (g cap : Nat) (w : World) (hk : ∀ k (h : k < l.length), w.cell? ⟨g, k, none⟩ = some (.string l[k])) : Calls Try.prog 8 #[.int .i64 (most : Int), .slice (some ⟨g, 0, none⟩) l.length cap] w fun e w' => e = .returned (.bool (decide (sumT l l.length ≤ most))) ∧ Below w.heap.size w w' := by
  obtain ⟨L, hL⟩ : ∃ L, L = l.length := ⟨_, rfl⟩
  have hnx := fun k h => sumT_next l k (h : k < l.length)
  have hmo := sumT_mono l
  rw [← hL] at hl hmo ⊢
  replace hL := Lib.hid hL
  replace hz := Lib.hid hz
  replace hk := Lib.hid hk
  replace hnx := Lib.hid hnx
  replace hmo := Lib.hid hmo
  go_enter Try.func8, Try.ntmps8
  go_wp2_with fail
  go_loop [5, 10] (fun n i => ∃ k : Nat, k ≤ L ∧ i = .int .i64 (k : Int) ∧ n = .int .i64 ((sumT l k : Nat) : Int) ∧ sumT l k ≤ most) (fun _ i => L - (intOf i).toNat)
  case atStart => exact ⟨0, by omega, rfl, rfl, Nat.zero_le _⟩
  case round =>
    obtain ⟨k, hkL, rfl, rfl, hle⟩ := hrel
    have pn : (0 : Int) ≤ (k : Int) := by omega
    by_cases hlt : k < L
    · have hlt' : (k : Int) < (L : Int) := by omega
      have hkl : k < l.length := by rw [← hL.out]; exact hlt
      have c1 : w.cell? ⟨g, k, none⟩ = some (.string l[k]) := hk.out k hkl
      have hn := hnx.out k hkl
      have h47 := hz.out k hkl
      have hmk := hmo.out (k + 1)
      generalize l[k] = s at c1 hn h47
      generalize sumT l k = n at hn hle ⊢
      replace hn := Lib.hid hn
      by_cases hgt : most < n + s.size
      · have hgt' : (most : Int) < (n : Int) + (s.size : Int) := by omega
        go_wp2_with fail
        exact bodyPost_ret (v := .bool false) (by simp [results, Try.results8, go_sem]) rfl ⟨by rw [decide_eq_false]; have := hn.out; omega, Below.refl _ _⟩
      · have hgt' : ¬ (most : Int) < (n : Int) + (s.size : Int) := by omega
        go_wp2_with fail
        go_round
        case rel => exact ⟨k + 1, by omega, congrArg (Value.int .i64) (by omega), congrArg (Value.int .i64) (by rw [hn.out]; omega), by rw [hn.out]; omega⟩
        case measure => simp [intOf] <;> omega
    · obtain rfl : k = L := by omega
      have hlt' : ¬ (k : Int) < (k : Int) := by omega
      go_wp2_with fail
      exact bodyPost_ret (v := .bool true) (by simp [results, Try.results8, go_sem]) rfl ⟨by first | rfl | rw [decide_eq_true hle], Below.refl _ _⟩
theorem xor_back (a b : List UInt8) (h : a.length = b.length) : xorB (xorB a b) b = a := by
  induction a generalizing b with
  | nil => simp [xorB]
  | cons x a ih =>
    cases b with
    | nil => simp at h
    | cons y b =>
      have := ih b (by simpa using h)
      simp only [xorB, List.zipWith_cons_cons] at this ⊢
      rw [this, UInt8.xor_assoc, UInt8.xor_self, UInt8.xor_zero]
theorem macText_size (st t : ByteArray) : (macText st t).size = 32 := by simp [macText, ByteArray.size, refBytes_length _ (macK_length _ _), macw]
/-- The proof that is made is found right. -/
theorem check_own (ks : List UInt8) (t : ByteArray) : checkB (stoB ks) ⟨(xorB (cliB ks).data.toList (macText (stoB ks) t).data.toList).toArray⟩ t = true := by
  have h1 : (cliB ks).data.toList.length = 32 := by rw [Array.length_toList]; exact cliB_size ks
  have h2 : (macText (stoB ks) t).data.toList.length = 32 := by rw [Array.length_toList]; exact macText_size _ _
  unfold checkB
  have hs : (ByteArray.mk (xorB (cliB ks).data.toList (macText (stoB ks) t).data.toList).toArray).size = 32 := by
    show (xorB _ _).toArray.size = 32
    rw [List.size_toArray, xorB_length, h1, h2]; rfl
  rw [hs, show (ByteArray.mk (xorB (cliB ks).data.toList (macText (stoB ks) t).data.toList).toArray).data.toList = xorB (cliB ks).data.toList (macText (stoB ks) t).data.toList from rfl, xor_back _ _ (by rw [h1, h2])]
  have : (ByteArray.mk (refBytes (refSum (cliB ks).data.toList)).toArray) = stoB ks := rfl
  rw [this]; simp
def pcS : ByteArray := ⟨#[112, 101, 110, 99, 105, 108]⟩
def saS : ByteArray := ⟨#[115, 97, 108, 116]⟩
theorem pencil_ne : stoB (saltB pcS saS 0) ≠ serB (saltB pcS saS 0) := fun h => absurd (congrArg (fun b => b.data.toList.take 1) h) (by decide +kernel)
theorem bytes_neq {a b : ByteArray} (h : a ≠ b) : (a.toList == b.toList) = false := by
  rw [beq_eq_false_iff_ne]
  intro q
  apply h
  apply ByteArray.ext
  rw [ByteArray.toList_eq, ByteArray.toList_eq] at q
  exact Array.ext' q
set_option maxHeartbeats 4000000 in
theorem awake27_c (w : World) : Calls Try.prog 7 #[] w fun e w' => e = .returned (.bool true) ∧ Below w.heap.size w w' := by
  have hP := fun w => sPlain_c pcS saS (by decide) (by decide) 0 (by decide) w
  have hR := fun w => sProof_c pcS saS ⟨#[116, 101, 120, 116]⟩ (by decide) (by decide) (by decide) 0 (by decide) w
  have hC := fun w => sCheck_c (stoB (saltB pcS saS 0)) ⟨(xorB (cliB (saltB pcS saS 0)).data.toList (macText (stoB (saltB pcS saS 0)) ⟨#[116, 101, 120, 116]⟩).data.toList).toArray⟩ ⟨#[116, 101, 120, 116]⟩ (by rw [stoB_size]; decide) (by show (xorB _ _).toArray.size ≤ _; rw [List.size_toArray, xorB_length, Array.length_toList]; exact Nat.le_trans (Nat.min_le_left _ _) (by show (cliB _).size ≤ _; rw [cliB_size]; decide)) (by decide) w
  rw [check_own] at hC
  have hX := fun w => sXor_c ⟨#[97]⟩ ⟨#[98]⟩ (by decide) (by decide) w
  rw [show (⟨(xorB (ByteArray.mk #[97]).data.toList (ByteArray.mk #[98]).data.toList).toArray⟩ : ByteArray) = ⟨#[3]⟩ from rfl] at hX
  have hz : (⟨(xorB (cliB (saltB pcS saS 0)).data.toList (macText (stoB (saltB pcS saS 0)) ⟨#[116, 101, 120, 116]⟩).data.toList).toArray⟩ : ByteArray).size = 32 := by
    show (xorB _ _).toArray.size = _
    rw [List.size_toArray, xorB_length, Array.length_toList, Array.length_toList]
    show min (cliB _).size (macText _ _).size = 32
    rw [cliB_size, macText_size]; rfl
  generalize (⟨(xorB (cliB (saltB pcS saS 0)).data.toList (macText (stoB (saltB pcS saS 0)) ⟨#[116, 101, 120, 116]⟩).data.toList).toArray⟩ : ByteArray) = pr at hR hC hz
  have hne := bytes_neq pencil_ne
  have z1 := stoB_size (saltB pcS saS 0)
  have z2 := serB_size (saltB pcS saS 0)
  generalize stoB (saltB pcS saS 0) = x1 at hP hC hne z1
  generalize serB (saltB pcS saS 0) = x2 at hP hne z2
  unfold pcS saS at hP hR
  rw [show ((0 : Nat) : Int) + 1 = 1 from rfl] at hP hR
  replace hP := Lib.hid hP
  replace hR := Lib.hid hR
  replace hC := Lib.hid hC
  replace hX := Lib.hid hX
  have hne2 : (x1.toList != x2.toList) = true := by simp only [bne, hne, Bool.not_false]
  go_enter Try.func7, Try.ntmps7
  go_wp2_with (first | (go_at_call 9; refine (hP.out _).mono ?_; rintro e w1 ⟨rfl, hb1⟩) | (go_at_call 20; refine (hR.out _).mono ?_; rintro e w2 ⟨rfl, hb2⟩) | (go_at_call 11; refine (hC.out _).mono ?_; rintro e w3 ⟨rfl, hb3⟩) | (go_at_call 13; refine (hX.out _).mono ?_; rintro e w4 ⟨rfl, hb4⟩))
  exact bodyPost_ret (v := .bool true) (by simp [results, Try.results7, go_sem]) rfl ⟨rfl, bl_call hb4 (bl_call hb3 (bl_call hb2 hb1))⟩
theorem strs_new (l : List ByteArray) (w : World) (t : TypeId) : ∀ k (h : k < l.length), (w.alloc (.cells (l.map Value.string).toArray t)).cell? ⟨w.heap.size, k, none⟩ = some (.string l[k]) := fun k h => by
  rw [blk_cell (blk_new w _) k]; simp [h]
/-- 'short', where its list is made: whether it is so. -/
theorem short_new (most : Nat) (hm : most ≤ 1000) (l : List ByteArray) (hl : l.length ≤ 10) (hz : ∀ x ∈ l, x.size ≤ 140737488355328) (b : Bool) (hb : decide (sumT l l.length ≤ most) = b) (cs : Array Value) (hcs : cs = (l.map Value.string).toArray) (n : Nat) (hn : n = l.length) (t : TypeId) (w : World) : Calls Try.prog 8 #[.int .i64 (most : Int), .slice (some ⟨w.heap.size, 0, none⟩) n n] (w.alloc (.cells cs t)) fun e w' => e = .returned (.bool b) ∧ Below w.heap.size w w' := by
  subst hb hcs hn
  exact (short_c most hm l hl (fun k h => hz _ (List.getElem_mem h)) w.heap.size l.length _ (strs_new l w t)).mono fun e w' ⟨h1, h2⟩ => ⟨h1, bl_call h2 (bl_alloc (Below.refl _ _) _)⟩
end Go.Proofs.Ytpcpdgkkjkkklaa
namespace Go.Proofs.Ytpcpdgkkjkkklaa
open Go.RowKit Go.ChangeShapes Go.WideShapes
theorem okWide_arr {P : Program} {W : World} {k e : TypeId} {n : Nat} {r : Reach} {b0 : Nat} {v : Value} (hu : P.underlying k = some (.array n e)) (h : Value.okWide P W r b0 k v) : ∃ xs : Array Value, v = .agg xs := by
  simp only [Value.okWide, hu] at h
  obtain ⟨cs, h1, _⟩ := h
  exact ⟨cs, h1⟩
/-- A number in its range as a word. -/
def litw8 : Value → W32
  | .int _ a => kw a.toNat
  | _ => 0#32
theorem open_words8 {H : Type} {enc : TypeId × Value → H} {P : Program} {k e : TypeId} {n : Nat} {W : World} {base : Nat} {sp : Nat → Bool} {held : Bool} {xs : Array Value} {d : DataW H} {ps : List MemPlace} (hu : P.underlying k = some (.array n e)) (he : P.underlying e = some (.int .u32))
    (hc : P.cellsOf e = 1) (hk : P.cellsOf k = n) (hd : DataW.Trod enc P W base sp held k (.agg xs) d ps) : ∃ ws : List W32, ws.length = n ∧ xs = cw ws := by
  obtain ⟨fuel, hf⟩ := hd
  obtain ⟨ys, m, _, _, hl, hn, hi⟩ := DataW.trod_array hu hf
  rw [hc] at hi
  simp only [Value.cells] at hl hi
  rw [hk] at hl
  have hl' : xs.size = n := by simpa using hl
  refine ⟨xs.toList.map litw8, by simp [hl'], ?_⟩
  apply Array.ext_getElem?
  intro i
  by_cases h : i < n
  · have hx := hi i h
    have hys : ∃ y, ys[i]? = some y := ⟨_, List.getElem?_eq_getElem (by omega)⟩
    obtain ⟨y, hy⟩ := hys
    rw [hy] at hx
    obtain ⟨a, ha, _, hw⟩ := DataW.trod_int he hx
    have hxi : xs[i]? = some (.int .u32 a) := by
      have e1 : (xs.toList.drop (i * 1)).take 1 = [xs[i]'(by omega)] := by
        rw [Nat.mul_one, List.take_one, List.head?_drop]
        simp [hl', h]
      rw [e1] at ha
      rw [Array.getElem?_eq_getElem (by omega)]
      simpa using ha
    have hb : 0 ≤ a ∧ a < 4294967296 := by
      simp [Lit.wf, IntKind.min, IntKind.max, IntKind.signed, IntKind.bits] at hw
      omega
    rw [hxi]
    simp only [cw, List.getElem?_toArray, List.getElem?_map, List.map_map, Function.comp_def, Array.getElem?_toList, hxi, Option.map_some, litw8]
    rw [← of_iw a hb.1 hb.2]
  · rw [Array.getElem?_eq_none (by omega), Array.getElem?_eq_none (by simp [cw]; omega)]
end Go.Proofs.Ytpcpdgkkjkkklaa
namespace Go.Proofs.Ytpcpdgkkjkkklaa
open Go.RowKit Go.ChangeShapes Go.WideShapes
set_option maxRecDepth 100000
set_option linter.unusedVariables false
theorem open_strs2 {H : Type} {enc : TypeId × Value → H} {P : Program} {k e : TypeId} {W : World} {base : Nat} {sp : Nat → Bool} {held : Bool} {xs : Array Value} {d : DataW H} {ps : List MemPlace} (hu : P.underlying k = some (.array 2 e)) (he : P.underlying e = some .string)
    (hc : P.cellsOf e = 1) (hk : P.cellsOf k = 2) (hd : DataW.Trod enc P W base sp held k (.agg xs) d ps) : ∃ p s : ByteArray, xs = #[.string p, .string s] ∧ d = .agg [.lit (.string p.data.toList), .lit (.string s.data.toList)] := by
  obtain ⟨fuel, hf⟩ := hd
  obtain ⟨ys, m, _, hx, hl, hn, hi⟩ := DataW.trod_array hu hf
  rw [hc] at hi
  simp only [Value.cells] at hl hi
  rw [hk] at hl
  obtain ⟨xl⟩ := xs
  match xl, hl, ys, hn, hi, hx with
  | [x0, x1], _, [y0, y1], _, hi, hx =>
    have h0 := hi 0 (by omega)
    have h1 := hi 1 (by omega)
    simp at h0 h1
    obtain ⟨p, e0, rfl, _⟩ := DataW.trod_string he h0
    obtain ⟨s, e1, rfl, _⟩ := DataW.trod_string he h1
    simp at e0 e1
    subst e0 e1
    simp at hx
    exact ⟨p, s, rfl, hx.1⟩
theorem sized_strs2 {H : Type} {P : Program} {ts : List TypeId} {ds : List (DataW H)} (h : (DataW.weightsEach P ts ds).all (· ≤ reachBytes) = true) {j : Nat} {t e : TypeId} {p s : ByteArray} (ht : ts[j]? = some t) (hu : P.underlying t = some (.array 2 e)) (hd : ds[j]? = some (.agg [.lit (.string p.data.toList), .lit (.string s.data.toList)])) : p.size ≤ 140737488355328 ∧ s.size ≤ 140737488355328 := by
  have r := reachBytes_lt
  have h1 := List.all_eq_true.1 h _ (DataW.weights_mem_each ht hd p.data.toList.length (by simp [DataW.weights, hu, DataW.weightsAll]))
  have h2 := List.all_eq_true.1 h _ (DataW.weights_mem_each ht hd s.data.toList.length (by simp [DataW.weights, hu, DataW.weightsAll]))
  simp only [Array.length_toList, decide_eq_true_eq] at h1 h2
  exact ⟨show p.data.size ≤ _ by omega, show s.data.size ≤ _ by omega⟩
end Go.Proofs.Ytpcpdgkkjkkklaa

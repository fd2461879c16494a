/- Draws from a seed: Bytes of nonce.Source. -/
import Derived.Test.YtahbnjnpkhehdaaNq
import Derived.Lib.AppendStr
namespace Go.Proofs.Ytahbnjnpkhehdaa
open Go.RowKit Go.Lib
set_option maxRecDepth 100000
set_option linter.unusedSimpArgs false
set_option linter.unusedVariables false
attribute [local go_sem] evR_tmp evR_const evR_global evR_func
theorem Apart.grown {F : Nat → Prop} {w W W1 : World} {r : Option Nat} (h : Apart F w W) (hg : W.grownBy W1 r) (hr : ∀ g, r = some g → w.heap.size ≤ g) : Apart F w W1 :=
  ⟨hg.os.trans h.os, hg.tape.trans h.tape, hg.output.trans h.output, Nat.le_trans h.size hg.size, fun b q hn => (hg.block b (Nat.lt_of_lt_of_le q h.size) fun z => by have := hr b z.symm; omega).trans (h.block b q hn)⟩
theorem Apart.trans {F : Nat → Prop} {w W W1 : World} (h : Apart F w W) (h1 : Apart F W W1) : Apart F w W1 :=
  ⟨h1.os.trans h.os, h1.tape.trans h.tape, h1.output.trans h.output, Nat.le_trans h.size h1.size, fun b q hn => (h1.block b (Nat.lt_of_lt_of_le q h.size) hn).trans (h.block b q hn)⟩
def clampN (n : Int) : Nat := (min (max n 0) 1024).toNat
theorem clampN_le (n : Int) : clampN n ≤ 1024 := by unfold clampN; omega
def drawB (seed : List UInt8) (c m : Nat) : List UInt8 := (drawN seed c (drawsOf m)).take m
theorem drawB_length (seed : List UInt8) (c m : Nat) : (drawB seed c m).length = m := by
  unfold drawB; rw [List.length_take, drawN_length]; unfold drawsOf; omega
theorem strCells_bv (s : List UInt8) : strCells ⟨s.toArray⟩ = s.map bv := by
  unfold strCells; simp [bv]
theorem wpList_convBS {ops : Array Oper} {rest : List Oper} {o : Oper} {a : Act} {w : World} {Q : Exit → Act → World → Prop} {x : Operand} {sv : Value} {bs : List UInt8} (hg : o.guard = none) (ho : o.op = .convert 32 9 x) (hx : a.eval x = sv) (hr : RowB w sv bs)
    (h : wpList Try.prog ops Q rest (a.put o.dst (.string ⟨bs.toArray⟩)) w) : wpList Try.prog ops Q (o :: rest) a w := by
  refine wpList_plain hg fun K hK => ?_
  obtain ⟨ao, cap, hsv, hno, hcc⟩ := hr
  have h1 : (convert 32 9 sv).run Try.prog w = .ok (.string ⟨bs.toArray⟩) w := by
    rw [hsv]
    cases ao with
    | none =>
      obtain ⟨rfl, rfl⟩ := hno rfl
      exact run_convert_bytes_nil w _ 5 Try.underlying32 Try.underlying5 0 0 _ Try.underlying9
    | some a =>
      refine run_convert_bytes_back w _ _ 5 a cap bs Try.underlying32 Try.underlying5 Try.underlying9 fun j hj => ?_
      obtain ⟨g, off, e, hc⟩ := hcc j hj
      cases e
      rw [Addr.add_lit]
      exact hc
  have e1 : (execOp a.eval o).run Try.prog w = .ok (.value (.string ⟨bs.toArray⟩)) w := by
    unfold execOp
    simp only [ho, hx]
    rw [Sem.run_bind, h1]
    rfl
  unfold Oper.wp
  rw [e1, Oper.upon_value]
  exact hK _ _ h
theorem RowB.hi {w : World} {ao : Option Addr} {cap : Nat} {bs : List UInt8} (h : RowB w (.slice ao bs.length cap) bs) (m : Nat) (hm : m ≤ bs.length) : RowB w (.slice ao m cap) (bs.take m) := by
  obtain ⟨ao', cap', h1, h2, h3⟩ := h
  cases h1
  refine ⟨ao, cap, by rw [List.length_take, Nat.min_eq_left hm], fun z => ?_, fun k hk => ?_⟩
  · obtain ⟨hb, hc⟩ := h2 z
    exact ⟨by rw [hb]; simp, hc⟩
  · have hk' : k < bs.length := by rw [List.length_take] at hk; omega
    obtain ⟨g, off, rfl, hc⟩ := h3 k hk'
    exact ⟨g, off, rfl, by rw [List.getElem_take]; exact hc⟩
/-- Bytes as words. -/
theorem RowB.owns {w : World} {base n : Nat} {sv : Value} {bs : List UInt8} (hn : n = bs.length) (h : w.ownsRow base 5 1 sv n (bs.map bv)) : RowB w sv bs := by
  subst hn
  rcases h.2 with ⟨rfl, q⟩ | ⟨g, cap, cur, rfl, _, hk, _, _, _, ht⟩
  · obtain rfl := List.eq_nil_of_length_eq_zero q
    exact RowB.nil w
  · rw [Nat.mul_one] at ht
    exact RowB.block hk ht
theorem wpList_app_str {ops : Array Oper} {rest : List Oper} {o : Oper} {a : Act} {w : World} {Q : Exit → Act → World → Prop} (hgd : o.guard = none) (s x : Operand)
    (ho : o.op = .call { callee := .builtin .append, args := #[s, x], argTypes := #[32, 9] }) (base : Nat) (sv0 : Value) (n : Nat) (vs : List Value) (bs : List UInt8)
    (hs : a.eval s = sv0) (hown : w.ownsRow base 5 1 sv0 n vs) (hx : a.eval x = .string ⟨bs.toArray⟩) (hn : n + bs.length ≤ 1000000) (hbase : base ≤ w.heap.size)
    (h : ∀ sv' w', w'.ownsRow base 5 1 sv' (n + bs.length) (vs ++ bs.map bv) → w.grownBy w' sv0.ownBlock → wpList Try.prog ops Q rest (a.put o.dst sv') w') : wpList Try.prog ops Q (o :: rest) a w := by
  obtain ⟨i, hi, hz0, hz1, hz2⟩ := info_parts (P := Try.prog) (e := 5) (z := .int .u8 0) (size := 1) (bytes := 1) (by kernel_rfl)
  have hsz : (ByteArray.mk bs.toArray).size = bs.length := by simp [ByteArray.size]
  refine wpList_append_own_string w hgd s x _ _ ho base 5 i Try.underlying32 Try.underlying9 hi hz0 hz1 hz2 sv0 n vs hs hown _ hx (by rw [hsz]; simp only [maxLen]; omega) (by rw [hsz]; omega) hbase ?_
  intro v' w' h1 h2 _
  rw [hsz, strCells_bv] at h1
  exact h v' w' h1 h2
set_option maxHeartbeats 4000000 in
theorem nBytes_c (g : Nat) (seed : ByteArray) (hs : seed.size ≤ 400000) (c : Nat) (hc : c < 900000000) (n : Int) (w : World) (hk : w.heap[g]? = some (.cells (srcC seed c) 46 (0, 0))) : Calls Try.prog 8 #[.pointer (some ⟨g, 0, none⟩), .int .i64 n] w fun e w' => e = .returned (.string ⟨(drawB seed.data.toList c (clampN n)).toArray⟩) ∧ w'.heap[g]? = some (.cells (srcC seed (c + drawsOf (clampN n))) 46 (0, 0)) ∧ Turned g w w' := by
  have hg := blk_lt hk
  have hN := fun (k : Nat) (hk : k < 40) (w1 : World) h => nNext_c g seed hs (c + k) (by omega) w1 h
  obtain ⟨m, hm⟩ : ∃ m, m = clampN n := ⟨_, rfl⟩
  have hm1 := clampN_le n
  rw [← hm] at hm1 ⊢
  have hmi : (m : Int) = min (max n 0) 1024 := by rw [hm]; unfold clampN; omega
  clear hm
  have hmv : (if (1024 : Int) < (if n < 0 then 0 else n) then 1024 else (if n < 0 then 0 else n)) = (m : Int) := by
    rw [hmi]; split <;> split at * <;> omega
  clear hmi
  go_enter Try.func8, Try.ntmps8
  go_upto_region 2 with (fail)
  try rw [hmv]
  generalize (if n < 0 then 0 else n) = n1
  clear hmv
  have hm32 : IntKind.i64.wrap ((m : Int) + 32) = ((m + 32 : Nat) : Int) := by rw [IntWalk.i64_in _ (by omega)]; omega
  go_upto_region 5 with (refine wpList_make0 rfl _ _ 32 rfl w.heap.size 5 (.int .u8 0) 1 Try.underlying32 (by kernel_rfl) (by omega) _ (m + 32) rfl rfl (by omega) (by omega) (by omega) ?_; intro W HO hgr)
  have hT0 : Turned g w W := (Apart.refl _ w).grown hgr (fun g h => by cases h)
  have kg0 : W.heap[g]? = some (.cells (srcC seed (c + 0)) 46 (0, 0)) := grown_blk hgr hk (by simp)
  clear hgr
  have hD : m ≤ 32 * drawsOf m ∧ 32 * drawsOf m < m + 32 := by unfold drawsOf; omega
  obtain ⟨d, hdd⟩ : ∃ d, d = drawsOf m := ⟨_, rfl⟩
  rw [← hdd] at hD
  replace hdd := Lib.hid hdd
  clear hm32
  replace hN := Lib.hid hN
  go_loopw [5] (fun sv wr => ∃ k g3 cap, k ≤ d ∧ sv = .slice (some ⟨g3, 0, none⟩) (32 * k) cap ∧ Turned g w wr ∧ wr.heap[g]? = some (.cells (srcC seed (c + k)) 46 (0, 0)) ∧ wr.ownsRow w.heap.size 5 1 sv (32 * k) ((drawN seed.data.toList c k).map bv)) (fun sv _ => m - slen sv)
  case atStart => exact ⟨0, w.heap.size, m + 32, by omega, rfl, hT0, kg0, HO⟩
  case round =>
    clear hT0 kg0 HO
    obtain ⟨k, g3, cap, hkd, rfl, hT, kg, HO⟩ := hrel
    by_cases hlt : 32 * k < m
    · have hlt' : ((32 * k : Nat) : Int) < (m : Int) := by omega
      have hlt2 : (32 : Int) * (k : Int) < (m : Int) := by omega
      have hc' := fun w1 h => hN.out k (by omega) w1 h
      have hne : ∀ b, (Value.slice (some ⟨g3, 0, none⟩) (32 * k) cap).ownBlock = some b → w.heap.size ≤ b := fun b hb => (ownsRow_lt HO hb).1
      have hds : (ByteArray.mk (digN seed.data.toList (c + k)).toArray).size = 32 := by rw [show (ByteArray.mk (digN seed.data.toList (c + k)).toArray).size = (digN seed.data.toList (c + k)).length from by simp [ByteArray.size], digN_length]
      have hsz := hT.size
      go_upto_region 6 with (fail)
      have hdl : (digN seed.data.toList (c + k)).length = 32 := digN_length _ _
      have hsn := drawN_snoc seed.data.toList c k
      generalize digN seed.data.toList (c + k) = dg at hc' hdl hsn
      replace hsn := Lib.hid hsn
      replace hdl := Lib.hid hdl
      go_wp2_with (first | (go_at_call 18; refine (hc' _ kg).mono ?_; rintro e w2 ⟨rfl, kg2, hT2⟩; have HO2 := ownsRow_block HO (fun b hb => hT2.block b (ownsRow_lt HO hb).2 (by have := hne b hb; omega)); have hs2 := hT2.size) | (refine wpList_app_str rfl _ _ rfl w.heap.size _ (32 * k) _ dg rfl HO2 rfl ?_ ?_ ?_; rotate_right 1; intro sv3 w3 HO3 hg3))
      case refine_1 => rw [hdl.out]; omega
      case refine_2 => omega
      have hkd : k < d := by omega
      have hT3 : Turned g w w3 := (hT.trans hT2).grown hg3 hne
      have kg3 := grown_blk hg3 kg2 (fun q => by have := hne _ q; omega)
      rw [hdl.out, ← List.map_append, ← hsn.out, show 32 * k + 32 = 32 * (k + 1) by omega] at HO3
      obtain ⟨g4, cap4, rfl, _, _⟩ := World.ownsRow.form HO3 (by omega)
      exact ⟨⟨k + 1, g4, cap4, by omega, rfl, hT3, kg3, HO3⟩, by simp only [slen]; omega⟩
    · obtain rfl : k = d := by omega
      have hlt' : ¬ ((32 * k : Nat) : Int) < (m : Int) := by omega
      have hlt2 : ¬ (32 : Int) * (k : Int) < (m : Int) := by omega
      have hR : RowB wr (.slice (some ⟨g3, 0, none⟩) m cap) ((drawN seed.data.toList c k).take m) := by
        have h1 := RowB.owns (by rw [drawN_length]) HO
        have hl := drawN_length seed.data.toList c k
        rw [← hl] at h1
        exact RowB.hi h1 m (by omega)
      have hcap : 32 * k ≤ cap := by
        rcases HO.2 with ⟨q, _⟩ | ⟨g', cap', cur, hv, _, _, h5, _⟩
        · cases q
        · cases hv; omega
      have hmc : m ≤ cap := by omega
      have hmc' : (m : Int) ≤ (cap : Int) := by omega
      go_wp2_with (refine wpList_convBS rfl rfl rfl hR ?_)
      exact bodyPost_ret (v := .string ⟨((drawN seed.data.toList c k).take m).toArray⟩) (by simp [results, Try.results8, go_sem]) rfl ⟨by rw [show drawB seed.data.toList c m = (drawN seed.data.toList c k).take m by unfold drawB; rw [← hdd.out]], by rw [← hdd.out]; exact kg, hT⟩
end Go.Proofs.Ytahbnjnpkhehdaa

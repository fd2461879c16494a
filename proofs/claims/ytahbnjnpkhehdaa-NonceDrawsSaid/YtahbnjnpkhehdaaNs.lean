/- Draws from a seed: Bytes of the reference. -/
import Derived.Test.YtahbnjnpkhehdaaNr
namespace Go.Proofs.Ytahbnjnpkhehdaa
open Go.RowKit Go.Lib
set_option maxRecDepth 100000
set_option linter.unusedSimpArgs false
set_option linter.unusedVariables false
attribute [local go_sem] evR_tmp evR_const evR_global evR_func
/-- What the reference's Bytes leaves. -/
def RefDrawn (g : Nat) (seed : ByteArray) (c m : Nat) (w : World) (e : Ending) (w' : World) : Prop := ∃ sv, e = .returned sv ∧ RowB w' sv (drawB seed.data.toList c m) ∧ w'.heap[g]? = some (.cells (srcR seed (c + drawsOf m)) 28 (0, 0)) ∧ Turned g w w'
set_option maxHeartbeats 4000000 in
theorem rBytes34_c (g : Nat) (seed : ByteArray) (hs : seed.size ≤ 400000) (c : Nat) (hc : c < 900000000) (n : Int) (w : World) (hk : w.heap[g]? = some (.cells (srcR seed c) 28 (0, 0))) : Calls Try.prog 9 #[.pointer (some ⟨g, 0, none⟩), .int .i64 n] w (RefDrawn g seed c (clampN n) w) := by
  have hg := blk_lt hk
  have hN := fun (k : Nat) (hk : k < 40) (w1 : World) h => rNext_c g seed hs (c + k) (by omega) w1 h
  obtain ⟨m, hm⟩ : ∃ m, m = clampN n := ⟨_, rfl⟩
  have hm1 := clampN_le n
  rw [← hm] at hm1 ⊢
  have hmi : (m : Int) = min (max n 0) 1024 := by rw [hm]; unfold clampN; omega
  clear hm
  have hD : m ≤ 32 * drawsOf m ∧ 32 * drawsOf m < m + 32 := by unfold drawsOf; omega
  obtain ⟨d, hdd⟩ : ∃ d, d = drawsOf m := ⟨_, rfl⟩
  rw [← hdd] at hD
  replace hdd := Lib.hid hdd
  replace hN := Lib.hid hN
  obtain ⟨V, hV⟩ : ∃ V : Int, V = min n 1024 := ⟨_, rfl⟩
  have hVm : (m : Int) = max V 0 := by omega
  have hV2 : V ≤ 1024 := by omega
  by_cases hbig : 1024 < n
  focus
    have hb' : decide ((1024 : Int) < n) = true := by simp [hbig]
    go_enter Try.func9, Try.ntmps9
    go_upto_region 3 with (fail)
    rw [show (1024 : Int) = V by omega]
    clear hb'
  rotate_left
  focus
    have hb' : decide ((1024 : Int) < n) = false := by simp [hbig]
    go_enter Try.func9, Try.ntmps9
    go_upto_region 3 with (fail)
    rw [show n = V by omega]
    clear hb'
  rotate_left
  all_goals
    replace hV := Lib.hid hV
    clear hmi hbig
    go_wp2_with fail
    have kg0 : w.heap[g]? = some (.cells (srcR seed (c + 0)) 28 (0, 0)) := hk
    have HO0 : w.ownsRow w.heap.size 5 1 (.slice none 0 0) (32 * 0) ((drawN seed.data.toList c 0).map bv) := World.ownsRow_nil _ _ _ _
    go_loopw [5] (fun sv wr => ∃ k, k ≤ d ∧ slen sv = 32 * k ∧ (∃ a cap, sv = .slice a (32 * k) cap) ∧ Turned g w wr ∧ wr.heap[g]? = some (.cells (srcR seed (c + k)) 28 (0, 0)) ∧ wr.ownsRow w.heap.size 5 1 sv (32 * k) ((drawN seed.data.toList c k).map bv)) (fun sv _ => m - slen sv)
    case atStart => exact ⟨0, by omega, rfl, ⟨none, 0, rfl⟩, Apart.refl _ w, kg0, HO0⟩
    case round =>
      clear kg0 HO0
      obtain ⟨k, hkd, hsl, ⟨ad, cap, rfl⟩, hT, kg, HO⟩ := hrel
      by_cases hlt : 32 * k < m
      · have hlt' : ((32 * k : Nat) : Int) < V := by omega
        have hlt2 : (32 : Int) * (k : Int) < V := by omega
        have hc' := fun w1 h => hN.out k (by omega) w1 h
        have hne : ∀ b, (Value.slice ad (32 * k) cap).ownBlock = some b → w.heap.size ≤ b := fun b hb => (ownsRow_lt HO hb).1
        have hsz := hT.size
        have hdl : (digN seed.data.toList (c + k)).length = 32 := digN_length _ _
        have hsn := drawN_snoc seed.data.toList c k
        generalize digN seed.data.toList (c + k) = dg at hc' hdl hsn
        replace hsn := Lib.hid hsn
        replace hdl := Lib.hid hdl
        go_wp2_with (first | (go_at_call 19; refine (hc' _ kg).mono ?_; rintro e w2 ⟨g5, cap5, rfl, hR2, kg2, hT2⟩; have HO2 := ownsRow_block HO (fun b hb => hT2.block b (ownsRow_lt HO hb).2 (by have := hne b hb; omega)); have hs2 := hT2.size) | (refine wpList_app_rowB rfl _ _ rfl w.heap.size _ _ (32 * k) _ dg rfl HO2 rfl hR2 ?_ ?_ ?_; rotate_right 1; intro sv3 w3 HO3 hg3 _))
        case refine_1 => rw [hdl.out]; omega
        case refine_2 => omega
        have hT3 : Turned g w w3 := (hT.trans hT2).grown hg3 hne
        have kg3 := grown_blk hg3 kg2 (fun q => by have := hne _ q; omega)
        rw [hdl.out, ← List.map_append, ← hsn.out, show 32 * k + 32 = 32 * (k + 1) by omega] at HO3
        obtain ⟨g4, cap4, rfl, _, _⟩ := World.ownsRow.form HO3 (by omega)
        exact ⟨⟨k + 1, by omega, rfl, ⟨_, _, rfl⟩, hT3, kg3, HO3⟩, by simp only [slen]; omega⟩
      · obtain rfl : k = d := by omega
        have hlt' : ¬ ((32 * k : Nat) : Int) < V := by omega
        have hlt2 : ¬ (32 : Int) * (k : Int) < V := by omega
        have hR : RowB wr (.slice ad m cap) ((drawN seed.data.toList c k).take m) := by
          have h1 := RowB.owns (by rw [drawN_length]) HO
          have hl := drawN_length seed.data.toList c k
          rw [← hl] at h1
          exact RowB.hi h1 m (by omega)
        have hcap : 32 * k ≤ cap := by
          rcases HO.2 with ⟨q, q2⟩ | ⟨g', cap', cur, hv, _, _, h5, _⟩
          · omega
          · cases hv; omega
        have hd2 := hdd.out
        have hfin : RefDrawn g seed c m w (.returned (.slice ad m cap)) wr := ⟨_, rfl, by rw [show drawB seed.data.toList c m = (drawN seed.data.toList c k).take m by unfold drawB; rw [← hd2]]; exact hR, by rw [← hd2]; exact kg, hT⟩
        by_cases hVn : V < 0
        · have h0 : (0 : Int) ≤ (cap : Int) := by omega
          have hm0 : m = 0 := by omega
          have hfin0 : RefDrawn g seed c m w (.returned (.slice ad 0 cap)) wr := by have := hfin; rw [show (Value.slice ad m cap) = Value.slice ad 0 cap by rw [hm0]] at this; exact this
          clear hVm hV2 hm0 hfin
          replace hfin0 := Lib.hid hfin0
          go_wp2_with fail
          exact bodyPost_ret (v := .slice ad 0 cap) (by simp [results, Try.results9, go_sem]) rfl hfin0.out
        · obtain rfl : V = (m : Int) := by omega
          have h0 : (m : Int) ≤ (cap : Int) := by omega
          have h1 : ¬ (cap : Int) < (m : Int) := by omega
          have h2 : m ≤ cap := by omega
          clear hVm hV2
          replace hfin := Lib.hid hfin
          go_wp2_with fail
          exact bodyPost_ret (v := .slice ad m cap) (by simp [results, Try.results9, go_sem]) rfl hfin.out
end Go.Proofs.Ytahbnjnpkhehdaa

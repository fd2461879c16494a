/- Contract of sha.Sum; the law's awake. -/
import Derived.Test.YtpcpdgkkjkkklaaBy
import Derived.Test.YtpcpdgkkjkkklaaLg
import Derived.Laws.BytesArg
namespace Go.Proofs.Ytpcpdgkkjkkklaa
open Go.RowKit
set_option maxRecDepth 100000
set_option linter.unusedSimpArgs false
set_option linter.unusedVariables false
attribute [local go_sem] evR_tmp evR_const evR_global evR_func
/-- A text's bytes as words. -/
def textw (s : ByteArray) : List W32 := s.data.toList.map fun b => kw b.toNat
theorem textw_length (s : ByteArray) : (textw s).length = s.size := by
  rw [textw, List.length_map, Array.length_toList]; rfl
theorem text_at (s : ByteArray) (n : Nat) (h : n < s.size) : IntKind.u32.wrap ((s[n].toNat : Nat) : Int) = iw (at32 (textw s) n) := by
  have e : at32 (textw s) n = kw s[n].toNat := by
    have q : (textw s)[n]? = some (kw s[n].toNat) := by
      have h' : n < s.data.size := h
      simp only [textw, List.getElem?_map, Array.getElem?_toList, Array.getElem?_eq_getElem h', Option.map_some]
      rfl
    unfold at32
    rw [List.getD_eq_getElem?_getD, q]; rfl
  have hb := s[n].toNat_lt
  rw [e, ← kw_iw _ (by omega), IntKind.wrap_u32']
  omega
def byteOf (x : W32) : UInt8 := UInt8.ofNat x.toNat
/-- Words as bytes. -/
def bytesOf (xs : List W32) : ByteArray := ⟨(xs.map byteOf).toArray⟩
def byteN (x : W32) : Int := ((byteOf x).toNat : Int)
theorem byteN_eq (x : W32) : byteN x = iw x % 256 := by
  unfold byteN byteOf iw
  rw [UInt8.toNat_ofNat']; omega
theorem wrap_byte (x : W32) : IntKind.u8.wrap (iw x) = byteN x := by rw [byteN_eq, IntKind.wrap_u8']
def byv (x : W32) : Value := .int .u8 (byteN x)
def sumText (s : ByteArray) : ByteArray := bytesOf (bytesw (joinw (textw s)))
theorem madeCells_one (c : Value) (n : Nat) : madeCells #[c] n = Array.replicate n c := by
  apply Array.ext'
  rw [toList_madeCells_one]; simp
theorem bytesw_length (hs : List W32) (h : hs.length = 8) : (bytesw hs).length = 32 := by
  unfold bytesw; rw [flat4, h]
theorem Bytes2_c (hs : List W32) (hh : hs.length = 8) (w : World) : Calls Try.prog 33 #[.agg (cw hs)] w fun e w' => ∃ g cap, e = .returned (.slice (some ⟨g, 0, none⟩) 32 cap) ∧ w.heap.size ≤ g ∧ Row w' g 0 (bytesw hs) ∧ Below w.heap.size w w' := by
  refine (Bytes_c hs hh w).mono ?_
  rintro e w' ⟨sv, rfl, HO, HB⟩
  have HL := bytesw_length hs hh
  obtain ⟨g, cap, rfl, hg, _⟩ := World.ownsRow.form HO (by omega)
  rcases HO.sliceOf with ⟨q, _⟩ | ⟨gb, off, cp, hv, _, hr⟩
  · rw [q] at HL; cases HL
  · simp only [Value.slice.injEq, Option.some.injEq, Addr.mk.injEq] at hv
    obtain ⟨⟨rfl, rfl, _⟩, _, rfl⟩ := hv
    exact ⟨g, cap, by rw [HL], hg, hr, HB⟩
section
variable {P : Program}
theorem wpList_makeN {ops : Array Oper} {rest : List Oper} {o : Oper} {a : Act} {w : World} {Q : Exit → Act → World → Prop} (hg : o.guard = none) (l c : Operand) (t : TypeId) (hop : o.op = Op.makeSlice t l c)
    (e : TypeId) (z cell : Value) (bytes : Nat) (ht : P.underlying t = some (.slice e)) (hinfo : (P.info? e).map (fun i => (i.zero, i.size, i.bytes)) = some (some z, 1, bytes)) (hz : z.cells = #[cell]) (hbb : bytes ≤ 1000)
    (L : Int) (n : Nat) (hl : a.eval l = .int .i64 L) (hc : a.eval c = .int .i64 L) (hL : L = (n : Int)) (hn : n ≤ 1000000)
    (hK : wpList P ops Q rest (a.put o.dst (.slice (some ⟨w.heap.size, 0, none⟩) n n)) (w.alloc (.cells (Array.replicate n cell) e))) : wpList P ops Q (o :: rest) a w := by
  obtain ⟨i, hi, hz0, hz1, hz2⟩ := info_parts hinfo
  subst hL
  have hb : i.bytes * n ≤ 281474976710656 := by rw [hz2]; have := Nat.mul_le_mul hbb hn; omega
  refine wpList_plain hg fun K hK' => ?_
  have hb2 : (i.bytes : Int) * (n : Int) ≤ 281474976710656 := by
    have : ((i.bytes * n : Nat) : Int) ≤ 281474976710656 := by omega
    rwa [Int.natCast_mul] at this
  have hr := run_make (P := P) w t e i z ht hi hz0 .i64 .i64 (n : Int) (n : Int) (by omega) (Int.le_refl _) hb2 (by omega)
  simp only [Int.toNat_natCast, hz1, Nat.mul_one, hz, madeCells_one] at hr
  unfold Oper.wp
  simp [execOp, hop, hl, hc, hr, Result.andThen]
  exact hK' _ _ hK
end
theorem run_convert_bytesR {P : Program} {R : Nat → Value} {o : Oper} {w : World} {src dst e : TypeId} {x : Operand} {b off len cap : Nat} (ho : o.op = .convert src dst x) (hx : evR R x = .slice (some ⟨b, off, none⟩) len cap)
    (hs : P.underlying src = some (.slice e)) (he : P.underlying e = some (.int .u8)) (hd : P.underlying dst = some .string) (xs : List Int) (hlen : xs.length = len) (hcell : ∀ i, i < len → w.cell? ⟨b, off + i, none⟩ = some (.int .u8 (xs.getD i 0))) :
    (execOp (evR R) o).run P w = .ok (.value (.string (strOfNums xs))) w := by
  unfold execOp
  simp only [ho, hx, Sem.run_bind, run_convert_bytes_arg w src e hs he b off len cap xs hlen hcell dst hd, Result.andThen_ok]
  rfl
theorem strOfNums_bytes (bw : List W32) : strOfNums (bw.map byteN) = bytesOf bw := by
  unfold strOfNums bytesOf
  rw [List.map_map]
  congr 2
  apply List.map_congr_left
  intro x _
  simp [byteN]
set_option maxHeartbeats 4000000 in
theorem Sum_c (s : ByteArray) (hs : s.size ≤ 1000000) (w : World) : Calls Try.prog 27 #[.string s] w fun e w' => e = .returned (.string (sumText s)) ∧ Below w.heap.size w w' := by
  go_enter Try.func27, Try.ntmps27
  go_upto_region 1 with (fail)
  go_wp2_with (first | (refine wpList_makeN rfl _ _ 60 rfl 36 (.agg #[.int .u32 0]) (.int .u32 0) 8 Try.underlying60 (by kernel_rfl) rfl (by omega) _ s.size rfl rfl rfl hs ?_))
  refine gen_world fun W hW => ?_
  have k3 : W.heap[w.heap.size]? = some (.cells (cw (padTo s.size ((textw s).take 0))) 36 (0, 0)) := by subst hW; rw [show (textw s).take 0 = [] from rfl, padTo_nil]; exact blk_new _ _
  have HB : Below w.heap.size w W := by subst hW; (repeat (first | exact Below.refl _ _ | (refine bl_alloc ?_ _) | (refine bl_drewN ?_ _) | (refine bl_drew ?_) | (refine bl_call (by assumption) ?_) | (refine bl_set _ _ (by simp <;> omega) ?_) | assumption))
  clear hW
  have LT := Lib.hid (textw_length s)
  have k30 := k3
  have HB0 := HB
  clear k3 HB
  go_loopw [14] (fun i wr => ∃ n : Nat, n ≤ s.size ∧ i = .int .i64 (n : Int) ∧ Below w.heap.size w wr ∧ wr.heap[w.heap.size]? = some (.cells (cw (padTo s.size ((textw s).take n))) 36 (0, 0))) (fun i _ => s.size - (intOf i).toNat)
  case atStart => exact ⟨0, by omega, rfl, HB0, k30⟩
  case round =>
    clear HB0 k30
    obtain ⟨n, hn, rfl, HB, k3⟩ := hrel
    have pn : (0 : Int) ≤ (n : Int) := by omega
    by_cases hlt : n < s.size
    · have hlt' : (n : Int) < (s.size : Int) := by omega
      have q3 := blk_lt k3
      go_upto_region 5 with (fail)
      refine wp_region_R 8 [0, 3, 4] (by kernel_rfl) (by kernel_rfl) (by kernel_rfl) (by kernel_rfl) ?_
      intro K_ ops_ hops_ hK
      replace hops_ := Lib.hid hops_
      apply Exists.intro
      intro R_ hb_
      simp only [↓baseR, ↓nthR_succ, ↓nthR_zero] at hb_
      simp only [List.take_succ_cons, List.take_zero, List.drop_succ_cons, List.drop_zero]
      repeat (first
        
        
        | (apply LexR_callF (f := 15) (by rfl) (by rfl) (by rfl) Try.func15 (by kernel_rfl) (by kernel_rfl) (fun _ => ?_) (fun w1 hw1 hd1 => ?_) (fun _ hr_ => ?_); rotate_right 3; (go_simp; first | done | rfl); exact (Of_c _ (at32 (textw s) n) (text_at s n hlt) w1))
        | (apply LexR_det (by rfl) (by rfl) (by rfl) (fun w1 hw1 hd1 => ?_) (fun _ hr_ => ?_); rotate_right 2; (go_simp; first | done | rfl ))
        | (apply LexR_box (by rfl) (by rfl) (by rfl) (fun w1 hw1 hd1 => ?_) (fun _ hr_ => ?_); rotate_right 2; (go_simp; first | done | rfl))
        | (apply LexR_bs (t := 60) (e := 36) (z := .agg #[.int .u32 0]) (ho := rfl) (by rfl) (by rfl) Try.underlying60 (by kernel_rfl) (by decide) (by decide) (fun _ => ?_) (fun _ => ?_) (fun _ => ?_) (fun _ hr_ => ?_); rotate_right 4; (go_simp; rfl); (exact ⟨rfl, rfl, rfl⟩); (simp only [List.map_cons, List.map_nil, List.flatMap_cons, List.flatMap_nil, Value.cells, List.cons_append, List.nil_append, List.append_nil]; rfl)))
      apply LexR_end
      refine hK _ _ ?_
      clear hK K_
      repeat clear hr_
      clear hb_ R_ hops_ ops_
      intro w1 hw1 hf1
      apply tailR (fun _ => ?_) (fun _ => ?_) ?_
      rotate_right 2
      · simp only [putAll, Act.put, List.setIfInBounds_toArray, List.set_cons_succ, List.set_cons_zero]; first | done | rfl
      · simp only [List.drop_succ_cons, List.drop_zero]; first | done | rfl
      simp [allFacts, contOf, Exp.putAt, Exp.fact, Exp.fresh, Exp.blk] at hf1
      clear hf1 q3
      replace k3 := grow_blk hw1 k3
      replace HB := bl_call hw1 HB
      clear hw1
      have hlt3 : (List.take n (textw s)).length = n := by rw [List.length_take, LT.out]; omega
      have cs := blk_cell k3 n
      rw [cw_at _ _ (by rw [padTo_length _ _ (by omega)]; exact hlt)] at cs
      have fs := blk_frozen k3 n
      have hlt4 := Lib.hid hlt3
      clear hlt3
      go_wp2_with fail
      go_roundw
      case measure => simp [intOf] <;> omega
      refine ⟨n + 1, by omega, congrArg (Value.int .i64) (by omega), bl_set _ _ (by simp) HB, ?_⟩
      have := padTo_set s.size (List.take n (textw s)) (at32 (textw s) n) (by rw [hlt4.out]; exact hlt)
      rw [hlt4.out] at this
      rw [List.take_succ_eq_append_getElem (by rw [LT.out]; exact hlt), show (textw s)[n]'(by rw [LT.out]; exact hlt) = at32 (textw s) n by simp [at32, LT.out, hlt], ← this, ← cw_set]
      exact blk_set k3 n _
    · obtain rfl : n = s.size := by omega
      have hlt' : ¬ (s.size : Int) < (s.size : Int) := by omega
      rw [List.take_of_length_le (by rw [LT.out]; omega), padTo_full _ _ LT.out] at k3
      have HS : SliceOf wr (.slice (some ⟨w.heap.size, 0, none⟩) s.size s.size) (textw s) := .inr ⟨w.heap.size, 0, s.size, by rw [LT.out], by omega, fun k hk => by rw [Nat.zero_add, blk_cell k3 k]; exact cw_at _ _ hk⟩
      have LJ := Lib.hid (joinw_length (textw s))
      go_upto_region 10 with (first | (go_at_call 32; refine (JoinS_c (textw s) _ _ (by rw [LT.out]; exact hs) HS).mono ?_; rintro e w2 ⟨rfl, hb2⟩) | (go_at_call 33; refine (Bytes2_c _ LJ.out _).mono ?_; rintro e w3 ⟨g, cap, rfl, hg, HR, hb3⟩))
      have LB := Lib.hid (bytesw_length _ LJ.out)
      obtain ⟨bw, hbw⟩ : ∃ bw, bw = bytesw (joinw (textw s)) := ⟨_, rfl⟩
      rw [← hbw] at HR LB
      replace hbw := Lib.hid hbw
      replace HB : Below w.heap.size w w3 := bl_call hb3 (bl_call hb2 HB)
      have mg : w.heap.size < g := by have := hb2.size; have := blk_lt k3; omega
      clear hb2 hb3 k3 HS hg
      have HO0 : w3.ownsRow w.heap.size 5 1 (.slice none 0 0) 0 ((bw.take 0).map byv) := World.ownsRow_nil _ _ _ _
      have HB0 := HB
      have HR0 := HR
      clear HB HR
      go_loopw [30, 5] (fun i sv wr => ∃ k : Nat, k ≤ 32 ∧ i = .int .i64 (k : Int) ∧ Below w.heap.size w wr ∧ Row wr g 0 bw ∧ wr.ownsRow w.heap.size 5 1 sv k ((bw.take k).map byv) ∧ sv.ownBlock ≠ some g) (fun i _ _ => 32 - (intOf i).toNat)
      case atStart => exact ⟨0, by omega, rfl, HB0, HR0, HO0, by simp [Value.ownBlock]⟩
      case round =>
        clear HB0 HR0 HO0
        obtain ⟨k, hk, rfl, HB, HR, HO, hne⟩ := hrel
        have pk : (0 : Int) ≤ (k : Int) := by omega
        by_cases hlt2 : k < 32
        · have hlt3 : (k : Int) < 32 := by omega
          have ck : wr.cell? ⟨g, k, none⟩ = some (.int .u32 (iw (at32 bw k))) := by have := HR k (by rw [LB.out]; exact hlt2); rwa [Nat.zero_add] at this
          have qg := cell_lt' ck
          go_upto_region 11 with (fail)
          refine wp_region_R 4 [28, 30] (by kernel_rfl) (by kernel_rfl) (by kernel_rfl) (by kernel_rfl) ?_
          intro K_ ops_ hops_ hK
          replace hops_ := Lib.hid hops_
          apply Exists.intro
          intro R_ hb_
          simp only [↓baseR, ↓nthR_succ, ↓nthR_zero] at hb_
          simp only [List.take_succ_cons, List.take_zero, List.drop_succ_cons, List.drop_zero]
          repeat (first
            
            | (apply LexR_put (j := 2) (ho := rfl); (go_simp; rfl); (go_simp; rfl); rfl; rfl; (focus (first | decide | (simp; done))); rfl; rfl; kernel_rfl; kernel_rfl; (first | exact cw_one _ | simp [Value.oneCell']); (first | (rw [cw_size, L64.out]; rfl) | (rw [cw_size, L8.out]; rfl) | (rw [cw_size]; rfl) | rfl); intro _)
            
            | (apply LexR_det (by rfl) (by rfl) (by rfl) (fun w1 hw1 hd1 => ?_) (fun _ hr_ => ?_); rotate_right 2; (go_simp; first | done | rfl | (rw [grow_cell hw1 ck]; focus ((try simp); first | done | rfl))))
            | (apply LexR_box (by rfl) (by rfl) (by rfl) (fun w1 hw1 hd1 => ?_) (fun _ hr_ => ?_); rotate_right 2; (go_simp; first | done | rfl))
            | (apply LexR_bs (t := 60) (e := 36) (z := .agg #[.int .u32 0]) (ho := rfl) (by rfl) (by rfl) Try.underlying60 (by kernel_rfl) (by decide) (by decide) (fun _ => ?_) (fun _ => ?_) (fun _ => ?_) (fun _ hr_ => ?_); rotate_right 4; (go_simp; rfl); (exact ⟨rfl, rfl, rfl⟩); (simp only [List.map_cons, List.map_nil, List.flatMap_cons, List.flatMap_nil, Value.cells, List.cons_append, List.nil_append, List.append_nil]; rfl)))
          apply LexR_end
          refine hK _ _ ?_
          clear hK K_
          repeat clear hr_
          clear hb_ R_ hops_ ops_
          intro w1 hw1 hf1
          apply tailR (fun _ => ?_) (fun _ => ?_) ?_
          rotate_right 2
          · simp only [putAll, Act.put, List.setIfInBounds_toArray, List.set_cons_succ, List.set_cons_zero]; first | done | rfl
          · simp only [List.drop_succ_cons, List.drop_zero]; first | done | rfl
          simp [allFacts, contOf, Exp.putAt, Exp.fact, Exp.fresh, Exp.blk] at hf1
          obtain ⟨k8, l8⟩ := hf1
          obtain ⟨g8, e_⟩ := name_blk k8
          subst e_
          replace HB := bl_call hw1 HB
          replace HR := HR.grow hw1
          replace HO := ownsRow_block HO fun g hg => hw1.block g (ownsRow_lt HO hg).2
          clear hw1 l8 ck qg
          go_upto_region 12 with (fail)
          have q8 := blk_lt k8
          refine wp_region_R 6 [5, 6, 8] (by kernel_rfl) (by kernel_rfl) (by kernel_rfl) (by kernel_rfl) ?_
          intro K_ ops_ hops_ hK
          replace hops_ := Lib.hid hops_
          apply Exists.intro
          intro R_ hb_
          simp only [↓baseR, ↓nthR_succ, ↓nthR_zero] at hb_
          simp only [List.take_succ_cons, List.take_zero, List.drop_succ_cons, List.drop_zero]
          repeat (first
            
            | (apply LexR_bs (t := 42) (e := 5) (z := .int .u8 0) (ho := rfl) (by rfl) (by rfl) Try.underlying42 (by kernel_rfl) (by decide) (by decide) (fun _ => ?_) (fun _ => ?_) (fun _ => ?_) (fun _ hr_ => ?_); rotate_right 4; (go_simp; rfl); (exact ⟨rfl, rfl, rfl⟩); (simp only [List.map_cons, List.map_nil, List.flatMap_cons, List.flatMap_nil, Value.cells, List.cons_append, List.nil_append, List.append_nil]; rfl))
            | (apply LexR_callF (f := 39) (by rfl) (by rfl) (by rfl) Try.func39 (by kernel_rfl) (by kernel_rfl) (fun _ => ?_) (fun w1 hw1 hd1 => ?_) (fun _ hr_ => ?_); rotate_right 3; (go_simp; first | done | rfl); exact (Release_nil_c _ w1))
            | (apply LexR_det (by rfl) (by rfl) (by rfl) (fun w1 hw1 hd1 => ?_) (fun _ hr_ => ?_); rotate_right 2; (go_simp; first | done | rfl | (rw [blk_cell (grow_blk hw1 k8)]; focus ((try simp); first | done | rfl))))
            | (apply LexR_box (by rfl) (by rfl) (by rfl) (fun w1 hw1 hd1 => ?_) (fun _ hr_ => ?_); rotate_right 2; (go_simp; first | done | rfl))
            | (apply LexR_bs (t := 60) (e := 36) (z := .agg #[.int .u32 0]) (ho := rfl) (by rfl) (by rfl) Try.underlying60 (by kernel_rfl) (by decide) (by decide) (fun _ => ?_) (fun _ => ?_) (fun _ => ?_) (fun _ hr_ => ?_); rotate_right 4; (go_simp; rfl); (exact ⟨rfl, rfl, rfl⟩); (simp only [List.map_cons, List.map_nil, List.flatMap_cons, List.flatMap_nil, Value.cells, List.cons_append, List.nil_append, List.append_nil]; rfl)))
          apply LexR_end
          refine hK _ _ ?_
          clear hK K_
          repeat clear hr_
          clear hb_ R_ hops_ ops_
          intro w1 hw1 hf1
          apply tailR (fun _ => ?_) (fun _ => ?_) ?_
          rotate_right 2
          · simp only [putAll, Act.put, List.setIfInBounds_toArray, List.set_cons_succ, List.set_cons_zero]; first | done | rfl
          · simp only [List.drop_succ_cons, List.drop_zero]; first | done | rfl
          simp [allFacts, contOf, Exp.putAt, Exp.fact, Exp.fresh, Exp.blk] at hf1
          obtain ⟨k39, l39⟩ := hf1
          obtain ⟨g39, e_⟩ := name_blk k39
          subst e_
          rw [wrap_byte] at k39
          replace HB := bl_call hw1 HB
          replace HR := HR.grow hw1
          replace HO := ownsRow_block HO fun g hg => hw1.block g (ownsRow_lt HO hg).2
          clear hw1 l39 q8 k8
          have c39 := blk_cell k39 0
          refine wpList_app1 rfl _ _ 42 rfl w.heap.size 5 (.int .u8 0) 1 Try.underlying42 (by kernel_rfl) rfl (by decide) u5 k _ rfl HO g39 1 (byv (at32 bw k)) rfl c39 rfl (by omega) HB.size ?_
          intro g3 cap3 W2 hO hgr hsv hgl
          have qg : g < w1.heap.size := cell_lt' (HR k (by rw [LB.out]; exact hlt2))
          replace HR : Row W2 g 0 bw := HR.block (hgr.block g qg fun q => hne q.symm)
          replace HB := grown_below HB hgr HB.size fun g hg' => (ownsRow_lt HO hg').1
          have hne2 : (Value.slice (some ⟨g3, 0, none⟩) (k + 1) cap3).ownBlock ≠ some g := by
            intro z
            have e : g3 = g := by simpa [Value.ownBlock] using z
            rcases hsv with q | q
            · exact hne (by rw [q, e])
            · omega
          replace HO : W2.ownsRow w.heap.size 5 1 (.slice (some ⟨g3, 0, none⟩) (k + 1) cap3) (k + 1) ((bw.take (k + 1)).map byv) := by
            rw [List.take_succ_eq_append_getElem (by rw [LB.out]; exact hlt2), List.map_append, show bw[k]'(by rw [LB.out]; exact hlt2) = at32 bw k by simp [at32, LB.out, hlt2]]
            exact hO
          generalize (Value.slice (some ⟨g3, 0, none⟩) (k + 1) cap3) = sv2 at HO hne2 ⊢
          clear hO hgr hsv hgl c39 k39 qg
          go_wp2_with fail
          go_roundw
          case measure => simp [intOf] <;> omega
          refine ⟨k + 1, by omega, congrArg (Value.int .i64) (by omega), HB, HR, HO, hne2⟩
        · obtain rfl : k = 32 := by omega
          have hlt3 : ¬ ((32 : Nat) : Int) < 32 := by omega
          rw [List.take_of_length_le (by rw [LB.out]; omega)] at HO
          obtain ⟨g3, cap3, rfl, _, _⟩ := World.ownsRow.form HO (by omega)
          have hcell : ∀ i, i < 32 → wr.cell? ⟨g3, 0 + i, none⟩ = some (.int .u8 ((bw.map byteN).getD i 0)) := fun i hi => by
            rw [Nat.zero_add, World.ownsRow.cellAt HO i (by omega)]
            simp [byv, LB.out, hi]
          go_upto_region 14 with (fail)
          refine wp_region_R 3 [5] (by kernel_rfl) (by kernel_rfl) (by kernel_rfl) (by kernel_rfl) ?_
          intro K_ ops_ hops_ hK
          replace hops_ := Lib.hid hops_
          apply Exists.intro
          intro R_ hb_
          simp only [↓baseR, ↓nthR_succ, ↓nthR_zero] at hb_
          simp only [List.take_succ_cons, List.take_zero, List.drop_succ_cons, List.drop_zero]
          repeat (first
            
            | (apply LexR_det (by rfl) (by rfl) (by rfl) (fun w1 hw1 hd1 => ?_) (fun _ hr_ => ?_); rotate_right 2; (refine run_convert_bytesR (cap := cap3) rfl ?_ Try.underlying42 Try.underlying5 Try.underlying9 (bw.map byteN) (by rw [List.length_map, LB.out]) (fun i hi => by rw [hw1.cell (cell_lt' (hcell i hi))]; exact hcell i hi); (focus (go_simp; done))))
            
            | (apply LexR_det (by rfl) (by rfl) (by rfl) (fun w1 hw1 hd1 => ?_) (fun _ hr_ => ?_); rotate_right 2; (go_simp; first | done | rfl ))
            | (apply LexR_box (by rfl) (by rfl) (by rfl) (fun w1 hw1 hd1 => ?_) (fun _ hr_ => ?_); rotate_right 2; (go_simp; first | done | rfl))
            | (apply LexR_bs (t := 60) (e := 36) (z := .agg #[.int .u32 0]) (ho := rfl) (by rfl) (by rfl) Try.underlying60 (by kernel_rfl) (by decide) (by decide) (fun _ => ?_) (fun _ => ?_) (fun _ => ?_) (fun _ hr_ => ?_); rotate_right 4; (go_simp; rfl); (exact ⟨rfl, rfl, rfl⟩); (simp only [List.map_cons, List.map_nil, List.flatMap_cons, List.flatMap_nil, Value.cells, List.cons_append, List.nil_append, List.append_nil]; rfl)))
          apply LexR_end
          refine hK _ _ ?_
          clear hK K_
          repeat clear hr_
          clear hb_ R_ hops_ ops_
          intro w1 hw1 hf1
          apply tailR (fun _ => ?_) (fun _ => ?_) ?_
          rotate_right 2
          · simp only [putAll, Act.put, List.setIfInBounds_toArray, List.set_cons_succ, List.set_cons_zero]; first | done | rfl
          · simp only [List.drop_succ_cons, List.drop_zero]; first | done | rfl
          simp [allFacts, contOf, Exp.putAt, Exp.fact, Exp.fresh, Exp.blk] at hf1
          rw [strOfNums_bytes]
          replace HB := bl_call hw1 HB
          go_wp2
          exact bodyPost_ret (v := .string (sumText s)) (by simp [results, Try.results27, go_sem, sumText, hbw.out]) rfl ⟨rfl, HB⟩
end Go.Proofs.Ytpcpdgkkjkkklaa

/- What the laws of layer 17 share: awake, list; texts of a slice that came in. -/
import Derived.Test.YteaaaekffnfmhaaHx
namespace Go.Proofs.Yteaaaekffnfmhaa
open Go.RowKit Go.Lib
set_option maxRecDepth 100000
set_option linter.unusedSimpArgs false
set_option linter.unusedVariables false
attribute [local go_sem] evR_tmp evR_const evR_global evR_func
theorem jefe_sum : refBytes (macw [74, 101, 102, 101] [119, 104, 97, 116, 32, 100, 111, 32, 121, 97, 32, 119, 97, 110, 116, 32, 102, 111, 114, 32, 110, 111, 116, 104, 105, 110, 103, 63]) = [91, 220, 193, 70, 191, 96, 117, 78, 106, 4, 36, 38, 8, 149, 117, 199, 90, 0, 63, 8, 157, 39, 57, 131, 157, 236, 88, 185, 100, 236, 56, 67] := by decide +kernel
theorem jefe_text : macText ⟨#[74, 101, 102, 101]⟩ ⟨#[119, 104, 97, 116, 32, 100, 111, 32, 121, 97, 32, 119, 97, 110, 116, 32, 102, 111, 114, 32, 110, 111, 116, 104, 105, 110, 103, 63]⟩ = ⟨#[91, 220, 193, 70, 191, 96, 117, 78, 106, 4, 36, 38, 8, 149, 117, 199, 90, 0, 63, 8, 157, 39, 57, 131, 157, 236, 88, 185, 100, 236, 56, 67]⟩ := by
  unfold macText
  rw [jefe_sum]
theorem awake17_c (w : World) : Calls Try.prog 6 #[] w fun e w' => e = .returned (.bool true) ∧ Below w.heap.size w w' := by
  have ha := fun w => hPlain_c ⟨#[74, 101, 102, 101]⟩ ⟨#[119, 104, 97, 116, 32, 100, 111, 32, 121, 97, 32, 119, 97, 110, 116, 32, 102, 111, 114, 32, 110, 111, 116, 104, 105, 110, 103, 63]⟩ (by decide) (by decide) w
  rw [jefe_text] at ha
  go_enter Try.func6, Try.ntmps6
  go_wp2_with (go_at_call 13; refine (ha _).mono ?_; rintro e w' ⟨rfl, HB⟩)
  have he : ((⟨#[91, 220, 193, 70, 191, 96, 117, 78, 106, 4, 36, 38, 8, 149, 117, 199, 90, 0, 63, 8, 157, 39, 57, 131, 157, 236, 88, 185, 100, 236, 56, 67]⟩ : ByteArray).extract 0 4).toList = [91, 220, 193, 70] := by decide +kernel
  exact bodyPost_ret (v := .bool true) (by simp [results, Try.results6, go_sem, he]) rfl ⟨rfl, HB⟩
/-- Bytes as words, with something above. -/
def abv (bs : List UInt8) (ab : W32) : List W32 := bs.map fun b => kw b.toNat ||| shlI ab 8
theorem abv_length (bs : List UInt8) (ab : W32) : (abv bs ab).length = bs.length := by rw [abv, List.length_map]
theorem abv_at (bs : List UInt8) (ab : W32) (k : Nat) (h : k < bs.length) : bits .or .u32 ((bs[k].toNat : Int) % 4294967296) (iw ab * 256 % 4294967296) = iw (at32 (abv bs ab) k) := by
  have hb := bs[k].toNat_lt
  rw [conv_kw _ (by omega), shl8, or_iw]
  simp [at32, abv, h]
theorem shl8_low (x : W32) : shlI x 8 &&& kw 255 = 0#32 := by
  apply BitVec.eq_of_toNat_eq
  rw [BitVec.toNat_and, kw_nat 255 (by omega), show (255 : Nat) = 2 ^ 8 - 1 from rfl, Nat.and_two_pow_sub_one_eq_mod]
  unfold shlI
  rw [BitVec.toNat_shiftLeft, Nat.shiftLeft_eq]
  simp
theorem low_abv (bs : List UInt8) (ab : W32) : lowB (abv bs ab) = bs := by
  unfold lowB abv
  rw [List.map_map]
  conv => rhs; rw [← List.map_id bs]
  apply List.map_congr_left
  intro b _
  refine byteOf_same ?_
  show (kw b.toNat ||| shlI ab 8) &&& kw 255 = kw b.toNat
  rw [BitVec.and_comm, BitVec.and_or_distrib_left, BitVec.and_comm _ (shlI ab 8), shl8_low, BitVec.or_zero, BitVec.and_comm, low_byte]
def ListRet (xs : List W32) (w : World) (x : Ending) (w' : World) : Prop := ∃ sv, x = .returned sv ∧ OwnW w' w.heap.size sv xs ∧ Below w.heap.size w w'
set_option maxHeartbeats 4000000 in
theorem list17_c (bs : List UInt8) (sv : Value) (ab : W32) (w : World) (hn : bs.length ≤ 1000) (hb : RowB w sv bs) : Calls Try.prog 9 #[sv, .int .u32 (iw ab)] w (ListRet (abv bs ab) w) := by
  obtain ⟨ao, cap, rfl, hno, hcc⟩ := hb
  have LA := Lib.hid (abv_length bs ab)
  have hat := abv_at bs ab
  generalize abv bs ab = X at LA hat ⊢
  obtain ⟨n, hnb⟩ : ∃ n, n = bs.length := ⟨_, rfl⟩
  have hcn : ∀ k, k < n → ∃ gb off b, ao = some ⟨gb, off, none⟩ ∧ w.cell? ⟨gb, off + k, none⟩ = some (.int .u8 b) ∧ bits .or .u32 (b % 4294967296) (iw ab * 256 % 4294967296) = iw (at32 X k) := fun k hk => by
    obtain ⟨gb, off, h1, h2⟩ := hcc k (by omega)
    exact ⟨gb, off, _, h1, h2, hat k (by omega)⟩
  rw [← hnb] at LA hn ⊢
  clear hcc hat hno hnb
  go_enter Try.func9, Try.ntmps9
  go_upto_region 2 with (fail)
  have HO0 : OwnW w w.heap.size (.slice none 0 0) (X.take 0) := World.ownsRow_nil _ _ _ _
  have HB0 : Below w.heap.size w w := Below.refl _ _
  go_wp2_with fail
  go_loopw [10, 5] (fun i sv wr => ∃ k : Nat, k ≤ n ∧ i = .int .i64 (k : Int) ∧ Below w.heap.size w wr ∧ OwnW wr w.heap.size sv (X.take k)) (fun i _ _ => n - (intOf i).toNat)
  case atStart => exact ⟨0, by omega, rfl, HB0, HO0⟩
  case round =>
    clear HB0 HO0
    obtain ⟨k, hk, rfl, HB, HO⟩ := hrel
    have pk : (0 : Int) ≤ (k : Int) := by omega
    by_cases hlt : k < n
    · have hlt' : (k : Int) < (n : Int) := by omega
      obtain ⟨gb, off, b, rfl, hc0, hbv⟩ := hcn k hlt
      have hc := grow_cell HB hc0
      clear hc0
      have LK := Lib.hid (show (X.take k).length = k by rw [List.length_take, LA.out]; omega)
      go_upto_region 5 with (fail)
      refine wp_region_R 8 [1, 5, 7] (by kernel_rfl) (by kernel_rfl) (by kernel_rfl) (by kernel_rfl) ?_
      intro K_ ops_ hops_ hK
      replace hops_ := Lib.hid hops_
      apply Exists.intro
      intro R_ hb_
      simp only [↓baseR, ↓nthR_succ, ↓nthR_zero] at hb_
      simp only [List.take_succ_cons, List.take_zero, List.drop_succ_cons, List.drop_zero]
      repeat (first
        
        
        | (apply LexR_callF (f := 20) (by rfl) (by rfl) (by rfl) Try.func20 (by kernel_rfl) (by kernel_rfl) (fun _ => ?_) (fun w1 hw1 hd1 => ?_) (fun _ hr_ => ?_); rotate_right 3; (go_simp; first | done | rfl); exact (Of_c _ (at32 X k) (by first | exact hbv | (rw [← hbv]; simp only [IntKind.wrap_u32'])) w1))
        | (apply LexR_det (by rfl) (by rfl) (by rfl) (fun w1 hw1 hd1 => ?_) (fun _ hr_ => ?_); rotate_right 2; (go_simp; first | done | rfl ))
        | (apply LexR_box (by rfl) (by rfl) (by rfl) (fun w1 hw1 hd1 => ?_) (fun _ hr_ => ?_); rotate_right 2; (go_simp; first | done | rfl))
        | (apply LexR_bs (t := 34) (e := 29) (z := .agg #[.int .u32 0]) (ho := rfl) (by rfl) (by rfl) Try.underlying34 (by kernel_rfl) (by decide) (by decide) (fun _ => ?_) (fun _ => ?_) (fun _ => ?_) (fun _ hr_ => ?_); rotate_right 4; (go_simp; rfl); (exact ⟨rfl, rfl, rfl⟩); (simp only [List.map_cons, List.map_nil, List.flatMap_cons, List.flatMap_nil, Value.cells, List.cons_append, List.nil_append, List.append_nil]; rfl)))
      apply LexR_end
      refine hK _ _ ?_
      clear hK K_
      repeat clear hr_
      clear hb_ R_ hops_ ops_
      intro w1 hw1 hf1
      apply tailR (fun _ => ?_) (fun _ => ?_) ?_
      rotate_right 2
      · simp only [putAll, Act.put, List.setIfInBounds_toArray, List.set_cons_succ, List.set_cons_zero]; first | done | rfl
      · simp only [List.drop_succ_cons, List.drop_zero]; first | done | rfl
      simp [allFacts, contOf, Exp.putAt, Exp.fact, Exp.fresh, Exp.blk] at hf1
      obtain ⟨k21, l21⟩ := hf1
      obtain ⟨g21, e_⟩ := name_blk k21
      subst e_
      replace HO := HO.grow hw1
      replace HB := bl_call hw1 HB
      clear hw1 l21
      have c21 := blk_cell k21 0
      refine wpList_app1 rfl _ _ 34 rfl w.heap.size 29 (.agg #[.int .u32 0]) 8 Try.underlying34 (by kernel_rfl) rfl (by decide) u5 (X.take k).length _ rfl HO g21 1 (sec (at32 X k)) rfl c21 rfl (by rw [LK.out]; omega) HB.size ?_
      intro g3 cap3 W2 hO hgr hsv hgl
      replace HB := grown_below HB hgr HB.size fun g hg' => (ownsRow_lt HO hg').1
      replace HO : OwnW W2 w.heap.size (.slice (some ⟨g3, 0, none⟩) ((X.take k).length + 1) cap3) (X.take (k + 1)) := by
        rw [List.take_succ_eq_append_getElem (by rw [LA.out]; exact hlt), show X[k]'(by rw [LA.out]; exact hlt) = at32 X k by simp [at32, LA.out, hlt]]
        exact OwnW.snoc rfl hO
      generalize (Value.slice (some ⟨g3, 0, none⟩) ((X.take k).length + 1) cap3) = sv2 at HO ⊢
      clear hO hgr hsv hgl c21 k21 hc hbv
      go_wp2_with fail
      go_roundw
      case measure => simp [intOf] <;> omega
      exact ⟨k + 1, by omega, congrArg (Value.int .i64) (by omega), HB, HO⟩
    · obtain rfl : k = n := by omega
      have hlt' : ¬ (k : Int) < (k : Int) := by omega
      rw [List.take_of_length_le (by rw [LA.out]; omega)] at HO
      go_wp2
      exact bodyPost_ret (v := u5) (by simp [results, Try.results9, go_sem]) rfl ⟨u5, rfl, HO, HB⟩
end Go.Proofs.Yteaaaekffnfmhaa

/- The contract of AuditReads. -/
import Derived.Test.YtcophjjjkonpjaaDoorUf
import Derived.Test.YtcophjjjkonpjaaDoorUg
import Derived.Test.YtcophjjjkonpjaaDoorTc
namespace Go.Proofs.YtcophjjjkonpjaaDoor
open Go.RowKit
set_option maxRecDepth 100000
set_option linter.unusedSimpArgs false
set_option linter.unusedVariables false
set_option maxHeartbeats 2000000 in
theorem AuditReads_c (s : ByteArray) (w : World) (he : Env w) : Calls Tryd.prog 4 #[.string s] w fun x w' => x = .returned (.bool true) ∧ Below w.heap.size w w' := by
  replace he := Lib.hid he
  have hW := Lib.hid (fun w => awake44_c w)
  by_cases hz : 1000 < s.size
  · have hz' : 1000 < (s.size : Int) := by omega
    clear hz
    go_enter Tryd.func4, Tryd.ntmps4
    go_wp2_with (go_at_call 6; refine (hW.out _).mono ?_; rintro e w5 ⟨rfl, hb⟩)
    exact bodyPost_ret (v := .bool true) (by simp [results, Tryd.results4, go_sem]) rfl ⟨rfl, hb⟩
  have hz' : ¬ 1000 < (s.size : Int) := by omega
  have hR := fun w he => Read_c s (by omega) w he
  have hQ := fun w => rRead_c s (by omega) w
  have hT := rdA_text (splitL 10 s.data.toList) 1
  have hB := rdA_bad (splitL 10 s.data.toList) 1
  have hj := join_split 10 s.data.toList
  have hln := split_len 10 s.data.toList
  have hl : s.data.toList.length = s.size := Array.length_toList
  cases hX : rdA 1 (splitL 10 s.data.toList) with
  | bad m =>
    have hm := hB m hX
    rw [hX] at hR hQ
    simp only [ReadE, ReadQ] at hR hQ
    have m0 : 0 < (m : Int) := by omega
    clear hT hB hj hln hl hX hz hm
    replace hR := Lib.hid hR
    replace hQ := Lib.hid hQ
    go_enter Tryd.func4, Tryd.ntmps4
    go_upto_region 3 with (go_at_call 6; refine (hW.out _).mono ?_; rintro e w5 ⟨rfl, hb⟩)
    have he5 := Lib.hid (he.out.below hb)
    go_wp2_with (first | (go_at_call 10; refine (hR.out _ he5.out).mono ?_; rintro e w6 ⟨rfl, hb6⟩; have hA6 := bl_call hb6 hb) | (go_at_call 11; refine (hQ.out _).mono ?_; rintro e w7 ⟨rfl, hb7⟩; have hA7 := bl_call hb7 hA6))
    exact bodyPost_ret (v := .bool true) (by simp [results, Tryd.results4, go_sem]) rfl ⟨rfl, hA7⟩
  | ok rs =>
    obtain ⟨t1, t2, t3, t4⟩ := hT rs (splitL_ne _ _) hX
    have hts : (⟨(textB rs).toArray⟩ : ByteArray) = s := by rw [t1, hj]
    have hrl : rs.length ≤ 100000 := by omega
    rw [hX] at hR hQ
    simp only [ReadE, ReadQ] at hR hQ
    have hTx := fun (va : Value) (w : World) (ha : RowN w va rs) (he : Env w) => Text_c rs va w ha hrl t2 (fun r hr => by
      obtain ⟨q1, q2, q3, q4⟩ := t2 r hr
      exact ⟨itoaOk_of he _ q1.1 q1.2, itoaOk_of he _ q2.1 q2.2, itoaOk_of he _ q3.1 q3.2, itoaOk_of he _ (by omega) (by omega)⟩)
    rw [hts] at hTx
    have hSm := fun (va vb : Value) (w : World) (ha : RowN w va rs) (hb : RowN w vb rs) => same_c rs rs va vb w ha hb (by omega) (by omega)
    rw [show decide (rs = rs) = true by simp] at hSm
    clear hT hB hj hln hl hX hz t1 t2 t3 t4 hts
    replace hR := Lib.hid hR
    replace hQ := Lib.hid hQ
    replace hTx := Lib.hid hTx
    replace hSm := Lib.hid hSm
    go_enter Tryd.func4, Tryd.ntmps4
    go_upto_region 3 with (go_at_call 6; refine (hW.out _).mono ?_; rintro e w5 ⟨rfl, hb⟩)
    have he5 := Lib.hid (he.out.below hb)
    go_upto_region 6 with (go_at_call 10; refine (hR.out _ he5.out).mono ?_; rintro e w6 ⟨⟨ao, cap, rfl, hO⟩, hb6⟩)
    have hA6 := bl_call hb6 hb
    have hN6 := RowN.ofOwn hO
    clear hO hb6 hb he5 hR hW
    go_upto_region 7 with (go_at_call 11; refine (hQ.out _).mono ?_; rintro e w7 ⟨⟨bo, bcap, rfl, hO⟩, hb7⟩)
    have hA7 := bl_call hb7 hA6
    have hN7 := hN6.grow hb7
    have hM7 := RowN.ofOwn hO
    clear hO hN6 hA6 hb7 hQ
    have he7 := Lib.hid (he.out.below hA7)
    replace hN7 := Lib.hid hN7
    replace hM7 := Lib.hid hM7
    go_wp2_with (first | (go_at_call 12; refine (hSm.out _ _ _ hN7.out hM7.out).mono ?_; rintro e w8 ⟨rfl, hb8⟩; have hA8 := bl_call hb8 hA7; have hN8 := Lib.hid (hN7.out.grow hb8); have he8 := Lib.hid (he7.out.below hb8)) | (go_at_call 13; refine (hTx.out _ _ hN8.out he8.out).mono ?_; rintro e w9 ⟨rfl, hb9⟩; have hA9 := bl_call hb9 hA8))
    exact bodyPost_ret (v := .bool true) (by simp [results, Tryd.results4, go_sem]) rfl ⟨rfl, hA9⟩
end Go.Proofs.YtcophjjjkonpjaaDoor

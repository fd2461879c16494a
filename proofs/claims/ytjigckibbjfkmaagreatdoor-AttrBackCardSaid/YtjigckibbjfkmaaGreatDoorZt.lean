/- Law 33's awake; sizes of texts. -/
import Derived.Test.YtjigckibbjfkmaaGreatDoorMo
namespace Go.Proofs.YtjigckibbjfkmaaGreatDoor
open Go.RowKit
set_option maxRecDepth 100000
set_option linter.unusedSimpArgs false
set_option linter.unusedVariables false
theorem toM_inj {a b : MsgS} (h : toM a = toM b) : a = b := by
  obtain ⟨k, u, n, s, i, p, g, f⟩ := a
  obtain ⟨k', u', n', s', i', p', g', f'⟩ := b
  unfold toM at h
  simp only [Msg.mk.injEq] at h
  obtain ⟨h1, h2, h3, h4, h5, h6, h7, h8⟩ := h
  rw [h1, bs_ext h2, bs_ext h3, bs_ext h4, h5, bs_ext h6, bs_ext h7, bs_ext h8]
theorem txS_le (m : MsgS) (h : rightM (toM m)) : (txS m).size ≤ 1000 := by
  obtain ⟨k, u, n, s, i, p, g, f⟩ := m
  have non : ∀ l, nonceOk l = true → l.length ≤ 200 := by
    intro l hl
    unfold nonceOk at hl
    simp only [Bool.and_eq_true, decide_eq_true_eq] at hl
    exact hl.2.2
  rcases h with q | q | q | q
  · obtain ⟨q1, _, _, _, _, _, q7, q8⟩ := q
    have h1 := non _ q8
    have h2 : u.data.toList.length ≤ 200 := by
      unfold nameOk at q7
      simp only [Bool.and_eq_true, decide_eq_true_eq] at q7
      exact q7.1.2.2
    have h3 := esc_len u.data.toList
    rw [tx1 _ q1]
    simp only [ByteArray.size_append]
    have e1 : (esM u).size = (escL u.data.toList).length := by show (escL u.data.toList).toArray.size = _; rw [List.size_toArray]
    have e2 : cNN.size = 5 := rfl
    have e3 : cR.size = 3 := rfl
    have e4 : n.data.toList.length = n.size := zlen n
    have h1' : n.data.toList.length ≤ 200 := h1
    omega
  · obtain ⟨q1, _, _, _, _, q6, q7, q8⟩ := q
    have h1 : n.data.toList.length ≤ 200 := non _ q6
    have h2 : s.data.toList.length ≤ 64 := q7.2
    rw [zlen] at h1 h2
    have h3 := encL_length s.data.toList
    rw [zlen] at h3
    have h4 := itM_size i q8.1 q8.2
    rw [tx2 _ q1]
    simp only [ByteArray.size_append]
    have e1 : (enM s).size = (encL s.data.toList).length := by show (encL s.data.toList).toArray.size = _; rw [List.size_toArray]
    have e2 : c_r.size = 2 := rfl
    have e3 : cS.size = 3 := rfl
    have e4 : cI.size = 3 := rfl
    omega
  · obtain ⟨q1, _, _, _, _, _, q7, q8⟩ := q
    have h1 : n.data.toList.length ≤ 200 := non _ q7
    have h2 : p.data.toList.length = 32 := q8
    rw [zlen] at h1 h2
    have h3 := encL_length p.data.toList
    rw [zlen] at h3
    rw [tx3 _ q1]
    simp only [ByteArray.size_append]
    have e1 : (enM p).size = (encL p.data.toList).length := by show (encL p.data.toList).toArray.size = _; rw [List.size_toArray]
    have e2 : cCR.size = 9 := rfl
    have e3 : cP.size = 3 := rfl
    omega
  · obtain ⟨q1, _, _, _, _, _, q7⟩ := q
    have q1' : k = 4 := q1
    rw [tx4 _ (by simp only [q1']; decide) (by simp only [q1']; decide) (by simp only [q1']; decide)]
    simp only
    rcases q7 with ⟨q8, q9⟩ | ⟨q8, q9⟩
    · have q8' : g.data.toList.length = 32 := q8
      rw [zlen] at q8'
      have q9' : f = ⟨#[]⟩ := bs_ext q9
      rw [if_pos q9', ByteArray.size_append]
      have h3 := encL_length g.data.toList
      rw [zlen] at h3
      have e1 : (enM g).size = (encL g.data.toList).length := by show (encL g.data.toList).toArray.size = _; rw [List.size_toArray]
      have e2 : c_v.size = 2 := rfl
      omega
    · have q9' : f.data.toList.length ≤ 100 := by
        have q9'' : failOk f.data.toList = true := q9
        rw [failOk_is] at q9''
        simp only [Bool.and_eq_true, decide_eq_true_eq] at q9''
        exact q9''.2.2
      have q8' : g = ⟨#[]⟩ := bs_ext q8
      rw [zlen] at q9'
      have e2 : c_v.size = 2 := rfl
      have e3 : c_e.size = 2 := rfl
      split
      · rw [ByteArray.size_append, q8']
        have h3 : (encL []).length = 0 := rfl
        have e1 : (enM ⟨#[]⟩).size = (encL []).length := by show (encL []).toArray.size = _; rw [List.size_toArray]
        have h4 : (⟨#[]⟩ : ByteArray).size = 0 := rfl
        omega
      · rw [ByteArray.size_append]
        omega
/-- The message that law 33's awake reads. -/
def aw33 : MsgS := ⟨1, ⟨#[117, 115, 44, 101, 114]⟩, ⟨#[102, 121, 107, 111]⟩, ⟨#[]⟩, 0, ⟨#[]⟩, ⟨#[]⟩, ⟨#[]⟩⟩
def awT : ByteArray := ⟨#[110, 44, 44, 110, 61, 117, 115, 61, 50, 67, 101, 114, 44, 114, 61, 102, 121, 107, 111]⟩
theorem aw_right : rightM (toM aw33) := by decide +kernel
theorem aw_text : textM (toM aw33) = awT.data.toList := by decide +kernel
theorem aw_dec : decM 1 awT.data.toList = some (toM aw33) := by
  have := decM_own (toM aw33) aw_right
  rw [aw_text] at this
  exact this
set_option maxHeartbeats 1000000 in
theorem awake33_c (w : World) (he : Env w) : Calls Tryz.prog 6 #[] w fun e w' => e = .returned (.bool true) ∧ Below w.heap.size w w' := by
  have hD : ∀ w, Env w → Calls Tryz.prog 12 #[.int .i64 1, .string awT] w fun e w' => e = .returned (.tuple #[mv aw33, .int .i64 0]) ∧ Below w.heap.size w w' := by
    intro w he
    refine (aDecode_c 1 awT (by decide) w he).mono ?_
    rintro e w' ⟨⟨x, c, rfl, _, hc⟩, hb⟩
    rw [aw_dec] at hc
    rcases hc with ⟨rfl, hx⟩ | ⟨_, _, hx⟩
    · rw [toM_inj (Option.some.inj hx).symm]
      exact ⟨rfl, hb⟩
    · cases hx
  have hB := fun w => Bare_c ⟨#[110, 44, 44, 110, 61, 97]⟩ (by decide) w
  have e0 : (⟨((⟨#[110, 44, 44, 110, 61, 97]⟩ : ByteArray).data.toList.drop 3).toArray⟩ : ByteArray) = ⟨#[110, 61, 97]⟩ := rfl
  rw [e0] at hB
  clear e0
  unfold awT mv aw33 at hD
  simp only at hD
  replace he := Lib.hid he
  replace hD := Lib.hid hD
  go_enter Tryz.func6, Tryz.ntmps6
  go_wp2_with (first | (go_at_call 12; with_reducible refine (hD.out _ he.out).mono ?_; rintro e w5 ⟨rfl, hb5⟩; have kN := blk_new w5 (.cells #[.int .i64 1, .string ⟨#[117, 115, 44, 101, 114]⟩, .string ⟨#[102, 121, 107, 111]⟩, .string ⟨#[]⟩, .int .i64 0, .string ⟨#[]⟩, .string ⟨#[]⟩, .string ⟨#[]⟩] 23); have x1 := blk_cell kN 1; have x2 := blk_cell kN 2; have hA := bl_alloc hb5 (.cells #[.int .i64 1, .string ⟨#[117, 115, 44, 101, 114]⟩, .string ⟨#[102, 121, 107, 111]⟩, .string ⟨#[]⟩, .int .i64 0, .string ⟨#[]⟩, .string ⟨#[]⟩, .string ⟨#[]⟩] 23)) | (go_at_call 18; with_reducible refine (hB _).mono ?_; rintro e w6 ⟨rfl, hb6⟩))
  exact bodyPost_ret (v := .bool true) (by simp [results, Tryz.results6, go_sem]) rfl ⟨rfl, bl_call hb6 hA⟩
end Go.Proofs.YtjigckibbjfkmaaGreatDoor

/- Records without program: a text is read as the record that it is of, and no other text is. -/
import Derived.Test.YtkbgcmfldfbcgaaGreatDoorRp
namespace Go.Proofs.YtkbgcmfldfbcgaaGreatDoor
open Go.Lib
set_option maxRecDepth 100000
set_option linter.unusedSimpArgs false
set_option linter.unusedVariables false
theorem sg_ne36 (n : Nat) : sg n ≠ 36 := by
  by_cases h : n < 64
  · have : ∀ k : Fin 64, sg k.val ≠ 36 := by decide +kernel
    exact this ⟨n, h⟩
  · have : sg n = 0 := by
      unfold sg
      rw [List.getD_eq_getElem?_getD, List.getElem?_eq_none (by simp [sgT]; omega)]
      rfl
    rw [this]; decide
theorem enc_no36 : ∀ t : List UInt8, (36 : UInt8) ∉ encL t := by
  intro t
  induction t using encL.induct with
  | case1 => simp [encL]
  | case2 a => rw [encL]; simp [Ne.symm (sg_ne36 _)]
  | case3 a b => rw [encL]; simp [Ne.symm (sg_ne36 _)]
  | case4 a b c r ih => rw [encL]; simp [Ne.symm (sg_ne36 _), ih]
theorem itoa_no36 (n : Int) (h : 0 ≤ n) : (36 : UInt8) ∉ itoa n := by
  intro hm
  rw [itoa, if_neg (by omega)] at hm
  have := (dec_all n.toNat).1
  rw [List.all_eq_true] at this
  have := this _ hm
  exact absurd this (by decide)
theorem proN_no36 (n : Int) : (36 : UInt8) ∉ (proN n).data.toList := by
  unfold proN
  repeat' split
  all_goals decide
theorem proN_size (n : Int) : (proN n).data.toList.length ≤ 6 := by
  unfold proN
  repeat' split
  all_goals decide
theorem mk_back (s : ByteArray) : (⟨s.data.toList.toArray⟩ : ByteArray) = s := by apply ByteArray.ext; simp
theorem chk_parts (r : Rcd) (h : chkR r = 0) : (1 ≤ r.p ∧ r.p ≤ 5) ∧ (1 ≤ r.n ∧ r.n ≤ 16777216) ∧ (1 ≤ r.a.size ∧ r.a.size ≤ 64) ∧ r.b.size = 32 ∧ r.c.size = 32 := by
  unfold chkR at h
  by_cases h1 : 1 ≤ r.p ∧ r.p ≤ 5
  · rw [if_neg (by simpa using h1)] at h
    by_cases h2 : 1 ≤ r.n ∧ r.n ≤ 16777216
    · rw [if_neg (by simpa using h2)] at h
      by_cases h3 : 1 ≤ r.a.size ∧ r.a.size ≤ 64
      · rw [if_neg (by simpa using h3)] at h
        by_cases h4 : r.b.size = 32
        · rw [if_neg (by simpa using h4)] at h
          by_cases h5 : r.c.size = 32
          · exact ⟨h1, h2, h3, h4, h5⟩
          · rw [if_pos h5] at h; cases h
        · rw [if_pos h4] at h; cases h
      · rw [if_pos h3] at h; cases h
    · rw [if_pos h2] at h; cases h
  · rw [if_pos h1] at h; cases h
theorem chk_of (r : Rcd) (h1 : 1 ≤ r.p ∧ r.p ≤ 5) (h2 : 1 ≤ r.n ∧ r.n ≤ 16777216) (h3 : 1 ≤ r.a.size ∧ r.a.size ≤ 64) (h4 : r.b.size = 32) (h5 : r.c.size = 32) : chkR r = 0 := by
  unfold chkR
  rw [if_neg (by simpa using h1), if_neg (by simpa using h2), if_neg (by simpa using h3), if_neg (by simpa using h4), if_neg (by simpa using h5)]
theorem encS_length (s : ByteArray) : (encS s).length = (s.size + 2) / 3 * 4 := by rw [encS, encL_length, Array.length_toList]; rfl
theorem decS_enc (s : ByteArray) : decS ⟨(encS s).toArray⟩ = some s := by
  rw [decS, List.toList_toArray, encS, dec_enc, Option.map_some, mk_back]
theorem enc_decS (s t : ByteArray) (h : decS s = some t) : encS t = s.data.toList := by
  unfold decS at h
  obtain ⟨l, hl, rfl⟩ := Option.map_eq_some_iff.1 h
  rw [encS, List.toList_toArray]
  exact enc_dec _ _ hl
theorem textR_split (r : Rcd) (hn : 0 ≤ r.n) : splitS 36 (textR r) = (partsR r).map fun p => ⟨p.toArray⟩ := by
  rw [splitS, textR, List.toList_toArray, split_join 36 (partsR r) (by simp [partsR])]
  intro p hp
  simp only [partsR, List.mem_cons, List.not_mem_nil, or_false] at hp
  rcases hp with rfl | rfl | rfl | rfl | rfl | rfl
  · decide
  · exact proN_no36 _
  · exact itoa_no36 _ hn
  · exact enc_no36 _
  · exact enc_no36 _
  · exact enc_no36 _
theorem textR_size (r : Rcd) (h : chkR r = 0) : (textR r).size ≤ 300 := by
  obtain ⟨h1, h2, h3, h4, h5⟩ := chk_parts r h
  have e1 := encS_length r.a
  have e2 := encS_length r.b
  have e3 := encS_length r.c
  have e4 := proN_size r.p
  have e5 := itoa_length_le r.n (by omega) (by omega)
  show (List.toArray _).size ≤ 300
  rw [List.size_toArray]
  simp only [partsR, joinL, List.length_append, List.length_cons]
  have e6 : sabS.data.toList.length = 3 := rfl
  omega
theorem dec_text (r : Rcd) (h : chkR r = 0) : decR (textR r) = .ok r := by
  obtain ⟨h1, h2, h3, h4, h5⟩ := chk_parts r h
  have hz := textR_size r h
  have hn : numR (itoa r.n) = some r.n.toNat := by
    obtain ⟨k, hk⟩ : ∃ k : Nat, r.n = (k : Int) := ⟨r.n.toNat, by omega⟩
    rw [hk, Int.toNat_natCast]
    exact numR_itoa k (by omega) (by omega)
  have hp := proI_N r.p h1.1 h1.2
  unfold decR
  rw [if_neg (by omega), textR_split r (by omega)]
  simp only [partsR, List.map_cons, List.map_nil, mk_back, List.toList_toArray]
  rw [if_neg (by simp), if_neg (by intro e; rw [e] at hp; omega), hn]
  simp only [decS_enc]
  rw [if_neg (by simpa using h3), if_neg (by simpa using h4), if_neg (by simpa using h5)]
  cases r with
  | mk p n a b c =>
    simp only at hp h2 ⊢
    rw [hp, show ((n.toNat : Nat) : Int) = n by omega]
theorem text_dec (s : ByteArray) (r : Rcd) (h : decR s = .ok r) : chkR r = 0 ∧ textR r = s := by
  unfold decR at h
  by_cases hz : 2000 < s.size
  · rw [if_pos hz] at h; cases h
  rw [if_neg hz] at h
  split at h
  case h_2 => cases h
  case h_1 hh p n a b c hs =>
    by_cases h0 : hh = sabS
    case neg => rw [if_pos h0] at h; cases h
    rw [if_neg (by simpa using h0)] at h
    by_cases h1 : proI p = 0
    · rw [if_pos h1] at h; cases h
    rw [if_neg h1] at h
    cases hn : numR n.data.toList with
    | none => rw [hn] at h; cases h
    | some k =>
      rw [hn] at h
      cases ha : decS a with
      | none => rw [ha] at h; cases h
      | some sa =>
        rw [ha] at h
        simp only at h
        by_cases h2 : 1 ≤ sa.size ∧ sa.size ≤ 64
        case neg => rw [if_pos h2] at h; cases h
        rw [if_neg (by simpa using h2)] at h
        cases hb : decS b with
        | none => rw [hb] at h; cases h
        | some sb =>
          rw [hb] at h
          simp only at h
          by_cases h3 : sb.size = 32
          case neg => rw [if_pos h3] at h; cases h
          rw [if_neg (by simpa using h3)] at h
          cases hc : decS c with
          | none => rw [hc] at h; cases h
          | some sc =>
            rw [hc] at h
            simp only at h
            by_cases h4 : sc.size = 32
            case neg => rw [if_pos h4] at h; cases h
            rw [if_neg (by simpa using h4)] at h
            obtain rfl := DR.ok.inj h
            obtain ⟨i1, i2, i3⟩ := itoa_numR _ _ hn
            obtain ⟨p1, p2⟩ := proN_I p h1
            refine ⟨chk_of _ ⟨by simp only; omega, by simp only; omega⟩ ⟨by simp only; omega, by simp only; omega⟩ h2 h3 h4, ?_⟩
            have e : partsR ⟨(proI p : Int), (k : Int), sa, sb, sc⟩ = splitL 36 s.data.toList := by
              have h5 : (splitS 36 s).map (·.data.toList) = splitL 36 s.data.toList := by
                rw [splitS, List.map_map]
                conv => rhs; rw [← List.map_id (splitL 36 s.data.toList)]
                exact List.map_congr_left fun x _ => by simp
              rw [← h5, hs]
              simp only [partsR, List.map_cons, List.map_nil, p1, i1, enc_decS _ _ ha, enc_decS _ _ hb, enc_decS _ _ hc, h0]
            unfold textR
            rw [e, join_split, mk_back]
end Go.Proofs.YtkbgcmfldfbcgaaGreatDoor

/- The arena: what it holds, and what its functions do. -/
import Derived.Test.YteaaaekffnfmhaaR3
namespace Go.Proofs.Yteaaaekffnfmhaa
open Go.RowKit
set_option maxRecDepth 100000
set_option linter.unusedSimpArgs false
set_option linter.unusedVariables false
attribute [local go_sem] evR_tmp evR_const evR_global evR_func
/-- An event: its kind, its place, its value. -/
abbrev Ev := Int × Int × Int
def evcs (es : List Ev) : List Value := es.flatMap fun e => evc e.1 e.2.1 e.2.2
theorem evcs_snoc (es : List Ev) (k a v : Int) : evcs (es ++ [(k, a, v)]) = evcs es ++ evc k a v := by simp [evcs]
/-- An arena's blocks in a world. -/
structure Ar (ga gw gl : Nat) (sv : Value) (xs : List W32) (top : Nat) (es : List Ev) (W : World) : Prop where
  ka : W.heap[ga]? = some (.cells #[.slice (some ⟨gw, 0, none⟩) xs.length xs.length, .int .i64 (top : Int), .pointer (some ⟨gl, 0, none⟩)] 71 (0, 0))
  kw : W.heap[gw]? = some (.cells (cw xs) 29 (0, 0))
  kl : W.heap[gl]? = some (.cells #[sv] 74 (0, 0))
  own : W.ownsRow 0 58 3 sv es.length (evcs es)
  ne : ga ≠ gw ∧ ga ≠ gl ∧ gw ≠ gl
  na : sv.ownBlock ≠ some ga ∧ sv.ownBlock ≠ some gw ∧ sv.ownBlock ≠ some gl
  small : top ≤ xs.length ∧ xs.length ≤ 1000000
def ArJ (ga : Nat) (xs : List W32) (top : Nat) (es : List Ev) (W : World) (F : Nat → Prop) : Prop := ∃ gw gl sv, (∀ b, F b ↔ (b = ga ∨ b = gw ∨ b = gl ∨ sv.ownBlock = some b)) ∧ Ar ga gw gl sv xs top es W
theorem Ar.lt {ga gw gl : Nat} {sv : Value} {xs : List W32} {top : Nat} {es : List Ev} {W : World} (h : Ar ga gw gl sv xs top es W) {b : Nat} (hb : b = ga ∨ b = gw ∨ b = gl ∨ sv.ownBlock = some b) : b < W.heap.size := by
  rcases hb with rfl | rfl | rfl | q
  · exact blk_lt h.ka
  · exact blk_lt h.kw
  · exact blk_lt h.kl
  · exact (ownsRow_lt h.own q).2
theorem Ar.same {ga gw gl : Nat} {sv : Value} {xs : List W32} {top : Nat} {es : List Ev} {W W' : World} (h : Ar ga gw gl sv xs top es W) (he : ∀ b, (b = ga ∨ b = gw ∨ b = gl ∨ sv.ownBlock = some b) → W'.heap[b]? = W.heap[b]?) : Ar ga gw gl sv xs top es W' :=
  ⟨(he _ (.inl rfl)).trans h.ka, (he _ (.inr (.inl rfl))).trans h.kw, (he _ (.inr (.inr (.inl rfl)))).trans h.kl, ownsRow_block h.own fun g hg => he g (.inr (.inr (.inr hg))), h.ne, h.na, h.small⟩
theorem ArJ.foot (ga : Nat) (xs : List W32) (top : Nat) (es : List Ev) : Foot (fun _ => ArJ ga xs top es) where
  lt := fun ⟨gw, gl, sv, hF, h⟩ b hb => h.lt ((hF b).1 hb)
  keep := fun ⟨gw, gl, sv, hF, h⟩ hs he => ⟨gw, gl, sv, hF, h.same fun b hb => he b ((hF b).2 hb)⟩
/-- From one world to another one by what owns F: it owns then these blocks and new ones. -/
structure Upd (J : World → (Nat → Prop) → Prop) (F : Nat → Prop) (W W1 : World) : Prop where
  ex : ∃ F', J W1 F' ∧ ∀ b, F' b → F b ∨ W.heap.size ≤ b
  apart : Apart F W W1
abbrev St1 (J : World → (Nat → Prop) → Prop) (F0 : Nat → Prop) (w W : World) (own : List Nat) : Prop := St (fun _ => J) F0 w 0 W own
theorem St1.start {J : World → (Nat → Prop) → Prop} {F0 : Nat → Prop} {w : World} (h : J w F0) : St1 J F0 w w [] := St.start (J := fun _ => J) h
theorem St1.upd {J1 : World → (Nat → Prop) → Prop} {F0 : Nat → Prop} {w W : World} {own : List Nat} (s : St1 J1 F0 w W own) (ho : ∀ b ∈ own, b < W.heap.size) : ∃ F, J1 W F ∧ ∀ J2 W1, Upd J2 F W W1 → St1 J2 F0 w W1 own ∧ ∀ b ∈ own, W1.heap[b]? = W.heap[b]? := by
  obtain ⟨F, h1, h2, h3⟩ := s.ex
  refine ⟨F, h1, fun J2 W1 r => ⟨⟨?_, ?_⟩, fun b hb => r.apart.block b (ho b hb) (h3 b hb)⟩⟩
  · obtain ⟨F', j, hs⟩ := r.ex
    refine ⟨F', j, fun b hb => ?_, fun b hb q => ?_⟩
    · rcases hs b hb with z | z
      · exact h2 b z
      · exact .inr (Nat.le_trans s.apart.size z)
    · rcases hs b q with z | z
      · exact h3 b hb z
      · exact absurd (ho b hb) (by omega)
  · refine ⟨r.apart.os.trans s.apart.os, r.apart.tape.trans s.apart.tape, r.apart.output.trans s.apart.output, Nat.le_trans s.apart.size r.apart.size, fun b hb hn => ?_⟩
    rw [r.apart.block b (Nat.lt_of_lt_of_le hb s.apart.size) fun q => ?_]
    · exact s.apart.block b hb hn
    · rcases h2 b q with z | z
      · exact hn z
      · omega
theorem St1.out {J : World → (Nat → Prop) → Prop} {F0 : Nat → Prop} {w W : World} {own : List Nat} (s : St1 J F0 w W own) : Upd J F0 w W := by
  obtain ⟨F, h1, h2, _⟩ := s.ex
  exact ⟨⟨F, h1, h2⟩, s.apart⟩
theorem Upd.pre {J : World → (Nat → Prop) → Prop} {F : Nat → Prop} {W W1 W2 : World} (hb : Below W.heap.size W W1) (u : Upd J F W1 W2) : Upd J F W W2 := by
  obtain ⟨F', h1, h2⟩ := u.ex
  refine ⟨⟨F', h1, fun b hb' => ?_⟩, u.apart.os.trans hb.os, u.apart.tape.trans hb.tape, u.apart.output.trans hb.output, Nat.le_trans hb.size u.apart.size, fun b h hn => (u.apart.block b (Nat.lt_of_lt_of_le h hb.size) hn).trans (hb.block b h)⟩
  rcases h2 b hb' with q | q
  · exact .inl q
  · exact .inr (Nat.le_trans hb.size q)
/-- What a note does to a log. -/
structure Noted (gl : Nat) (sv : Value) (es : List Ev) (w w' : World) : Prop where
  ex : ∃ sv', w'.heap[gl]? = some (.cells #[sv'] 74 (0, 0)) ∧ w'.ownsRow 0 58 3 sv' es.length (evcs es) ∧ sv'.ownBlock ≠ some gl ∧ ∀ g, sv'.ownBlock = some g → sv.ownBlock = some g ∨ w.heap.size ≤ g
  apart : Apart (fun b => b = gl ∨ sv.ownBlock = some b) w w'
theorem noteE_c (k a v : Int) (w : World) (gl : Nat) (sv : Value) (es : List Ev) (hk : w.heap[gl]? = some (.cells #[sv] 74 (0, 0))) (hO : w.ownsRow 0 58 3 sv es.length (evcs es)) (hn : es.length ≤ 1000000) (hgl : sv.ownBlock ≠ some gl) :
    Calls Try.prog 49 #[.pointer (some ⟨gl, 0, none⟩), .int .i64 k, .int .i64 a, .int .u32 v] w fun e w' => e = .returned (.tuple #[]) ∧ Noted gl sv (es ++ [(k, a, v)]) w w' := by
  refine (note_c k a v w gl 0 es.length sv (evcs es) hk hO (Nat.zero_le _) hn hgl).mono ?_
  rintro e w' ⟨rfl, sv', k1, k2, k3, k4, k5, k6, k7, k8, k9⟩
  exact ⟨rfl, ⟨sv', k1, by rw [evcs_snoc, List.length_append]; exact k2, k3, k4⟩, k5, k6, k7, k8, fun b hb hn => k9 b hb (fun z => hn (.inl z)) fun z => hn (.inr z)⟩
theorem Ar.noted {ga gw gl : Nat} {sv : Value} {xs : List W32} {top : Nat} {es es' : List Ev} {W W1 : World} {F : Nat → Prop} (h : Ar ga gw gl sv xs top es W) (hF : ∀ b, F b ↔ (b = ga ∨ b = gw ∨ b = gl ∨ sv.ownBlock = some b)) (n : Noted gl sv es' W W1) : Upd (ArJ ga xs top es') F W W1 := by
  obtain ⟨sv', k1, k2, k3, k4⟩ := n.ex
  have la := blk_lt h.ka
  have lw := blk_lt h.kw
  have ea := n.apart.block ga la fun z => by
    rcases z with z | z
    · exact h.ne.2.1 z
    · exact h.na.1 z
  have ew := n.apart.block gw lw fun z => by
    rcases z with z | z
    · exact h.ne.2.2 z
    · exact h.na.2.1 z
  refine ⟨⟨fun b => b = ga ∨ b = gw ∨ b = gl ∨ sv'.ownBlock = some b, ⟨gw, gl, sv', fun _ => Iff.rfl, ea.trans h.ka, ew.trans h.kw, k1, k2, h.ne, ⟨fun z => ?_, fun z => ?_, k3⟩, h.small⟩, fun b hb => ?_⟩, n.apart.mono fun b hb => (hF b).2 (.inr (.inr hb))⟩
  · rcases k4 _ z with q | q
    · exact h.na.1 q
    · omega
  · rcases k4 _ z with q | q
    · exact h.na.2.1 q
    · omega
  · rcases hb with q | q | q | q
    · exact .inl ((hF b).2 (.inl q))
    · exact .inl ((hF b).2 (.inr (.inl q)))
    · exact .inl ((hF b).2 (.inr (.inr (.inl q))))
    · rcases k4 _ q with z | z
      · exact .inl ((hF b).2 (.inr (.inr (.inr z))))
      · exact .inr z
/-- Does it lie within? -/
def fits (top : Nat) (a n : Int) : Bool := decide (0 ≤ a ∧ 0 ≤ n ∧ a ≤ top ∧ n ≤ top - a)
theorem Fits_c (ga top : Nat) (a n : Int) (v0 v2 : Value) (w : World) (hk : w.heap[ga]? = some (.cells #[v0, .int .i64 (top : Int), v2] 71 (0, 0))) (ht : top ≤ 1000000) :
    Calls Try.prog 40 #[.pointer (some ⟨ga, 0, none⟩), .int .i64 a, .int .i64 n] w fun e w' => e = .returned (.bool (fits top a n)) ∧ Below w.heap.size w w' := by
  have c1 : w.cell? ⟨ga, 1, none⟩ = some (.int .i64 (top : Int)) := blk_cell hk 1
  unfold fits
  by_cases h1 : 0 ≤ a
  · by_cases h2 : 0 ≤ n
    · by_cases h3 : a ≤ top
      · have hw : IntKind.i64.wrap ((top : Int) - a) = top - a := IntWalk.i64_in _ (by omega)
        by_cases h4 : n ≤ top - a
        · have hd : decide (0 ≤ a ∧ 0 ≤ n ∧ a ≤ (top : Int) ∧ n ≤ (top : Int) - a) = true := by simp [h1, h2, h3, h4]
          rw [hd]
          go_enter Try.func40, Try.ntmps40
          go_wp2
          exact bodyPost_ret (v := .bool true) (by simp [results, Try.results40, go_sem]) rfl ⟨rfl, by (repeat (first | exact Below.refl _ _ | (refine bl_alloc ?_ _) | (refine bl_drewN ?_ _) | (refine bl_drew ?_) | (refine bl_call (by assumption) ?_) | (refine bl_set _ _ (by simp <;> omega) ?_) | assumption))⟩
        · have hd : decide (0 ≤ a ∧ 0 ≤ n ∧ a ≤ (top : Int) ∧ n ≤ (top : Int) - a) = false := by simp [h1, h2, h3, h4]
          rw [hd]
          go_enter Try.func40, Try.ntmps40
          go_wp2
          exact bodyPost_ret (v := .bool false) (by simp [results, Try.results40, go_sem]) rfl ⟨rfl, by (repeat (first | exact Below.refl _ _ | (refine bl_alloc ?_ _) | (refine bl_drewN ?_ _) | (refine bl_drew ?_) | (refine bl_call (by assumption) ?_) | (refine bl_set _ _ (by simp <;> omega) ?_) | assumption))⟩
      · have hd : decide (0 ≤ a ∧ 0 ≤ n ∧ a ≤ (top : Int) ∧ n ≤ (top : Int) - a) = false := by simp [h1, h2, h3]
        rw [hd]
        go_enter Try.func40, Try.ntmps40
        go_wp2
        exact bodyPost_ret (v := .bool false) (by simp [results, Try.results40, go_sem]) rfl ⟨rfl, by (repeat (first | exact Below.refl _ _ | (refine bl_alloc ?_ _) | (refine bl_drewN ?_ _) | (refine bl_drew ?_) | (refine bl_call (by assumption) ?_) | (refine bl_set _ _ (by simp <;> omega) ?_) | assumption))⟩
    · have hd : decide (0 ≤ a ∧ 0 ≤ n ∧ a ≤ (top : Int) ∧ n ≤ (top : Int) - a) = false := by simp [h1, h2]
      rw [hd]
      go_enter Try.func40, Try.ntmps40
      go_wp2
      exact bodyPost_ret (v := .bool false) (by simp [results, Try.results40, go_sem]) rfl ⟨rfl, by (repeat (first | exact Below.refl _ _ | (refine bl_alloc ?_ _) | (refine bl_drewN ?_ _) | (refine bl_drew ?_) | (refine bl_call (by assumption) ?_) | (refine bl_set _ _ (by simp <;> omega) ?_) | assumption))⟩
  · have hd : decide (0 ≤ a ∧ 0 ≤ n ∧ a ≤ (top : Int) ∧ n ≤ (top : Int) - a) = false := by simp [h1]
    rw [hd]
    go_enter Try.func40, Try.ntmps40
    go_wp2
    exact bodyPost_ret (v := .bool false) (by simp [results, Try.results40, go_sem]) rfl ⟨rfl, by (repeat (first | exact Below.refl _ _ | (refine bl_alloc ?_ _) | (refine bl_drewN ?_ _) | (refine bl_drew ?_) | (refine bl_call (by assumption) ?_) | (refine bl_set _ _ (by simp <;> omega) ?_) | assumption))⟩
theorem LLoad_c (a : Int) (w : World) (gl : Nat) (sv : Value) (es : List Ev) (hk : w.heap[gl]? = some (.cells #[sv] 74 (0, 0))) (hO : w.ownsRow 0 58 3 sv es.length (evcs es)) (hn : es.length ≤ 1000000) (hgl : sv.ownBlock ≠ some gl) :
    Calls Try.prog 56 #[.pointer (some ⟨gl, 0, none⟩), .int .i64 a] w fun e w' => e = .returned (.tuple #[]) ∧ Noted gl sv (es ++ [(1, a, 0)]) w w' := by
  go_enter Try.func56, Try.ntmps56
  go_wp2_with (go_at_call 49; refine (noteE_c _ _ _ _ gl sv es hk hO hn hgl).mono ?_; rintro e w' ⟨rfl, hN⟩)
  exact bodyPost_end (v := .tuple #[]) (by simp [results, Try.results56, go_sem]) rfl ⟨rfl, hN⟩
theorem LStore_c (a : Int) (w : World) (gl : Nat) (sv : Value) (es : List Ev) (hk : w.heap[gl]? = some (.cells #[sv] 74 (0, 0))) (hO : w.ownsRow 0 58 3 sv es.length (evcs es)) (hn : es.length ≤ 1000000) (hgl : sv.ownBlock ≠ some gl) :
    Calls Try.prog 57 #[.pointer (some ⟨gl, 0, none⟩), .int .i64 a] w fun e w' => e = .returned (.tuple #[]) ∧ Noted gl sv (es ++ [(2, a, 0)]) w w' := by
  go_enter Try.func57, Try.ntmps57
  go_wp2_with (go_at_call 49; refine (noteE_c _ _ _ _ gl sv es hk hO hn hgl).mono ?_; rintro e w' ⟨rfl, hN⟩)
  exact bodyPost_end (v := .tuple #[]) (by simp [results, Try.results57, go_sem]) rfl ⟨rfl, hN⟩
theorem count_c (n : Nat) (hn32 : n ≤ 1000000) (w : World) : Calls Try.prog 53 #[.int .i64 (n : Int)] w fun e w' => e = .returned (.int .u32 (n : Int)) ∧ w' = w := by
  have hc : IntKind.u32.wrap (n : Int) = n := by rw [IntKind.wrap_u32']; omega
  go_enter Try.func53, Try.ntmps53
  go_wp2
  exact bodyPost_ret (v := .int .u32 (n : Int)) (by simp [results, Try.results53, go_sem]) rfl ⟨rfl, rfl⟩
theorem LTake_c (a : Int) (n : Nat) (hn32 : n ≤ 1000000) (w : World) (gl : Nat) (sv : Value) (es : List Ev) (hk : w.heap[gl]? = some (.cells #[sv] 74 (0, 0))) (hO : w.ownsRow 0 58 3 sv es.length (evcs es)) (hn : es.length ≤ 1000000) (hgl : sv.ownBlock ≠ some gl) :
    Calls Try.prog 34 #[.pointer (some ⟨gl, 0, none⟩), .int .i64 a, .int .i64 (n : Int)] w fun e w' => e = .returned (.tuple #[]) ∧ Noted gl sv (es ++ [(4, a, (n : Int))]) w w' := by
  have hc : IntKind.u32.wrap (n : Int) = n := by rw [IntKind.wrap_u32']; omega
  have h0 : ¬ (n : Int) < 0 := by omega
  have h1 : (n : Int) ≤ 4294967295 := by omega
  go_enter Try.func34, Try.ntmps34
  go_wp2_with (first | (go_at_call 53; refine (count_c n hn32 _).mono ?_; rintro e w' ⟨rfl, rfl⟩) | (go_at_call 49; refine (noteE_c _ _ _ _ gl sv es hk hO hn hgl).mono ?_; rintro e w' ⟨rfl, hN⟩))
  exact bodyPost_end (v := .tuple #[]) (by simp [results, Try.results34, go_sem]) rfl ⟨rfl, hN⟩
theorem Ar.grow {ga gw gl : Nat} {sv : Value} {xs : List W32} {top : Nat} {es : List Ev} {W W' : World} (h : Ar ga gw gl sv xs top es W) (hb : Below W.heap.size W W') : Ar ga gw gl sv xs top es W' := h.same fun b q => hb.block b (h.lt q)
theorem Load_c (ga : Nat) (xs : List W32) (top : Nat) (es : List Ev) (i : Nat) (w : World) (F : Nat → Prop) (hJ : ArJ ga xs top es w F) (hi : i < top) (hn : es.length ≤ 1000000) :
    Calls Try.prog 39 #[.pointer (some ⟨ga, 0, none⟩), .int .i64 (i : Int)] w fun e w' => e = .returned (.agg #[.int .u32 (iw (at32 xs i))]) ∧ Upd (ArJ ga xs top (es ++ [(1, (i : Int), 0)])) F w w' := by
  have S0 := St1.start hJ
  have hf : fits top (i : Int) 1 = true := by unfold fits; simp; omega
  have sm : top ≤ xs.length ∧ xs.length ≤ 1000000 := by obtain ⟨_, _, _, _, h⟩ := hJ; exact h.small
  go_enter Try.func39, Try.ntmps39
  go_upto_region 1 with (fail)
  refine gen_world fun W hW => ?_
  have k4 : W.heap[w.heap.size]? = some (.cells #[.int .u32 0] 29 (0, 0)) := by subst hW; (repeat (first | (with_reducible assumption) | ((with_reducible refine blk_new' ?_ _); (simp; done)) | ((with_reducible refine blk_alloc ?_ _)) | ((with_reducible refine blk_far ?_ ?_ _); (simp <;> omega))))
  have HB : Below w.heap.size w W := by subst hW; (repeat (first | exact Below.refl _ _ | (refine bl_alloc ?_ _) | (refine bl_drewN ?_ _) | (refine bl_drew ?_) | (refine bl_call (by assumption) ?_) | (refine bl_set _ _ (by simp <;> omega) ?_) | assumption))
  have S : St1 (ArJ ga xs top es) F w W [w.heap.size] := S0.take (ArJ.foot ga xs top es) [w.heap.size] (by simp) HB
  clear hW HB S0
  obtain ⟨F1, ⟨gw, gl, sv, hF1, A⟩, _⟩ := S.ex
  go_upto_region 3 with (go_at_call 40; refine (Fits_c ga top i 1 _ _ _ A.ka (by omega)).mono ?_; rintro e w1 ⟨rfl, hw1⟩; rw [hf])
  clear A hF1
  replace S := S.grow (ArJ.foot ga xs top es) hw1
  replace k4 := grow_blk hw1 k4
  clear hw1
  have q4 := blk_lt k4
  obtain ⟨F1, ⟨gw, gl, sv, hF1, A⟩, hup⟩ := St1.upd S (by simpa using q4)
  have c2 := blk_cell A.ka 2
  go_upto_region 4 with (go_at_call 56; refine (LLoad_c _ _ gl sv es A.kl A.own hn A.na.2.2).mono ?_; rintro e w2 ⟨rfl, hN⟩)
  obtain ⟨S2, h2⟩ := hup _ _ (A.noted hF1 hN)
  replace k4 := (h2 w.heap.size (by simp)).trans k4
  clear hN hF1 A hup h2 S c2 q4
  obtain ⟨F2, ⟨gw, gl, sv, hF2, A⟩, _⟩ := S2.ex
  have c0 := blk_cell A.ka 0
  have cx := blk_cell A.kw i
  rw [cw_at _ _ (by omega)] at cx
  have hix : (i : Int) < (xs.length : Int) := by omega
  have c40 := blk_cell k4 0
  have f40 := blk_frozen k4 0
  go_wp2
  clear c0 cx c40 f40
  have SF := S2.set (ArJ.foot ga xs top (es ++ [(1, (i : Int), 0)])) ⟨w.heap.size, 0, none⟩ (.int .u32 (iw (at32 xs i))) (by simp) (Nat.le_refl _)
  have c4 := blk_cell (blk_set k4 0 (.int .u32 (iw (at32 xs i)))) 0
  have f4 := blk_frozen (blk_set k4 0 (.int .u32 (iw (at32 xs i)))) 0
  exact bodyPost_ret (v := .agg #[.int .u32 (iw (at32 xs i))]) (by simp [results, Try.results39, go_sem, c4]) rfl ⟨rfl, St1.out SF⟩
theorem ArJ.put {ga gw gl : Nat} {sv : Value} {xs : List W32} {top : Nat} {es : List Ev} {W : World} {F : Nat → Prop} (h : Ar ga gw gl sv xs top es W) (hF : ∀ b, F b ↔ (b = ga ∨ b = gw ∨ b = gl ∨ sv.ownBlock = some b)) (i : Nat) (x : W32) : Upd (ArJ ga (xs.set i x) top es) F W (W.setCell ⟨gw, i, none⟩ (.int .u32 (iw x))) := by
  have hw : F gw := (hF gw).2 (.inr (.inl rfl))
  refine ⟨⟨F, ⟨gw, gl, sv, hF, ?_⟩, fun b hb => .inl hb⟩, rfl, rfl, rfl, by simp [World.setCell], fun b hb hn => Below.heap_setCell W _ _ b (show b ≠ gw from fun z => hn (z ▸ hw))⟩
  refine ⟨?_, ?_, ?_, ?_, h.ne, h.na, by rw [List.length_set]; exact h.small⟩
  · rw [List.length_set]; exact blk_far h.ka h.ne.1 _
  · have := blk_set h.kw i (.int .u32 (iw x))
    rwa [cw_set] at this
  · exact blk_far h.kl (fun z => h.ne.2.2 z.symm) _
  · exact ownsRow_block h.own fun g hg => Below.heap_setCell W _ _ g (show g ≠ gw from fun z => h.na.2.1 (by rw [hg, z]))
theorem ArJ.top {ga gw gl : Nat} {sv : Value} {xs : List W32} {top : Nat} {es : List Ev} {W : World} {F : Nat → Prop} (h : Ar ga gw gl sv xs top es W) (hF : ∀ b, F b ↔ (b = ga ∨ b = gw ∨ b = gl ∨ sv.ownBlock = some b)) (t2 : Nat) (ht : t2 ≤ xs.length) : Upd (ArJ ga xs t2 es) F W (W.setCell ⟨ga, 1, none⟩ (.int .i64 (t2 : Int))) := by
  have hw : F ga := (hF ga).2 (.inl rfl)
  refine ⟨⟨F, ⟨gw, gl, sv, hF, ?_⟩, fun b hb => .inl hb⟩, rfl, rfl, rfl, by simp [World.setCell], fun b hb hn => Below.heap_setCell W _ _ b (show b ≠ ga from fun z => hn (z ▸ hw))⟩
  refine ⟨?_, ?_, ?_, ?_, h.ne, h.na, ht, h.small.2⟩
  · have := blk_set h.ka 1 (.int .i64 (t2 : Int))
    simpa using this
  · exact blk_far h.kw (fun z => h.ne.1 z.symm) _
  · exact blk_far h.kl (fun z => h.ne.2.1 z.symm) _
  · exact ownsRow_block h.own fun g hg => Below.heap_setCell W _ _ g (show g ≠ ga from fun z => h.na.1 (by rw [hg, z]))
theorem Store_c (ga : Nat) (xs : List W32) (top : Nat) (es : List Ev) (i : Nat) (x : W32) (w : World) (F : Nat → Prop) (hJ : ArJ ga xs top es w F) (hi : i < top) (hn : es.length ≤ 1000000) :
    Calls Try.prog 41 #[.pointer (some ⟨ga, 0, none⟩), .int .i64 (i : Int), .agg #[.int .u32 (iw x)]] w fun e w' => e = .returned (.bool true) ∧ Upd (ArJ ga (xs.set i x) top (es ++ [(2, (i : Int), 0)])) F w w' := by
  have S0 := St1.start hJ
  have hf : fits top (i : Int) 1 = true := by unfold fits; simp; omega
  have sm : top ≤ xs.length ∧ xs.length ≤ 1000000 := by obtain ⟨_, _, _, _, h⟩ := hJ; exact h.small
  go_enter Try.func41, Try.ntmps41
  go_upto_region 1 with (fail)
  refine gen_world fun W hW => ?_
  have k4 : W.heap[w.heap.size]? = some (.cells #[.int .u32 (iw x)] 29 (0, 0)) := by subst hW; (repeat (first | (with_reducible assumption) | ((with_reducible refine blk_new' ?_ _); (simp; done)) | ((with_reducible refine blk_alloc ?_ _)) | ((with_reducible refine blk_far ?_ ?_ _); (simp <;> omega))))
  have HB : Below w.heap.size w W := by subst hW; (repeat (first | exact Below.refl _ _ | (refine bl_alloc ?_ _) | (refine bl_drewN ?_ _) | (refine bl_drew ?_) | (refine bl_call (by assumption) ?_) | (refine bl_set _ _ (by simp <;> omega) ?_) | assumption))
  have S : St1 (ArJ ga xs top es) F w W [w.heap.size] := S0.take (ArJ.foot ga xs top es) [w.heap.size] (by simp) HB
  clear hW HB S0
  obtain ⟨F1, ⟨gw, gl, sv, hF1, A⟩, _⟩ := S.ex
  go_upto_region 3 with (go_at_call 40; refine (Fits_c ga top i 1 _ _ _ A.ka (by omega)).mono ?_; rintro e w1 ⟨rfl, hw1⟩; rw [hf])
  clear A hF1
  replace S := S.grow (ArJ.foot ga xs top es) hw1
  replace k4 := grow_blk hw1 k4
  clear hw1
  have q4 := blk_lt k4
  obtain ⟨F1, ⟨gw, gl, sv, hF1, A⟩, hup⟩ := St1.upd S (by simpa using q4)
  have c2 := blk_cell A.ka 2
  go_upto_region 4 with (go_at_call 57; refine (LStore_c _ _ gl sv es A.kl A.own hn A.na.2.2).mono ?_; rintro e w2 ⟨rfl, hN⟩)
  obtain ⟨S2, h2⟩ := hup _ _ (A.noted hF1 hN)
  replace k4 := (h2 w.heap.size (by simp)).trans k4
  clear hN hF1 A hup h2 S c2 q4
  replace S2 := S2.less (own' := []) (by simp)
  obtain ⟨F1, ⟨gw, gl, sv, hF1, A⟩, hup⟩ := St1.upd S2 (by simp)
  have c0 := blk_cell A.ka 0
  have hix : (i : Int) < (xs.length : Int) := by omega
  refine wp_region_R 7 [0, 1, 5] (by kernel_rfl) (by kernel_rfl) (by kernel_rfl) (by kernel_rfl) ?_
  intro K_ ops_ hops_ hK
  replace hops_ := Lib.hid hops_
  apply Exists.intro
  intro R_ hb_
  simp only [↓baseR, ↓nthR_succ, ↓nthR_zero] at hb_
  simp only [List.take_succ_cons, List.take_zero, List.drop_succ_cons, List.drop_zero]
  repeat (first
    
    
    
    | (apply LexR_det (by rfl) (by rfl) (by rfl) (fun w1 hw1 hd1 => ?_) (fun _ hr_ => ?_); rotate_right 2; (go_simp; first | done | rfl | (rw [grow_cell hw1 c0]; focus ((try simp); first | done | rfl)) | (rw [blk_cell (grow_blk hw1 k4)]; focus ((try simp); first | done | rfl))))
    | (apply LexR_box (by rfl) (by rfl) (by rfl) (fun w1 hw1 hd1 => ?_) (fun _ hr_ => ?_); rotate_right 2; (go_simp; first | done | rfl))
    | (apply LexR_bs (t := 34) (e := 29) (z := .agg #[.int .u32 0]) (ho := rfl) (by rfl) (by rfl) Try.underlying34 (by kernel_rfl) (by decide) (by decide) (fun _ => ?_) (fun _ => ?_) (fun _ => ?_) (fun _ hr_ => ?_); rotate_right 4; (go_simp; rfl); (exact ⟨rfl, rfl, rfl⟩); (simp only [List.map_cons, List.map_nil, List.flatMap_cons, List.flatMap_nil, Value.cells, List.cons_append, List.nil_append, List.append_nil]; rfl)))
  apply LexR_end
  refine hK _ _ ?_
  clear hK K_
  repeat clear hr_
  clear hb_ R_ hops_ ops_
  intro w1 hw1 hf1
  apply tailR (fun _ => ?_) (fun _ => ?_) ?_
  rotate_right 2
  · simp only [putAll, Act.put, List.setIfInBounds_toArray, List.set_cons_succ, List.set_cons_zero]; first | done | rfl
  · simp only [List.drop_succ_cons, List.drop_zero]; first | done | rfl
  simp [allFacts, contOf, Exp.putAt, Exp.fact, Exp.fresh, Exp.blk] at hf1
  clear c0 hf1
  replace A := A.grow hw1
  have cx := blk_cell A.kw i
  rw [cw_at _ _ (by omega)] at cx
  have fx := blk_frozen A.kw i
  have S3 := (hup _ _ ((ArJ.put A hF1 i x).pre hw1)).1
  clear hup k4 hw1
  go_wp2
  exact bodyPost_ret (v := .bool true) (by simp [results, Try.results41, go_sem]) rfl ⟨rfl, St1.out S3⟩
theorem Take_c (ga : Nat) (xs : List W32) (top : Nat) (es : List Ev) (n : Nat) (w : World) (F : Nat → Prop) (hJ : ArJ ga xs top es w F) (hi : top + n ≤ xs.length) (hn : es.length ≤ 1000000) :
    Calls Try.prog 16 #[.pointer (some ⟨ga, 0, none⟩), .int .i64 (n : Int)] w fun e w' => e = .returned (.tuple #[.int .i64 (top : Int), .bool true]) ∧ Upd (ArJ ga xs (top + n) (es ++ [(4, (top : Int), (n : Int))])) F w w' := by
  have S0 := St1.start hJ
  have sm : top ≤ xs.length ∧ xs.length ≤ 1000000 := by obtain ⟨_, _, _, _, h⟩ := hJ; exact h.small
  obtain ⟨F1, ⟨gw, gl, sv, hF1, A⟩, _⟩ := S0.ex
  have c0 := blk_cell A.ka 0
  have c1 := blk_cell A.ka 1
  have h0 : ¬ (n : Int) < 0 := by omega
  have h0' : decide ((n : Int) < 0) = false := by simp
  have e1 : IntKind.i64.wrap ((xs.length : Int) - top) = (xs.length : Int) - top := IntWalk.i64_in _ (by omega)
  have h1 : ¬ ((xs.length : Int) - top < n) := by omega
  go_enter Try.func16, Try.ntmps16
  go_upto_region 1 with (fail)
  refine wp_region_R 20 [0, 1] (by kernel_rfl) (by kernel_rfl) (by kernel_rfl) (by kernel_rfl) ?_
  intro K_ ops_ hops_ hK
  replace hops_ := Lib.hid hops_
  apply Exists.intro
  intro R_ hb_
  simp only [↓baseR, ↓nthR_succ, ↓nthR_zero] at hb_
  simp only [List.take_succ_cons, List.take_zero, List.drop_succ_cons, List.drop_zero]
  repeat (first
    
    
    | (apply LexR_det (by rfl) (by rfl) (wanted_guard rfl (by rw [hops_.out]; rfl) rfl (by go_simp)) (fun w1 hw1 hd1 => ?_) (fun _ hr_ => ?_); rotate_right 2; (go_simp; first | done | rfl | (rw [grow_cell hw1 c0]; focus ((try simp); first | done | rfl)) | (rw [grow_cell hw1 c1]; focus ((try simp); first | done | rfl))))
    | (apply LexR_det (by rfl) (by rfl) (by rfl) (fun w1 hw1 hd1 => ?_) (fun _ hr_ => ?_); rotate_right 2; (go_simp; first | done | rfl | (rw [grow_cell hw1 c0]; focus ((try simp); first | done | rfl)) | (rw [grow_cell hw1 c1]; focus ((try simp); first | done | rfl))))
    | (apply LexR_box (by rfl) (by rfl) (by rfl) (fun w1 hw1 hd1 => ?_) (fun _ hr_ => ?_); rotate_right 2; (go_simp; first | done | rfl))
    | (apply LexR_bs (t := 34) (e := 29) (z := .agg #[.int .u32 0]) (ho := rfl) (by rfl) (by rfl) Try.underlying34 (by kernel_rfl) (by decide) (by decide) (fun _ => ?_) (fun _ => ?_) (fun _ => ?_) (fun _ hr_ => ?_); rotate_right 4; (go_simp; rfl); (exact ⟨rfl, rfl, rfl⟩); (simp only [List.map_cons, List.map_nil, List.flatMap_cons, List.flatMap_nil, Value.cells, List.cons_append, List.nil_append, List.append_nil]; rfl)))
  apply LexR_end
  refine hK _ _ ?_
  clear hK K_
  repeat clear hr_
  clear hb_ R_ hops_ ops_
  intro w1 hw1 hf1
  apply tailR (fun _ => ?_) (fun _ => ?_) ?_
  rotate_right 2
  · simp only [putAll, Act.put, List.setIfInBounds_toArray, List.set_cons_succ, List.set_cons_zero]; first | done | rfl
  · simp only [List.drop_succ_cons, List.drop_zero]; first | done | rfl
  simp [allFacts, contOf, Exp.putAt, Exp.fact, Exp.fresh, Exp.blk] at hf1
  clear c0 c1 hf1 A hF1
  replace S0 := S0.grow (ArJ.foot ga xs top es) hw1
  clear hw1
  obtain ⟨F1, ⟨gw, gl, sv, hF1, A⟩, hup⟩ := St1.upd S0 (by simp)
  have c1 := blk_cell A.ka 1
  have f1 := blk_frozen A.ka 1
  have e2 : IntKind.i64.wrap ((top : Int) + n) = ((top + n : Nat) : Int) := by rw [IntWalk.i64_in _ (by omega)]; omega
  go_upto_region 5 with (fail)
  refine gen_world fun W2 hW => ?_
  have S1 : St1 (ArJ ga xs (top + n) es) F w W2 [] := by subst hW; exact (hup _ _ (ArJ.top A hF1 (top + n) (by omega))).1
  clear hW c1 f1 A hF1 hup S0
  obtain ⟨F1, ⟨gw, gl, sv, hF1, A⟩, hup⟩ := St1.upd S1 (by simp)
  have c2 := blk_cell A.ka 2
  go_wp2_with (go_at_call 34; refine (LTake_c (top : Int) n (by omega) _ gl sv es A.kl A.own hn A.na.2.2).mono ?_; rintro e w2 ⟨rfl, hN⟩)
  have S2 := (hup _ _ (A.noted hF1 hN)).1
  exact bodyPost_ret (v := .tuple #[.int .i64 (top : Int), .bool true]) (by simp [results, Try.results16, go_sem]) rfl ⟨rfl, St1.out S2⟩
theorem ArJ.grow {ga : Nat} {xs : List W32} {top : Nat} {es : List Ev} {W W' : World} {F : Nat → Prop} (h : ArJ ga xs top es W F) (hb : Below W.heap.size W W') : ArJ ga xs top es W' F := by
  obtain ⟨gw, gl, sv, hF, A⟩ := h
  exact ⟨gw, gl, sv, hF, A.grow hb⟩
theorem Put1_c (ga : Nat) (xs : List W32) (top : Nat) (es : List Ev) (i gb cap : Nat) (x : W32) (w : World) (F : Nat → Prop) (hJ : ArJ ga xs top es w F) (hi : i < top) (hn : es.length ≤ 1000000) (hx : w.cell? ⟨gb, 0, none⟩ = some (.int .u32 (iw x))) :
    Calls Try.prog 21 #[.pointer (some ⟨ga, 0, none⟩), .int .i64 (i : Int), .slice (some ⟨gb, 0, none⟩) 1 cap] w fun e w' => e = .returned (.bool true) ∧ Upd (ArJ ga (xs.set i x) top (es ++ [(2, (i : Int), 0)])) F w w' := by
  have S0 := St1.start hJ
  have hf : fits top (i : Int) 1 = true := by unfold fits; simp; omega
  have sm : top ≤ xs.length ∧ xs.length ≤ 1000000 := by obtain ⟨_, _, _, _, h⟩ := hJ; exact h.small
  have e0 : IntKind.i64.wrap (i : Int) = i := IntWalk.i64_in _ (by omega)
  go_enter Try.func21, Try.ntmps21
  go_upto_region 1 with (fail)
  obtain ⟨F1, ⟨gw, gl, sv, hF1, A⟩, _⟩ := S0.ex
  go_upto_region 3 with (go_at_call 40; refine (Fits_c ga top i 1 _ _ _ A.ka (by omega)).mono ?_; rintro e w1 ⟨rfl, hw1⟩; rw [hf])
  clear A hF1
  replace S0 := S0.grow (ArJ.foot ga xs top es) hw1
  replace hx : w1.cell? ⟨gb, 0, none⟩ = some (.int .u32 (iw x)) := (grow_cell hw1 hx)
  clear hw1
  go_wp2_with fail
  have S00 := S0
  have hx0 := hx
  clear S0 hx
  go_loopw [17] (fun i17 wr => (i17 = .int .i64 0 ∧ St1 (ArJ ga xs top es) F w wr [] ∧ wr.cell? ⟨gb, 0, none⟩ = some (.int .u32 (iw x))) ∨ (i17 = .int .i64 1 ∧ St1 (ArJ ga (xs.set i x) top (es ++ [(2, (i : Int), 0)])) F w wr [])) (fun i17 _ => 2 - (intOf i17).toNat)
  case atStart => exact .inl ⟨rfl, S00, hx0⟩
  case round =>
    clear S00 hx0
    rcases hrel with ⟨rfl, S, hx⟩ | ⟨rfl, S⟩
    · obtain ⟨F1, hJ1, hup⟩ := St1.upd S (by simp)
      go_wp2_with (first | (go_at_call 20; refine (Of_c _ x rfl _).mono ?_; rintro e w2 ⟨rfl, hw2⟩) | (go_at_call 41; refine (Store_c ga xs top es i x _ F1 (hJ1.grow hw2) hi hn).mono ?_; rintro e w3 ⟨rfl, hU⟩))
      have S3 := (hup _ _ (hU.pre hw2)).1
      clear hup hU hw2 hJ1
      go_roundw
      case measure => simp [intOf] <;> omega
      exact .inr ⟨rfl, S3⟩
    · go_wp2
      exact bodyPost_ret (v := .bool true) (by simp [results, Try.results21, go_sem]) rfl ⟨rfl, St1.out S⟩
theorem Log_c (ga : Nat) (v0 v1 v2 : Value) (w : World) (hk : w.heap[ga]? = some (.cells #[v0, v1, v2] 71 (0, 0))) : Calls Try.prog 17 #[.pointer (some ⟨ga, 0, none⟩)] w fun e w' => e = .returned v2 ∧ Below w.heap.size w w' := by
  have c2 : w.cell? ⟨ga, 2, none⟩ = some v2 := blk_cell hk 2
  go_enter Try.func17, Try.ntmps17
  go_wp2
  exact bodyPost_ret (v := v2) (by simp [results, Try.results17, go_sem]) rfl ⟨rfl, by (repeat (first | exact Below.refl _ _ | (refine bl_alloc ?_ _) | (refine bl_drewN ?_ _) | (refine bl_drew ?_) | (refine bl_call (by assumption) ?_) | (refine bl_set _ _ (by simp <;> omega) ?_) | assumption))⟩
theorem New_c (n : Nat) (hn : n ≤ 1000000) (w : World) : Calls Try.prog 15 #[.int .i64 (n : Int)] w fun e w' => ∃ ga, e = .returned (.pointer (some ⟨ga, 0, none⟩)) ∧ ∃ F, ArJ ga (List.replicate n 0#32) 0 [] w' F ∧ (∀ b, F b → w.heap.size ≤ b) ∧ Below w.heap.size w w' := by
  have h1 : ¬ (n : Int) < 0 := by omega
  have h2 : (n : Int) ≤ 4194304 := by omega
  have h3 : ¬ (4194304 : Int) < n := by omega
  go_enter Try.func15, Try.ntmps15
  go_upto_region 1 with (fail)
  refine wp_region_R 5 [0] (by kernel_rfl) (by kernel_rfl) (by kernel_rfl) (by kernel_rfl) ?_
  intro K_ ops_ hops_ hK
  replace hops_ := Lib.hid hops_
  apply Exists.intro
  intro R_ hb_
  simp only [↓baseR, ↓nthR_succ, ↓nthR_zero] at hb_
  simp only [List.take_succ_cons, List.take_zero, List.drop_succ_cons, List.drop_zero]
  repeat (first
    
    
    | (apply LexR_makeN (t := 34) (e := 29) (z := .agg #[.int .u32 0]) (cell := .int .u32 0) (bytes := 8) (n := n) (L := (n : Int)) rfl (by rfl) (by rfl) Try.underlying34 (by kernel_rfl) rfl (by decide) (by exact hr_) (by exact hr_) rfl hn (fun _ hr_ => ?_); rotate_left 1) | (apply LexR_new (f := 29) (by rfl) (by rfl) (by rfl) Try.func29 (by kernel_rfl) (by kernel_rfl) (fun _ => ?_) (fun w1 hw1 hd1 => ?_) (fun _ hr_ => ?_); rotate_right 3; (go_simp; first | done | rfl); exact (NewLog_c w1))
    | (apply LexR_det (by rfl) (by rfl) (by rfl) (fun w1 hw1 hd1 => ?_) (fun _ hr_ => ?_); rotate_right 2; (go_simp; first | done | rfl ))
    | (apply LexR_box (by rfl) (by rfl) (by rfl) (fun w1 hw1 hd1 => ?_) (fun _ hr_ => ?_); rotate_right 2; (go_simp; first | done | rfl))
    | (apply LexR_bs (t := 34) (e := 29) (z := .agg #[.int .u32 0]) (ho := rfl) (by rfl) (by rfl) Try.underlying34 (by kernel_rfl) (by decide) (by decide) (fun _ => ?_) (fun _ => ?_) (fun _ => ?_) (fun _ hr_ => ?_); rotate_right 4; (go_simp; rfl); (exact ⟨rfl, rfl, rfl⟩); (simp only [List.map_cons, List.map_nil, List.flatMap_cons, List.flatMap_nil, Value.cells, List.cons_append, List.nil_append, List.append_nil]; rfl)))
  apply LexR_end
  refine hK _ _ ?_
  clear hK K_
  repeat clear hr_
  clear hb_ R_ hops_ ops_
  intro w1 hw1 hf1
  apply tailR (fun _ => ?_) (fun _ => ?_) ?_
  rotate_right 2
  · simp only [putAll, Act.put, List.setIfInBounds_toArray, List.set_cons_succ, List.set_cons_zero]; first | done | rfl
  · simp only [List.drop_succ_cons, List.drop_zero]; first | done | rfl
  simp [allFacts, contOf, Exp.putAt, Exp.fact, Exp.fresh, Exp.blk] at hf1
  rename_i g6 g7
  obtain ⟨k6, l6, n67, k7, l7⟩ := hf1
  replace k6 : w1.heap[g6]? = some (.cells (cw (List.replicate n 0#32)) 29 (0, 0)) := by
    rw [k6]
    simp only [cw, List.map_replicate, ← List.toArray_replicate]
    rfl
  have q6 := blk_lt k6
  have q7 := blk_lt k7
  go_wp2
  refine bodyPost_ret (v := .pointer (some ⟨w1.heap.size, 0, none⟩)) (by simp [results, Try.results15, go_sem]) rfl ⟨w1.heap.size, rfl, fun b => b = w1.heap.size ∨ b = g6 ∨ b = g7 ∨ (Value.slice none 0 0).ownBlock = some b, ⟨g6, g7, .slice none 0 0, fun _ => Iff.rfl, ?_⟩, ?_, ?_⟩
  · refine ⟨?_, blk_alloc k6 _, blk_alloc k7 _, World.ownsRow_nil _ _ _ _, ⟨by omega, by omega, n67⟩, by simp [Value.ownBlock], by simp, by simp; exact hn⟩
    simpa using blk_new w1 _
  · have := hw1.size
    intro b hb
    simp [Value.ownBlock] at hb
    omega
  · exact bl_alloc hw1 _
def eventsOf (w : World) (base : Nat) (sv : Value) (es : List Ev) : Prop := w.ownsRow base 58 3 sv es.length (evcs es)
theorem evcs_length (es : List Ev) : (evcs es).length = es.length * 3 := by
  induction es with
  | nil => rfl
  | cons e es ih => simp [evcs, evc] at ih ⊢; omega
theorem evcs_one (es : List Ev) : ∀ u ∈ evcs es, u.oneCell' = true := fun u hu => by
  unfold evcs at hu
  obtain ⟨e, _, he⟩ := List.mem_flatMap.1 hu
  simp only [evc, List.mem_cons, List.not_mem_nil, or_false] at he
  rcases he with rfl | rfl | rfl <;> rfl
theorem Events_c (gl : Nat) (sv : Value) (es : List Ev) (w : World) (hk : w.heap[gl]? = some (.cells #[sv] 74 (0, 0))) (hO : w.ownsRow 0 58 3 sv es.length (evcs es)) (hpos : 0 < es.length) (hn : es.length ≤ 1000000) :
    Calls Try.prog 22 #[.pointer (some ⟨gl, 0, none⟩)] w fun e w' => ∃ sv', e = .returned sv' ∧ eventsOf w' w.heap.size sv' es ∧ Below w.heap.size w w' := by
  have c0 : w.cell? ⟨gl, 0, none⟩ = some sv := blk_cell hk 0
  obtain ⟨i, hi, hz0, hz1, hz2⟩ := info_parts (P := Try.prog) (e := 58) (z := .agg #[.int .i64 0, .int .i64 0, .int .u32 0]) (size := 3) (bytes := 24) (by kernel_rfl)
  rcases hO.2 with ⟨_, q⟩ | ⟨g, cap, cur, rfl, hg, hkg, _, hm, _, ht⟩
  · omega
  have hl := evcs_length es
  go_enter Try.func22, Try.ntmps22
  have news : ∀ j u, (evcs es)[j]? = some u → w.cell? ((⟨g, 0, none⟩ : Addr).add j) = some u := fun j u hj => by
    refine World.news_of_block hkg j u ?_
    rw [← ht, List.getElem?_take] at hj
    split at hj
    · exact hj
    · cases hj
  go_wp2_with (refine wpList_append_lies _ rfl _ _ 55 rfl w.heap.size 58 i _ 3 24 Try.underlying55 hi hz0 hz1 hz2 rfl (by omega) (.slice none 0 0) 0 [] rfl (World.ownsRow_nil _ _ _ _) ⟨g, 0, none⟩ es.length cap (evcs es) rfl hl news (evcs_one es) hpos (by simp only [maxLen]; omega) (by omega) (Nat.le_refl _) w.heap.size rfl ?_; intro g2 cap2 w2 hO2 hg2 hb2 hlt)
  refine bodyPost_ret (v := .slice (some ⟨g2, 0, none⟩) es.length cap2) (by simp [results, Try.results22, go_sem]) rfl ⟨_, rfl, by simpa [eventsOf] using hO2, ?_⟩
  exact grown_below (Below.refl _ _) hg2 (Nat.le_refl _) (by simp [Value.ownBlock])
end Go.Proofs.Yteaaaekffnfmhaa

/- Maps with string keys and string elements: what a lookup and a store do; a vault's list of labels and texts. -/
import Derived.Test.YthnackakgglhbaaGreatVp
import Derived.MapKept
namespace Go.Proofs.YthnackakgglhbaaGreat
open Go.RowKit
set_option maxRecDepth 100000
set_option linter.unusedSimpArgs false
set_option linter.unusedVariables false
theorem beq_bytes_self (s : ByteArray) : (s == s) = true := by rw [Go.beq_toListBytes]; simp
theorem beq_bytes_ne {s s' : ByteArray} (h : s ≠ s') : (s == s') = false := by
  rw [Go.beq_toListBytes, ByteArray.toList_eq, ByteArray.toList_eq, beq_eq_false_iff_ne]
  exact fun q => h (ByteArray.ext (Array.ext' q))
section
variable {P : Program} {T K E : TypeId} {w : World} {M ck : Nat} {es : Array MapEntry} {s : ByteArray}
theorem lk_none {z : Value} (hT : P.underlying T = some (.map K E)) (hK : P.underlying K = some .string) (hz : (zeroValue E).run P w = .ok z w) (hb : w.heap[M]? = some (.map es ck)) (hf : Instr.findNow .string (.string s) es.toList 0 = some none) (ok : Bool) :
    (Instr.lookup T (.map (some M)) (.string s) ok).run P w = .ok (if ok then .tuple #[z, .bool false] else z) w := by
  cases ok <;> simp [Instr.lookup, run_underlying hT, MapKept.run_getObj_map hb, MapKept.run_checkKey hK (show MapKept.IsKey .string (.string s) by simp [MapKept.IsKey]), MapKept.run_findKey hK hf, hz, Result.andThen]
theorem lk_some {v : Value} {i : Nat} (hT : P.underlying T = some (.map K E)) (hK : P.underlying K = some .string) (hb : w.heap[M]? = some (.map es ck)) (hf : Instr.findNow .string (.string s) es.toList 0 = some (some (i, v))) (ok : Bool) :
    (Instr.lookup T (.map (some M)) (.string s) ok).run P w = .ok (if ok then .tuple #[v, .bool true] else v) w := by
  cases ok <;> simp [Instr.lookup, run_underlying hT, MapKept.run_getObj_map hb, MapKept.run_checkKey hK (show MapKept.IsKey .string (.string s) by simp [MapKept.IsKey]), MapKept.run_findKey hK hf, Result.andThen]
/-- A world with another map. -/
def setM (w : World) (M : Nat) (es : Array MapEntry) (ck : Nat) : World := { w with heap := w.heap.setIfInBounds M (.map es ck) }
theorem up_new {v : Value} (hT : P.underlying T = some (.map K E)) (hK : P.underlying K = some .string) (hb : w.heap[M]? = some (.map es ck)) (hf : Instr.findNow .string (.string s) es.toList 0 = some none) :
    (Instr.mapUpdate T (.map (some M)) (.string s) v).run P w = .ok () (setM w M (es.push { key := .string s, val := v, born := ck }) (ck + 1)) := by
  simp [Instr.mapUpdate, run_underlying hT, MapKept.run_getObj_map hb, MapKept.run_checkKey hK (show MapKept.IsKey .string (.string s) by simp [MapKept.IsKey]), MapKept.run_findKey hK hf, MapKept.run_setObj_map _ hb, Result.andThen, setM]
theorem up_old {v u : Value} {i : Nat} {e : MapEntry} (hT : P.underlying T = some (.map K E)) (hK : P.underlying K = some .string) (hb : w.heap[M]? = some (.map es ck)) (hf : Instr.findNow .string (.string s) es.toList 0 = some (some (i, u))) (hi : es[i]? = some e) (he : e.key = .string s) :
    (Instr.mapUpdate T (.map (some M)) (.string s) v).run P w = .ok () (setM w M (es.modify i fun e => { e with key := .string s, val := v }) ck) := by
  simp [Instr.mapUpdate, run_underlying hT, MapKept.run_getObj_map hb, MapKept.run_checkKey hK (show MapKept.IsKey .string (.string s) by simp [MapKept.IsKey]), MapKept.run_findKey hK hf, hi, he, Instr.keyThatStays, Instr.sameBits, beq_bytes_self, MapKept.run_setObj_map _ hb, Result.andThen, setM]
theorem setM_at (hb : w.heap[M]? = some (.map es ck)) (es' : Array MapEntry) (ck' : Nat) : (setM w M es' ck').heap[M]? = some (.map es' ck') := (MapKept.heap_set hb).1
theorem setM_far {g : Nat} {o : Obj} (hg : w.heap[g]? = some o) (h : g ≠ M) (es' : Array MapEntry) (ck' : Nat) : (setM w M es' ck').heap[g]? = some o := by
  have : (setM w M es' ck').heap = w.heap.setIfInBounds M (.map es' ck') := rfl
  rw [this, Array.getElem?_setIfInBounds_ne (Ne.symm h)]
  exact hg
theorem setM_below {B : Nat} {w0 : World} (hB : B ≤ M) (h : Below B w0 w) (es' : Array MapEntry) (ck' : Nat) : Below B w0 (setM w M es' ck') := by
  refine ⟨h.os, h.tape, h.output, ?_, fun b hb => ?_⟩
  · have : (setM w M es' ck').heap.size = w.heap.size := by simp [setM]
    rw [this]; exact h.size
  · have : (setM w M es' ck').heap = w.heap.setIfInBounds M (.map es' ck') := rfl
    rw [this, Array.getElem?_setIfInBounds_ne (by omega)]
    exact h.block b hb
end
def ent (k v : ByteArray) (b : Nat) : MapEntry := { key := .string k, val := .string v, born := b }
abbrev KV := List (ByteArray × ByteArray)
/-- A map's entries. -/
def ents (b : Nat) : KV → List MapEntry
  | [] => []
  | (k, v) :: r => ent k v b :: ents (b + 1) r
def getK (s : ByteArray) : KV → Option ByteArray
  | [] => none
  | (k, v) :: r => if s = k then some v else getK s r
def putK (s v : ByteArray) : KV → KV
  | [] => [(s, v)]
  | (k, u) :: r => if s = k then (s, v) :: r else (k, u) :: putK s v r
theorem ents_length : ∀ (b : Nat) (L : KV), (ents b L).length = L.length
  | _, [] => rfl
  | b, (k, v) :: r => by simp [ents, ents_length (b + 1) r]
theorem find_no (s : ByteArray) : ∀ (L : KV) (b i : Nat), getK s L = none → Instr.findNow .string (.string s) (ents b L) i = some none
  | [], _, _, _ => rfl
  | (k, v) :: r, b, i, h => by
    unfold getK at h
    by_cases hk : s = k
    · rw [if_pos hk] at h; cases h
    · rw [if_neg hk] at h
      have hb : (s == k) = false := beq_bytes_ne hk
      simp [ents, ent, Instr.findNow, Instr.sameNow, hb]
      exact find_no s r (b + 1) (i + 1) h
theorem find_yes (s x : ByteArray) : ∀ (L : KV) (b i : Nat) (v : ByteArray), getK s L = some v → ∃ j, Instr.findNow .string (.string s) (ents b L) i = some (some (i + j, .string v)) ∧ (ents b L)[j]? = some (ent s v (b + j)) ∧ ents b (putK s x L) = (ents b L).modify j (fun e => { e with key := .string s, val := .string x }) ∧ (putK s x L).length = L.length
  | [], _, _, _, h => by cases h
  | (k, v) :: r, b, i, u, h => by
    unfold getK at h
    by_cases hk : s = k
    · rw [if_pos hk] at h
      obtain rfl := Option.some.inj h
      subst hk
      refine ⟨0, ?_, rfl, ?_, ?_⟩
      · simp [ents, ent, Instr.findNow, Instr.sameNow, beq_bytes_self]
      · simp [putK, ents, ent]
      · simp [putK]
    · rw [if_neg hk] at h
      have hb : (s == k) = false := beq_bytes_ne hk
      obtain ⟨j, h1, h2, h3, h4⟩ := find_yes s x r (b + 1) (i + 1) u h
      refine ⟨j + 1, ?_, ?_, ?_, ?_⟩
      · simp [ents, ent, Instr.findNow, Instr.sameNow, hb]
        rw [h1]
        congr 3
        omega
      · simp only [ents, List.getElem?_cons_succ]
        rw [h2]
        congr 2
        omega
      · simp only [putK, if_neg hk, ents, h3, List.modify_succ_cons]
      · simp [putK, if_neg hk, h4]
theorem put_new (s x : ByteArray) : ∀ (L : KV) (b : Nat), getK s L = none → ents b (putK s x L) = ents b L ++ [ent s x (b + L.length)] ∧ (putK s x L).length = L.length + 1
  | [], _, _ => ⟨rfl, rfl⟩
  | (k, v) :: r, b, h => by
    unfold getK at h
    by_cases hk : s = k
    · rw [if_pos hk] at h; cases h
    · rw [if_neg hk] at h
      obtain ⟨h1, h2⟩ := put_new s x r (b + 1) h
      refine ⟨?_, by simp [putK, if_neg hk, h2]⟩
      simp only [putK, if_neg hk, ents, h1, List.cons_append]
      congr 4
      simp only [List.length_cons]
      omega
/-- A block is a map of these labels and texts. -/
def MapIs (w : World) (M : Nat) (L : KV) : Prop := w.heap[M]? = some (.map (ents 0 L).toArray L.length)
section
variable {P : Program} {T K E : TypeId} {w : World} {M : Nat} {L : KV} {s : ByteArray}
theorem map_get (hT : P.underlying T = some (.map K E)) (hK : P.underlying K = some .string) (hz : (zeroValue E).run P w = .ok (.string ⟨#[]⟩) w) (hb : MapIs w M L) (ok : Bool) :
    (Instr.lookup T (.map (some M)) (.string s) ok).run P w = .ok (if ok then .tuple #[.string ((getK s L).getD ⟨#[]⟩), .bool (getK s L).isSome] else .string ((getK s L).getD ⟨#[]⟩)) w := by
  cases hg : getK s L with
  | none =>
    have := lk_none (P := P) (s := s) hT hK hz hb (by rw [List.toList_toArray]; exact find_no s L 0 0 hg) ok
    simpa using this
  | some v =>
    obtain ⟨j, h1, _⟩ := find_yes s s L 0 0 v hg
    have := lk_some (P := P) (s := s) hT hK hb (by rw [List.toList_toArray]; exact h1) ok
    simpa using this
theorem map_put (hT : P.underlying T = some (.map K E)) (hK : P.underlying K = some .string) (hb : MapIs w M L) (v : ByteArray) :
    ∃ es ck, (Instr.mapUpdate T (.map (some M)) (.string s) (.string v)).run P w = .ok () (setM w M es ck) ∧ MapIs (setM w M es ck) M (putK s v L) := by
  cases hg : getK s L with
  | none =>
    have hu := up_new (P := P) (s := s) (v := .string v) hT hK hb (by rw [List.toList_toArray]; exact find_no s L 0 0 hg)
    obtain ⟨h1, h2⟩ := put_new s v L 0 hg
    refine ⟨_, _, hu, ?_⟩
    unfold MapIs
    rw [setM_at hb, h1, h2]
    simp [ent]
  | some u =>
    obtain ⟨j, h1, h2, h3, h4⟩ := find_yes s v L 0 0 u hg
    rw [Nat.zero_add] at h1 h2
    have hu := up_old (P := P) (s := s) (v := .string v) hT hK hb (by rw [List.toList_toArray]; exact h1) (by rw [List.getElem?_toArray]; exact h2) rfl
    refine ⟨_, _, hu, ?_⟩
    unfold MapIs
    rw [setM_at hb, h3, h4]
    simp
end
theorem MapIs.grow {w w' : World} {M : Nat} {L : KV} (h : MapIs w M L) (hb : Below w.heap.size w w') : MapIs w' M L := grow_blk hb h
theorem MapIs.far {w : World} {M M' : Nat} {L : KV} {es : Array MapEntry} {ck : Nat} (h : MapIs w M L) (hne : M ≠ M') : MapIs (setM w M' es ck) M L := setM_far h hne es ck
/-! ### The list of labels and texts -/
def keysK (L : KV) : List ByteArray := L.map (·.1)
def mapV (f : ByteArray → ByteArray → ByteArray) (L : KV) : KV := L.map fun p => (p.1, f p.1 p.2)
theorem get_mapV (f : ByteArray → ByteArray → ByteArray) (s : ByteArray) : ∀ L : KV, getK s (mapV f L) = (getK s L).map (f s)
  | [] => rfl
  | (k, v) :: r => by
    show getK s ((k, f k v) :: mapV f r) = _
    unfold getK
    by_cases h : s = k
    · rw [if_pos h, if_pos h, h]; rfl
    · rw [if_neg h, if_neg h]; exact get_mapV f s r
theorem put_mapV (f : ByteArray → ByteArray → ByteArray) (s t : ByteArray) : ∀ L : KV, putK s (f s t) (mapV f L) = mapV f (putK s t L)
  | [] => rfl
  | (k, v) :: r => by
    show putK s (f s t) ((k, f k v) :: mapV f r) = _
    unfold putK
    by_cases h : s = k
    · rw [if_pos h, if_pos h]; rfl
    · rw [if_neg h, if_neg h]
      show _ = (k, f k v) :: mapV f (putK s t r)
      rw [put_mapV f s t r]
theorem get_put (s v : ByteArray) : ∀ L : KV, getK s (putK s v L) = some v
  | [] => by simp [putK, getK]
  | (k, u) :: r => by
    unfold putK
    by_cases h : s = k
    · rw [if_pos h]; simp [getK]
    · rw [if_neg h]; unfold getK; rw [if_neg h]; exact get_put s v r
open Classical in
theorem keys_put (s v : ByteArray) : ∀ L : KV, keysK (putK s v L) = if s ∈ keysK L then keysK L else keysK L ++ [s]
  | [] => by rw [if_neg (by simp [keysK])]; rfl
  | (k, u) :: r => by
    unfold putK
    by_cases h : s = k
    · subst h
      rw [if_pos rfl, if_pos (by simp [keysK])]; rfl
    · rw [if_neg h]
      show k :: keysK (putK s v r) = if s ∈ k :: keysK r then k :: keysK r else k :: keysK r ++ [s]
      rw [keys_put s v r]
      by_cases h2 : s ∈ keysK r
      · rw [if_pos h2, if_pos (List.mem_cons_of_mem _ h2)]
      · rw [if_neg h2, if_neg (by simp [h, h2])]; rfl
theorem nodup_put (s v : ByteArray) (L : KV) (h : (keysK L).Nodup) : (keysK (putK s v L)).Nodup := by
  rw [keys_put]
  by_cases hn : s ∈ keysK L
  · rw [if_pos hn]; exact h
  · rw [if_neg hn]
    rw [List.nodup_append]
    exact ⟨h, by simp, fun a ha b hb => by rw [List.mem_singleton] at hb; subst hb; exact fun e => hn (e ▸ ha)⟩
theorem get_none (s : ByteArray) : ∀ L : KV, getK s L = none ↔ s ∉ keysK L
  | [] => by simp [getK, keysK]
  | (k, v) :: r => by
    unfold getK
    by_cases h : s = k
    · rw [if_pos h]; simp [keysK, h]
    · rw [if_neg h, get_none s r]
      simp [keysK, h]
theorem all_put {p : ByteArray × ByteArray → Prop} (s v : ByteArray) (hs : p (s, v)) : ∀ L : KV, (∀ x ∈ L, p x) → ∀ x ∈ putK s v L, p x
  | [], _, x, hx => by rw [List.mem_singleton.1 hx]; exact hs
  | (k, u) :: r, h, x, hx => by
    unfold putK at hx
    by_cases hk : s = k
    · rw [if_pos hk] at hx
      rcases List.mem_cons.1 hx with rfl | hx
      · exact hs
      · exact h x (List.mem_cons_of_mem _ hx)
    · rw [if_neg hk] at hx
      rcases List.mem_cons.1 hx with rfl | hx
      · exact h _ (by simp)
      · exact all_put s v hs r (fun y hy => h y (List.mem_cons_of_mem _ hy)) x hx
theorem get_mem (s v : ByteArray) : ∀ L : KV, getK s L = some v → (s, v) ∈ L
  | [], h => by cases h
  | (k, u) :: r, h => by
    unfold getK at h
    by_cases hk : s = k
    · rw [if_pos hk] at h
      rw [hk, Option.some.inj h]; simp
    · rw [if_neg hk] at h
      exact List.mem_cons_of_mem _ (get_mem s v r h)
open Classical in
noncomputable def mixF (k1 k2 : ByteArray) (done : List ByteArray) (l t : ByteArray) : ByteArray := if l ∈ done then sealS k2 l t else sealS k1 l t
theorem mix_congr (k1 k2 : ByteArray) {d1 d2 : List ByteArray} {l : ByteArray} (t : ByteArray) (h : l ∈ d1 ↔ l ∈ d2) : mixF k1 k2 d1 l t = mixF k1 k2 d2 l t := by
  unfold mixF
  by_cases q : l ∈ d1
  · rw [if_pos q, if_pos (h.1 q)]
  · rw [if_neg q, if_neg (fun x => q (h.2 x))]
theorem mix_step (k1 k2 : ByteArray) (done : List ByteArray) (s t : ByteArray) (L : KV) (h : getK s L = some t) (hn : (keysK L).Nodup) : putK s (sealS k2 s t) (mapV (mixF k1 k2 done) L) = mapV (mixF k1 k2 (done ++ [s])) L := by
  have put : ∀ L : KV, getK s L = some t → (keysK L).Nodup → putK s (sealS k2 s t) (mapV (mixF k1 k2 done) L) = mapV (mixF k1 k2 (done ++ [s])) L := by
    intro L
    induction L with
    | nil => intro h; cases h
    | cons x r ih =>
      obtain ⟨k, v⟩ := x
      intro h hn
      have hn2 : k ∉ keysK r ∧ (keysK r).Nodup := List.nodup_cons.1 hn
      show putK s (sealS k2 s t) ((k, mixF k1 k2 done k v) :: mapV (mixF k1 k2 done) r) = (k, mixF k1 k2 (done ++ [s]) k v) :: mapV (mixF k1 k2 (done ++ [s])) r
      unfold getK at h
      unfold putK
      by_cases hk : s = k
      · rw [if_pos hk] at h
        obtain rfl := Option.some.inj h
        subst hk
        rw [if_pos rfl]
        have e1 : mixF k1 k2 (done ++ [s]) s v = sealS k2 s v := by unfold mixF; rw [if_pos (by simp)]
        rw [e1]
        congr 1
        unfold mapV
        apply List.map_congr_left
        rintro ⟨a, b⟩ hab
        have hne : a ≠ s := fun e => hn2.1 (by rw [← e]; exact List.mem_map_of_mem (f := (·.1)) hab)
        exact congrArg (fun z => (a, z)) (mix_congr k1 k2 b (by simp [hne]))
      · rw [if_neg hk] at h ⊢
        rw [ih h hn2.2]
        congr 2
        have : k ≠ s := fun e => hk e.symm
        exact mix_congr k1 k2 v (by simp [this])
  exact put L h hn
theorem mix_none (k1 k2 : ByteArray) (L : KV) : mapV (mixF k1 k2 []) L = mapV (sealS k1) L := by
  unfold mapV
  apply List.map_congr_left
  rintro ⟨a, b⟩ _
  simp [mixF]
theorem mix_all (k1 k2 : ByteArray) (L : KV) (done : List ByteArray) (h : ∀ s ∈ keysK L, s ∈ done) : mapV (mixF k1 k2 done) L = mapV (sealS k2) L := by
  unfold mapV
  apply List.map_congr_left
  rintro ⟨a, b⟩ hab
  have : a ∈ done := h a (List.mem_map_of_mem (f := (·.1)) hab)
  simp [mixF, this]
/-- What is opened is sealed as it was. -/
theorem seal_open (k l s t : ByteArray) (h : openS k l s = some t) : sealS k l t = s ∧ t.size + 16 = s.size ∧ t.size ≤ 2000 := by
  unfold openS at h
  split at h
  · cases h
  · rename_i hc
    have h16 : 16 ≤ s.size := by
      rcases Nat.lt_or_ge s.size 16 with q | q
      · exact absurd (.inl q) hc
      · exact q
    have h20 : s.size - 16 ≤ 2000 := by
      rcases Nat.lt_or_ge 2000 (s.size - 16) with q | q
      · exact absurd (.inr (.inl q)) hc
      · exact q
    have hs : sumS k l (s.extract 0 (s.size - 16)) = s.extract (s.size - 16) s.size := by
      apply Classical.byContradiction
      intro q
      exact hc (.inr (.inr q))
    obtain rfl := (Option.some.inj h).symm
    have hz : (s.extract 0 (s.size - 16)).size = s.size - 16 := by rw [ByteArray.size_extract]; omega
    refine ⟨?_, by rw [outS_size, hz]; omega, by rw [outS_size, hz]; exact h20⟩
    unfold sealS
    rw [outS_back, hs]
    apply ByteArray.ext
    apply Array.ext'
    simp only [ByteArray.data_append, ByteArray.data_extract, Array.toList_append, Array.toList_extract]
    simp
    have e : List.take (s.size - (s.size - 16)) (List.drop (s.size - 16) s.data.toList) = List.drop (s.size - 16) s.data.toList := List.take_of_length_le (by rw [List.length_drop, Array.length_toList]; exact Nat.le_refl _)
    rw [e, List.take_append_drop]
end Go.Proofs.YthnackakgglhbaaGreat

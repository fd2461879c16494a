/- Contract of sha.Sum; the law's awake. -/
import Derived.Test.YthnackakgglhbaaGreatBy
import Derived.Test.YthnackakgglhbaaGreatLg
import Derived.Laws.BytesArg
namespace Go.Proofs.YthnackakgglhbaaGreat
open Go.RowKit
set_option maxRecDepth 100000
set_option linter.unusedSimpArgs false
set_option linter.unusedVariables false
attribute [local go_sem] evR_tmp evR_const evR_global evR_func
/-- A text's bytes as words. -/
def textw (s : ByteArray) : List W32 := s.data.toList.map fun b => kw b.toNat
theorem textw_length (s : ByteArray) : (textw s).length = s.size := by
  rw [textw, List.length_map, Array.length_toList]; rfl
theorem text_at (s : ByteArray) (n : Nat) (h : n < s.size) : IntKind.u32.wrap ((s[n].toNat : Nat) : Int) = iw (at32 (textw s) n) := by
  have e : at32 (textw s) n = kw s[n].toNat := by
    have q : (textw s)[n]? = some (kw s[n].toNat) := by
      have h' : n < s.data.size := h
      simp only [textw, List.getElem?_map, Array.getElem?_toList, Array.getElem?_eq_getElem h', Option.map_some]
      rfl
    unfold at32
    rw [List.getD_eq_getElem?_getD, q]; rfl
  have hb := s[n].toNat_lt
  rw [e, ← kw_iw _ (by omega), IntKind.wrap_u32']
  omega
def byteOf (x : W32) : UInt8 := UInt8.ofNat x.toNat
/-- Words as bytes. -/
def bytesOf (xs : List W32) : ByteArray := ⟨(xs.map byteOf).toArray⟩
def byteN (x : W32) : Int := ((byteOf x).toNat : Int)
theorem byteN_eq (x : W32) : byteN x = iw x % 256 := by
  unfold byteN byteOf iw
  rw [UInt8.toNat_ofNat']; omega
theorem wrap_byte (x : W32) : IntKind.u8.wrap (iw x) = byteN x := by rw [byteN_eq, IntKind.wrap_u8']
def byv (x : W32) : Value := .int .u8 (byteN x)
def sumText (s : ByteArray) : ByteArray := bytesOf (bytesw (joinw (textw s)))
theorem madeCells_one (c : Value) (n : Nat) : madeCells #[c] n = Array.replicate n c := by
  apply Array.ext'
  rw [toList_madeCells_one]; simp
theorem bytesw_length (hs : List W32) (h : hs.length = 8) : (bytesw hs).length = 32 := by
  unfold bytesw; rw [flat4, h]
theorem Bytes2_c (hs : List W32) (hh : hs.length = 8) (w : World) : Calls Tryz.prog 45 #[.agg (cw hs)] w fun e w' => ∃ g cap, e = .returned (.slice (some ⟨g, 0, none⟩) 32 cap) ∧ w.heap.size ≤ g ∧ Row w' g 0 (bytesw hs) ∧ Below w.heap.size w w' := by
  refine (Bytes_c hs hh w).mono ?_
  rintro e w' ⟨sv, rfl, HO, HB⟩
  have HL := bytesw_length hs hh
  obtain ⟨g, cap, rfl, hg, _⟩ := World.ownsRow.form HO (by omega)
  rcases HO.sliceOf with ⟨q, _⟩ | ⟨gb, off, cp, hv, _, hr⟩
  · rw [q] at HL; cases HL
  · simp only [Value.slice.injEq, Option.some.injEq, Addr.mk.injEq] at hv
    obtain ⟨⟨rfl, rfl, _⟩, _, rfl⟩ := hv
    exact ⟨g, cap, by rw [HL], hg, hr, HB⟩
section
variable {P : Program}
theorem wpList_makeN {ops : Array Oper} {rest : List Oper} {o : Oper} {a : Act} {w : World} {Q : Exit → Act → World → Prop} (hg : o.guard = none) (l c : Operand) (t : TypeId) (hop : o.op = Op.makeSlice t l c)
    (e : TypeId) (z cell : Value) (bytes : Nat) (ht : P.underlying t = some (.slice e)) (hinfo : (P.info? e).map (fun i => (i.zero, i.size, i.bytes)) = some (some z, 1, bytes)) (hz : z.cells = #[cell]) (hbb : bytes ≤ 1000)
    (L : Int) (n : Nat) (hl : a.eval l = .int .i64 L) (hc : a.eval c = .int .i64 L) (hL : L = (n : Int)) (hn : n ≤ 1000000)
    (hK : wpList P ops Q rest (a.put o.dst (.slice (some ⟨w.heap.size, 0, none⟩) n n)) (w.alloc (.cells (Array.replicate n cell) e))) : wpList P ops Q (o :: rest) a w := by
  obtain ⟨i, hi, hz0, hz1, hz2⟩ := info_parts hinfo
  subst hL
  have hb : i.bytes * n ≤ 281474976710656 := by rw [hz2]; have := Nat.mul_le_mul hbb hn; omega
  refine wpList_plain hg fun K hK' => ?_
  have hb2 : (i.bytes : Int) * (n : Int) ≤ 281474976710656 := by
    have : ((i.bytes * n : Nat) : Int) ≤ 281474976710656 := by omega
    rwa [Int.natCast_mul] at this
  have hr := run_make (P := P) w t e i z ht hi hz0 .i64 .i64 (n : Int) (n : Int) (by omega) (Int.le_refl _) hb2 (by omega)
  simp only [Int.toNat_natCast, hz1, Nat.mul_one, hz, madeCells_one] at hr
  unfold Oper.wp
  simp [execOp, hop, hl, hc, hr, Result.andThen]
  exact hK' _ _ hK
end
theorem run_convert_bytesR {P : Program} {R : Nat → Value} {o : Oper} {w : World} {src dst e : TypeId} {x : Operand} {b off len cap : Nat} (ho : o.op = .convert src dst x) (hx : evR R x = .slice (some ⟨b, off, none⟩) len cap)
    (hs : P.underlying src = some (.slice e)) (he : P.underlying e = some (.int .u8)) (hd : P.underlying dst = some .string) (xs : List Int) (hlen : xs.length = len) (hcell : ∀ i, i < len → w.cell? ⟨b, off + i, none⟩ = some (.int .u8 (xs.getD i 0))) :
    (execOp (evR R) o).run P w = .ok (.value (.string (strOfNums xs))) w := by
  unfold execOp
  simp only [ho, hx, Sem.run_bind, run_convert_bytes_arg w src e hs he b off len cap xs hlen hcell dst hd, Result.andThen_ok]
  rfl
theorem strOfNums_bytes (bw : List W32) : strOfNums (bw.map byteN) = bytesOf bw := by
  unfold strOfNums bytesOf
  rw [List.map_map]
  congr 2
  apply List.map_congr_left
  intro x _
  simp [byteN]
end Go.Proofs.YthnackakgglhbaaGreat

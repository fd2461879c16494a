/- Plain laws on words of 32 bits as the walk spells them. No program. -/
import Derived.Laws.BitsAllLaws
import Derived.WalkKit
import Derived.Below
import Derived.Laws.Rows
import Derived.OwnWalk
import Derived.Deep.Draws
namespace Go.Proofs.YthnackakgglhbaaGreat
open Go.RowKit

abbrev W32 := BitVec 32
/-- A word as the model's number. -/
def iw (x : W32) : Int := (x.toNat : Int)
/-- A number as a word. -/
def kw (n : Nat) : W32 := BitVec.ofNat 32 n
theorem iw_lo (x : W32) : 0 ≤ iw x := by unfold iw; omega
theorem iw_hi (x : W32) : iw x < 4294967296 := by unfold iw; have := x.isLt; omega
theorem iw_inj {x y : W32} (h : iw x = iw y) : x = y := by unfold iw at h; exact BitVec.eq_of_toNat_eq (by omega)
theorem iw_eq (x y : W32) : (iw x == iw y) = (x == y) := by
  rw [Bool.eq_iff_iff, beq_iff_eq, beq_iff_eq]; exact ⟨iw_inj, fun h => by rw [h]⟩
theorem kw_iw (n : Nat) (h : n < 4294967296) : (n : Int) = iw (kw n) := by
  unfold iw kw; rw [BitVec.toNat_ofNat]; omega
theorem of_iw (v : Int) (h0 : 0 ≤ v) (h1 : v < 4294967296) : v = iw (kw v.toNat) := by
  rw [← kw_iw _ (by omega)]; omega
theorem xor_iw (x y : W32) : bits .xor .u32 (iw x) (iw y) = iw (x ^^^ y) := by
  unfold iw; rw [u32_xor_nat _ _ x.isLt y.isLt, BitVec.toNat_xor]
theorem and_iw (x y : W32) : bits .and .u32 (iw x) (iw y) = iw (x &&& y) := by
  unfold iw; rw [u32_and_nat _ _ x.isLt y.isLt, BitVec.toNat_and]
theorem or_iw (x y : W32) : bits .or .u32 (iw x) (iw y) = iw (x ||| y) := by
  unfold iw; rw [u32_or_nat _ _ x.isLt y.isLt, BitVec.toNat_or]
theorem not_iw (x : W32) : bits .xor .u32 IntKind.u32.max (iw x) = iw (~~~x) := by
  have e : IntKind.u32.max = ((4294967295 : Nat) : Int) := by decide
  unfold iw; rw [e, u32_xor_nat _ _ (by omega) x.isLt]
  rw [← BitVec.xor_allOnes, BitVec.xor_comm, BitVec.toNat_xor]; rfl
theorem not_iw' (x : W32) : bits .xor .u32 4294967295 (iw x) = iw (~~~x) := by
  have e : (4294967295 : Int) = IntKind.u32.max := by decide
  rw [e, not_iw]
theorem add_iw (x y : W32) : (iw x + iw y) % 4294967296 = iw (x + y) := by unfold iw; rw [BitVec.toNat_add]; omega
theorem sub_iw (x y : W32) : (iw x - iw y) % 4294967296 = iw (x - y) := by unfold iw; rw [BitVec.toNat_sub]; have := x.isLt; have := y.isLt; omega
theorem neg_iw (x : W32) : -iw x % 4294967296 = iw (-x) := by unfold iw; rw [BitVec.toNat_neg]; have := x.isLt; omega
theorem shl_iw (x : W32) (n : Nat) : iw x * 2 ^ n % 4294967296 = iw (x <<< n) := by
  unfold iw; rw [BitVec.toNat_shiftLeft, Nat.shiftLeft_eq, Int.natCast_emod, Int.natCast_mul, Int.natCast_pow]; rfl
theorem shr_iw (x : W32) (n : Nat) : iw x / 2 ^ n = iw (x >>> n) := by
  unfold iw; rw [BitVec.toNat_ushiftRight, Nat.shiftRight_eq_div_pow, Int.natCast_ediv, Int.natCast_pow]; rfl

theorem and_pow (n : Int) (k : Nat) (hk : k ≤ 63) : bits .and .i64 n ((2 ^ k - 1 : Nat) : Int) = n % ((2 ^ k : Nat) : Int) := by
  have hp : (2 : Nat) ^ k ≤ 2 ^ 63 := Nat.pow_le_pow_right (by decide) hk
  have h0 : 0 < (2 : Nat) ^ k := Nat.pow_pos (by decide)
  have e : (BitVec.ofInt 64 ((2 ^ k - 1 : Nat) : Int)).toNat = 2 ^ k - 1 := by
    rw [BitVec.toNat_ofInt, ← Int.natCast_emod, Int.toNat_natCast, Nat.mod_eq_of_lt (by omega)]
  have key : (BitVec.ofInt 64 n &&& BitVec.ofInt 64 ((2 ^ k - 1 : Nat) : Int)).toNat = (n % ((2 ^ 64 : Nat) : Int)).toNat % 2 ^ k := by
    rw [BitVec.toNat_and, BitVec.toNat_ofInt, e, Nat.and_two_pow_sub_one_eq_mod]
  show IntKind.i64.wrap ((BitVec.ofInt 64 n &&& BitVec.ofInt 64 ((2 ^ k - 1 : Nat) : Int)).toNat : Nat) = _
  rw [key, IntKind.wrap_i64]
  have d : (((2 : Nat) ^ k : Nat) : Int) ∣ (((2 : Nat) ^ 64 : Nat) : Int) := Int.natCast_dvd_natCast.2 (Nat.pow_dvd_pow 2 (by omega))
  have m : ((n % ((2 ^ 64 : Nat) : Int)).toNat : Int) = n % ((2 ^ 64 : Nat) : Int) := Int.toNat_of_nonneg (Int.emod_nonneg _ (by decide))
  have q : (((n % ((2 ^ 64 : Nat) : Int)).toNat % 2 ^ k : Nat) : Int) = n % ((2 ^ k : Nat) : Int) := by
    rw [Int.natCast_emod, m, Int.emod_emod_of_dvd _ d]
  rw [q]
  have l0 : 0 ≤ n % ((2 ^ k : Nat) : Int) := Int.emod_nonneg _ (by omega)
  have l1 : n % ((2 ^ k : Nat) : Int) < ((2 ^ k : Nat) : Int) := Int.emod_lt_of_pos _ (by omega)
  have hp' : ((2 ^ k : Nat) : Int) ≤ 9223372036854775808 := by
    have : (2 : Nat) ^ 63 = 9223372036854775808 := by decide
    omega
  omega
theorem and31 (n : Int) (h0 : 0 ≤ n) (h1 : n ≤ 31) : bits .and .i64 n 31 = n := by
  have h := and_pow n 5 (by decide)
  rw [show (((2 : Nat) ^ 5 - 1 : Nat) : Int) = 31 from rfl, show (((2 : Nat) ^ 5 : Nat) : Int) = 32 from rfl] at h
  rw [h]; omega
/-- The highest bit. -/
def hib (x : W32) : Bool := decide (2147483648 ≤ x.toNat)
/-- Below, as numbers. -/
def ltw (x y : W32) : Bool := decide (x.toNat < y.toNat)
/-- The same word. -/
def eqw (x y : W32) : Bool := x == y
/-- All bits, or none. -/
def mk (b : Bool) : W32 := if b then 4294967295#32 else 0#32
theorem top_shift (y : W32) : y >>> 31 = if 2147483648 ≤ y.toNat then 1#32 else 0#32 := by
  apply BitVec.eq_of_toNat_eq
  rw [BitVec.toNat_ushiftRight, Nat.shiftRight_eq_div_pow]
  have := y.isLt
  split <;> simp <;> omega
theorem spread_mk (y : W32) : -(y >>> 31) = mk (decide (2147483648 ≤ y.toNat)) := by
  rw [top_shift]; unfold mk
  by_cases h : 2147483648 ≤ y.toNat <;> simp [h]
theorem spread_iw (y : W32) : -(iw y / 2147483648) % 4294967296 = iw (mk (hib y)) := by
  have h := shr_iw y 31
  rw [show ((2 : Int) ^ 31) = 2147483648 from by decide] at h
  rw [h, neg_iw, spread_mk]; rfl
theorem msb_top (y : W32) : y.msb = decide (2147483648 ≤ y.toNat) := by
  rw [BitVec.msb_eq_decide]
theorem zero_mk (x : W32) : ~~~(-((x ||| -x) >>> 31)) = mk (x == 0#32) := by
  rw [spread_mk, ← msb_top, BitVec.msb_or, msb_top, msb_top]
  have h : (-x).toNat = (4294967296 - x.toNat) % 4294967296 := by rw [BitVec.toNat_neg]
  have hx := x.isLt
  have e : (x == 0#32) = decide (x.toNat = 0) := by
    rw [Bool.eq_iff_iff, beq_iff_eq, decide_eq_true_iff]
    exact ⟨fun h => by rw [h]; rfl, fun h => BitVec.eq_of_toNat_eq (by simpa using h)⟩
  rw [e, h]
  by_cases h1 : x.toNat = 0
  · rw [h1]; decide
  · rw [decide_eq_false h1]
    have : (decide (2147483648 ≤ x.toNat) || decide (2147483648 ≤ (4294967296 - x.toNat) % 4294967296)) = true := by
      rw [Bool.or_eq_true, decide_eq_true_iff, decide_eq_true_iff]; omega
    rw [this]; decide
theorem lt_mk (a b : W32) : -(((~~~a &&& b) ||| ((~~~a ||| b) &&& (a - b))) >>> 31) = mk (decide (a.toNat < b.toNat)) := by
  rw [spread_mk, ← msb_top, BitVec.msb_or, BitVec.msb_and, BitVec.msb_and, BitVec.msb_or, BitVec.msb_not, msb_top, msb_top, msb_top, BitVec.toNat_sub]
  congr 1
  have ha := a.isLt
  have hb := b.isLt
  by_cases h1 : 2147483648 ≤ a.toNat <;> by_cases h2 : 2147483648 ≤ b.toNat <;> simp [h1, h2] <;> omega
theorem xor_zero (x y : W32) : (x ^^^ y == 0#32) = (x == y) := by
  rw [Bool.eq_iff_iff, beq_iff_eq, beq_iff_eq, BitVec.xor_eq_zero_iff]

theorem zero_hib (x : W32) : ~~~(mk (hib (x ||| -x))) = mk (eqw x 0#32) := by
  have h := zero_mk x
  rw [spread_mk] at h; exact h
theorem eq_hib (x y : W32) : mk (eqw (x ^^^ y) 0#32) = mk (eqw x y) := by
  unfold eqw; rw [xor_zero]
theorem lt_hib (x y : W32) : mk (hib ((~~~x &&& y) ||| ((~~~x ||| y) &&& (x - y)))) = mk (ltw x y) := by
  have h := lt_mk x y
  rw [spread_mk] at h; exact h

def shlI (x : W32) (n : Int) : W32 := x <<< n.toNat
def shrI (x : W32) (n : Int) : W32 := x >>> n.toNat
def rotI (x : W32) (n : Int) : W32 := (x >>> n.toNat) ||| (x <<< (32 - n).toNat)
theorem shl_iwI (x : W32) (n : Int) : iw x * 2 ^ n.toNat % 4294967296 = iw (shlI x n) := shl_iw x _
theorem shr_iwI (x : W32) (n : Int) : iw x / 2 ^ n.toNat = iw (shrI x n) := shr_iw x _

/-- What a call that makes memory leaves of what was there. -/
theorem bcell {W w1 : World} (hb : Below W.heap.size W w1) : (∀ b o, b < W.heap.size → w1.cell? ⟨b, o, none⟩ = W.cell? ⟨b, o, none⟩) ∧ (∀ b o, b < W.heap.size → w1.frozen? ⟨b, o, none⟩ = W.frozen? ⟨b, o, none⟩) :=
  ⟨fun b o h => hb.cell (p := ⟨b, o, none⟩) h, fun b o h => hb.frozen (p := ⟨b, o, none⟩) h⟩
theorem bl_alloc {w W : World} (h : Below w.heap.size w W) (o : Obj) : Below w.heap.size w (W.alloc o) := h.alloc h.size o
theorem bl_drew {w W : World} (h : Below w.heap.size w W) : Below w.heap.size w W.drew := h.drew
theorem bl_drewN {w W : World} (h : Below w.heap.size w W) (n : Nat) : Below w.heap.size w (W.drewN n) := ⟨h.os, h.tape, h.output, h.size, h.block⟩
theorem bl_call {w W w1 : World} (hb : Below W.heap.size W w1) (h : Below w.heap.size w W) : Below w.heap.size w w1 := h.trans (hb.mono h.size)
theorem bl_set {w W : World} (p : Addr) (v : Value) (hp : w.heap.size ≤ p.block) (h : Below w.heap.size w W) : Below w.heap.size w (W.setCell p v) := h.setCell hp v
end Go.Proofs.YthnackakgglhbaaGreat

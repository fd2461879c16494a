/- Opening an argument that is a slice of bytes. -/
import Derived.Test.YthnackakgglhbaaGreatPd
import Derived.OpenShut
import Derived.ChangeArms
namespace Go.Proofs.YthnackakgglhbaaGreat
open Go.RowKit Go.ChangeShapes Go.WideShapes
set_option maxRecDepth 100000
set_option linter.unusedSimpArgs false
set_option linter.unusedVariables false
theorem open_rowB {H : Type} {enc : TypeId × Value → H} {W : World} {base : Nat} {v : Value} {d : DataW H} {p : List MemPlace} (hval : Value.okWide Tryz.prog W .any base 36 v) (h : DataW.Trod enc Tryz.prog W 0 (fun _ => true) true 36 v d p) :
    ∃ bs : List UInt8, RowB W v bs ∧ (∀ ao len cap, v = .slice ao len cap → len ≤ cap) ∧ bs.length ≤ maxLen := by
  obtain ⟨a1, len, cap, rfl⟩ := okWide_slice Tryz.underlying36 hval
  obtain ⟨fuel, hf⟩ := h
  rcases open_ints Tryz.underlying36 Tryz.underlying5 (by kernel_rfl) hf with ⟨hcs, hx⟩ | ⟨a, len', cap', zs, hcs, _, hl, hm, hz, hx, hcell, hwz⟩
  · simp [Value.cells] at hcs
    obtain ⟨rfl, rfl, rfl⟩ := hcs
    exact ⟨[], RowB.nil W, fun ao l c q => (by cases q; exact Nat.le_refl _), Nat.zero_le _⟩
  · simp [Value.cells] at hcs
    obtain ⟨rfl, rfl, rfl⟩ := hcs
    simp only [if_true] at hz
    have hlen : ((zs.take len).map fun n => UInt8.ofNat n.toNat).length = len := by simp; omega
    refine ⟨(zs.take len).map fun n => UInt8.ofNat n.toNat, ⟨some a, cap, by rw [hlen], fun q => (by cases q), fun k hk => ?_⟩, fun ao l c q => (by cases q; exact hl), by rw [hlen]; omega⟩
    rw [hlen] at hk
    obtain ⟨ab, ao, spot⟩ := a
    have hspot : spot = none := by simpa [Addr.add] using World.cell?_spot (hcell 0 (by omega))
    subst hspot
    refine ⟨ab, ao, rfl, ?_⟩
    have hcj := hcell k (by omega)
    rw [Addr.add_lit] at hcj
    rw [hcj]
    have hb := range_u8 hwz k
    have e : zs[k]?.getD 0 = zs[k]'(by omega) := by simp [List.getElem?_eq_getElem (show k < zs.length by omega)]
    rw [e] at hb
    unfold bv
    simp only [List.getElem_map, List.getElem_take]
    rw [List.getD_eq_getElem?_getD, e]
    congr 2
    simp only [UInt8.toNat_ofNat']
    omega
end Go.Proofs.YthnackakgglhbaaGreat

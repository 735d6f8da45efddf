/- Arguments as they come in: a row of bytes. -/
import Derived.Test.YtfpojnijjpojlaaDoorProg
import Derived.Test.YtfpojnijjpojlaaDoorMem2
import Derived.Deep.SlicePairs
import Derived.SizedLaws
import Derived.WideShapes
namespace Go.Proofs.YtfpojnijjpojlaaDoor
open Go.ChangeShapes Go.WideShapes Go.RowKit Go.Deep
set_option maxRecDepth 100000

theorem cell_in {w : World} {a : Addr} {v : Value} (h : w.cell? a = some v) : a.block < w.heap.size := by
  rcases Nat.lt_or_ge a.block w.heap.size with h1 | h1
  · exact h1
  · rw [World.cell?_of_block (w := w) (w' := w) rfl] at h; simp [World.cell?, Array.getElem?_eq_none h1] at h
def strB : Value → Bs
  | .string s => s.data.toList
  | _ => []

theorem u8_cells : Tryd.prog.cellsOf 5 = 1 := by kernel_rfl
theorem bv_int {z : Int} (h : (Lit.int .u8 z).wf = true) : bv (UInt8.ofNat z.toNat) = .int .u8 z := by
  simp only [Lit.wf, Bool.and_eq_true, decide_eq_true_eq] at h
  have h0 : 0 ≤ z := h.1
  have h1 : z ≤ 255 := h.2
  unfold bv
  congr 1
  rw [UInt8.toNat_ofNat']
  omega
theorem open_bytes {H : Type} {enc : TypeId × Value → H} {W : World} {r : Reach} {b0 : Nat} {v : Value} {d : DataW H} {p : List MemPlace} (hval : Value.okWide Tryd.prog W r b0 37 v)
    (h : DataW.Trod enc Tryd.prog W 0 (fun _ => true) true 37 v d p) :
    ∃ (A : Option Addr) (n c : Nat) (l : Bs), v = .slice A n c ∧ n ≤ c ∧ c ≤ maxLen ∧ Rd W W.heap.size 1 A n (l.map bv) := by
  obtain ⟨a, len, cap, rfl⟩ := okWide_slice Tryd.underlying37 hval
  obtain ⟨fuel, hf⟩ := h
  rcases Go.ChangeShapes.open_ints Tryd.underlying37 Tryd.underlying5 u8_cells (by simpa [Value.cells] using hf) with ⟨hcs, hx⟩ | ⟨a', len', cap', zs, hcs, -, hl, hm, hz, hx, hcell, hwf⟩
  · simp at hcs
    obtain ⟨rfl, rfl, rfl⟩ := hcs
    exact ⟨none, 0, 0, [], rfl, Nat.le_refl _, Nat.zero_le _, Rd.nil _ _ _ _⟩
  · simp at hcs
    obtain ⟨rfl, rfl, rfl⟩ := hcs
    simp only [if_true] at hz
    refine ⟨some a', len, cap, (zs.take len).map (fun z => UInt8.ofNat z.toNat), rfl, hl, hm, ⟨by simp; omega, fun h0 => ?_⟩⟩
    obtain ⟨b, off, spot⟩ := a'
    have c0 := hcell 0 (by omega)
    have hspot : spot = none := by simpa [Addr.add] using World.cell?_spot c0
    subst hspot
    refine ⟨b, off, rfl, by have := cell_in c0; simpa [Addr.add] using this, fun j u hu => ?_⟩
    have hj : j < len := by
      have := (List.getElem?_eq_some_iff.1 hu).1
      simp at this
      omega
    have hzj : zs[j]? = some (zs.getD j 0) := by rw [List.getD_eq_getElem?_getD, List.getElem?_eq_getElem (by omega)]; rfl
    have hb := bv_int (hwf _ (List.mem_of_getElem? hzj))
    simp only [List.map_map, List.getElem?_map, List.getElem?_take_of_lt hj, hzj, Option.map_some, Option.some.injEq, Function.comp] at hu
    rw [← hu, hb, ← add_lit']
    exact hcell j (by omega)
end Go.Proofs.YtfpojnijjpojlaaDoor

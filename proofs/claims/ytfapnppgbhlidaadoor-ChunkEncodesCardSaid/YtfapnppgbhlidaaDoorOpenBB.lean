/- Arguments as they come in: a row of rows of bytes. -/
import Derived.Test.YtfapnppgbhlidaaDoorOpen
import Derived.Test.YtfapnppgbhlidaaDoorEncK
import Derived.Deep.Matrix
namespace Go.Proofs.YtfapnppgbhlidaaDoor
open Go.ChangeShapes Go.WideShapes Go.RowKit Go.Deep
set_option maxRecDepth 100000

theorem bb_cells : Tryd.prog.cellsOf 24 = 1 := by kernel_rfl
theorem open_bb {H : Type} {enc : TypeId × Value → H} {W : World} {r : Reach} {b0 : Nat} {v : Value} {d : DataW H} {p : List MemPlace} (hval : Value.okWide Tryd.prog W r b0 23 v)
    (h : DataW.Trod enc Tryd.prog W 0 (fun _ => true) true 23 v d p) :
    ∃ (A : Option Addr) (n c : Nat) (ps : List Bs), v = .slice A n c ∧ n ≤ c ∧ c ≤ maxLen ∧ RdS W W.heap.size A n ps := by
  obtain ⟨a, len, cap, rfl⟩ := okWide_slice Tryd.underlying23 hval
  obtain ⟨fuel, hf⟩ := h
  rcases open_int_rows Tryd.underlying23 Tryd.underlying24 Tryd.underlying5 bb_cells u8_cells (by simpa [Value.cells] using hf) with ⟨hcs, hx⟩ | ⟨a', len', cap', A, L, C, Z, hcs, -, hl, hm, hx, hrow⟩
  · simp at hcs
    obtain ⟨rfl, rfl, rfl⟩ := hcs
    exact ⟨none, 0, 0, [], rfl, Nat.le_refl _, Nat.zero_le _, [], Rd.nil _ _ _ _, rfl, fun i p hp => by simp at hp⟩
  · simp at hcs
    obtain ⟨rfl, rfl, rfl⟩ := hcs
    let P : Nat → Bs := fun r => ((Z r).take (L r)).map (fun z => UInt8.ofNat z.toNat)
    have hP : ∀ r, r < cap → (P r).length = L r := fun r hr => by
      obtain ⟨-, h1, -, h3, -⟩ := hrow r hr
      simp only [P, List.length_map, List.length_take]; omega
    refine ⟨some a', len, cap, (List.range len).map P, rfl, hl, hm, (List.range len).map fun r => Value.slice (A r) (L r) (C r), ?_, by simp, ?_⟩
    · refine ⟨by simp, fun h0 => ?_⟩
      obtain ⟨b, off, spot⟩ := a'
      have c0 := (hrow 0 (by omega)).1
      have hspot : spot = none := by simpa [Addr.add] using World.cell?_spot c0
      subst hspot
      refine ⟨b, off, rfl, by have := cell_in c0; simpa [Addr.add] using this, fun j u hu => ?_⟩
      have hj : j < len := by
        have := (List.getElem?_eq_some_iff.1 hu).1
        simpa using this
      simp only [List.getElem?_map, List.getElem?_range hj, Option.map_some, Option.some.injEq] at hu
      rw [← hu, ← add_lit']
      exact (hrow j (by omega)).1
    · intro i q hq
      have hi : i < len := by
        have := (List.getElem?_eq_some_iff.1 hq).1
        simpa using this
      simp only [List.getElem?_map, List.getElem?_range hi, Option.map_some, Option.some.injEq] at hq
      subst hq
      obtain ⟨-, h1, h2, h3, h4, h5, h6⟩ := hrow i (by omega)
      refine ⟨A i, C i, by simp only [List.getElem?_map, List.getElem?_range hi, Option.map_some, hP i (by omega)], by simp, fun h0 => ?_⟩
      rw [hP i (by omega)] at h0
      cases hA : A i with
      | none => have := h5 hA; omega
      | some a2 =>
        obtain ⟨-, hc⟩ := h6 a2 hA
        obtain ⟨b, off, spot⟩ := a2
        have c0 := hc 0 (by omega)
        have hspot : spot = none := by simpa [Addr.add] using World.cell?_spot c0
        subst hspot
        refine ⟨b, off, rfl, by have := cell_in c0; simpa [Addr.add] using this, fun j u hu => ?_⟩
        have hj : j < L i := by
          have := (List.getElem?_eq_some_iff.1 hu).1
          rw [List.length_map, hP i (by omega)] at this
          exact this
        have hzj : (Z i)[j]? = some ((Z i).getD j 0) := by rw [List.getD_eq_getElem?_getD, List.getElem?_eq_getElem (by omega)]; rfl
        have hb := bv_int (h4 _ (List.mem_of_getElem? hzj))
        simp only [P, List.map_map, List.getElem?_map, List.getElem?_take_of_lt hj, hzj, Option.map_some, Option.some.injEq, Function.comp] at hu
        rw [← hu, hb, ← add_lit']
        exact hc j (by omega)
end Go.Proofs.YtfapnppgbhlidaaDoor

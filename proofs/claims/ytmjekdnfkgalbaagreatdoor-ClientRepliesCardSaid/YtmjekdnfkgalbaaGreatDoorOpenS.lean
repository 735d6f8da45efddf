/- Arguments as they come in: a row of texts. -/
import Derived.Test.YtmjekdnfkgalbaaGreatDoorPlain
import Derived.SliceStrings
import Derived.SizedLaws
import Derived.WideShapes
namespace Go.Proofs.YtmjekdnfkgalbaaGreatDoor
open Go.ChangeShapes Go.WideShapes Go.RowKit
set_option maxRecDepth 100000

theorem weightsS_mem {H : Type} {P : Program} {e : TypeId} : ∀ {l : List (DataW H)} {d : DataW H}, d ∈ l → ∀ n ∈ d.weights P e, n ∈ DataW.weightsAll P e l
  | x :: l, d, h, n, hn => by
    rw [DataW.weightsAll, List.mem_append]
    rcases List.mem_cons.1 h with rfl | h
    · exact .inl hn
    · exact .inr (weightsS_mem h n hn)
theorem cell_inS {w : World} {a : Addr} {v : Value} (h : w.cell? a = some v) : a.block < w.heap.size := by
  rcases Nat.lt_or_ge a.block w.heap.size with h1 | h1
  · exact h1
  · rw [World.cell?_of_block (w := w) (w' := w) rfl] at h; simp [World.cell?, Array.getElem?_eq_none h1] at h
theorem strS_cells : Tryz.prog.cellsOf 9 = 1 := by kernel_rfl
theorem open_strs {H : Type} {enc : TypeId × Value → H} {W : World} {r : Reach} {b0 : Nat} {v : Value} {d : DataW H} {p : List MemPlace} (hval : Value.okWide Tryz.prog W r b0 23 v)
    (h : DataW.Trod enc Tryz.prog W 0 (fun _ => true) true 23 v d p) :
    ∃ (A : Option Addr) (n c : Nat) (xs : List ByteArray), v = .slice A n c ∧ n ≤ c ∧ c ≤ maxLen ∧ Rd W W.heap.size 1 A n (xs.map Value.string) ∧ ∀ x ∈ xs, x.size ∈ d.weights Tryz.prog 23 := by
  obtain ⟨a, len, cap, rfl⟩ := okWide_slice Tryz.underlying23 hval
  obtain ⟨fuel, hf⟩ := h
  rcases open_strings Tryz.underlying23 Tryz.underlying9 strS_cells (by simpa [Value.cells] using hf) with ⟨hcs, hx⟩ | ⟨a', len', cap', ss, hcs, -, hl, hm, hz, hx, hcell, -⟩
  · simp at hcs
    obtain ⟨rfl, rfl, rfl⟩ := hcs
    exact ⟨none, 0, 0, [], rfl, Nat.le_refl _, Nat.zero_le _, Rd.nil _ _ _ _, by simp⟩
  · simp at hcs
    obtain ⟨rfl, rfl, rfl⟩ := hcs
    simp only [if_true] at hz
    simp only [Prod.mk.injEq] at hx
    obtain ⟨rfl, -⟩ := hx
    refine ⟨some a', len, cap, ss.take len, rfl, hl, hm, ⟨by simp; omega, fun h0 => ?_⟩, ?_⟩
    · obtain ⟨b, off, spot⟩ := a'
      have c0 := hcell 0 (by omega)
      have hspot : spot = none := by simpa [Addr.add] using World.cell?_spot c0
      subst hspot
      refine ⟨b, off, rfl, by have := cell_inS c0; simpa [Addr.add] using this, fun j u hu => ?_⟩
      have hj : j < len := by
        have := (List.getElem?_eq_some_iff.1 hu).1
        simp at this
        omega
      have hzj : ss[j]? = some (ss.getD j ByteArray.empty) := by rw [List.getD_eq_getElem?_getD, List.getElem?_eq_getElem (by omega)]; rfl
      simp only [List.getElem?_map, List.getElem?_take_of_lt hj, hzj, Option.map_some, Option.some.injEq] at hu
      rw [← hu, ← add_lit']
      exact hcell j (by omega)
    · intro x hx
      have hin : (DataW.lit (.string x.data.toList) : DataW H) ∈ strs (H := H) (ss.take len) := List.mem_map.2 ⟨x, hx, rfl⟩
      rw [DataW.weights]
      simp only [Tryz.underlying23]
      exact List.mem_cons_of_mem _ (List.mem_append_left _ (weightsS_mem hin _ (by simp [DataW.weights])))
end Go.Proofs.YtmjekdnfkgalbaaGreatDoor

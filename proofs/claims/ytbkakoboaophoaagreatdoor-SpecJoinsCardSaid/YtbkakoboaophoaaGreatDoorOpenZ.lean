/- A row of bytes as it comes in: how many it can be. -/
import Derived.Test.YtbkakoboaophoaaGreatDoorOpen
namespace Go.Proofs.YtbkakoboaophoaaGreatDoor
open Go.ChangeShapes Go.WideShapes Go.RowKit Go.Deep
set_option maxRecDepth 100000

theorem u8_bytes : Tryz.prog.bytesOf 5 = 1 := by kernel_rfl
theorem bytes_le {H : Type} {enc : TypeId × Value → H} {W : World} {A : Option Addr} {n c : Nat} {d : DataW H} {p : List MemPlace} (h : DataW.Trod enc Tryz.prog W 0 (fun _ => true) true 22 (.slice A n c) d p)
    (hw : ∀ m ∈ d.weights Tryz.prog 22, m ≤ reachBytes) : n ≤ 140737488355328 := by
  obtain ⟨fuel, hf⟩ := h
  rcases Go.ChangeShapes.open_ints Tryz.underlying22 Tryz.underlying5 u8_cells (by simpa [Value.cells] using hf) with ⟨hcs, hx⟩ | ⟨a', len', cap', zs, hcs, -, hl, hm, hz, hx, hcell, hwf⟩
  · simp at hcs
    omega
  · simp at hcs
    obtain ⟨rfl, rfl, rfl⟩ := hcs
    simp only [if_true] at hz
    simp only [Prod.mk.injEq] at hx
    obtain ⟨rfl, -⟩ := hx
    have h1 := hw ((zs.take n).length + (zs.drop n).length) (by
      rw [DataW.weights]
      simp only [Tryz.underlying22, u8_bytes, lits, List.length_map, Nat.mul_one]
      exact List.mem_cons_self)
    rw [← List.length_append, List.take_append_drop] at h1
    have h2 : reachBytes ≤ 140737488355328 := by decide
    omega
end Go.Proofs.YtbkakoboaophoaaGreatDoor

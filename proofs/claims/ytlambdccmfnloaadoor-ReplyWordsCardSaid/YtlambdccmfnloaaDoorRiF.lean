/- ReplyHeads. -/
import Derived.Test.YtlambdccmfnloaaDoorRiE
namespace Go.Proofs.YtlambdccmfnloaaDoor
open Go.RowKit
set_option maxRecDepth 100000
set_option maxHeartbeats 4000000

theorem fdsz_light {r : Rs} (h : Light r) : FdSz r.f := fun f hf => ⟨Nat.le_trans (h.e f hf).1 (by decide), Nat.le_trans (h.e f hf).2 (by decide)⟩
theorem light_z {x : RsP} (h : Light x.r) : RsZ x := ⟨fdsz_light h, by have := h.f; omega, by have := h.b; omega, by have := h.p; omega⟩
theorem EncPost.no {w w' : World} {e : Ending} (h : EncPost w ([], 1) e w') : ∃ A c, e = .returned (.tuple #[.slice A 0 c, .int .i64 1]) ∧ Below w.heap.size w w' := by
  obtain ⟨A, c, h1, -, -, h4⟩ := h
  exact ⟨A, c, h1, h4⟩
theorem EncPost.yes {w w' : World} {e : Ending} {b : Bs} (h : EncPost w (b, 0) e w') : ∃ A c, e = .returned (.tuple #[.slice A b.length c, .int .i64 0]) ∧ b.length ≤ c ∧ c ≤ maxLen ∧ Own w' w.heap.size 5 1 (.slice A b.length c) b.length (b.map bv) ∧ Rd w' w'.heap.size 1 A b.length (b.map bv) ∧ Below w.heap.size w w' := by
  obtain ⟨A, c, h1, h2, h3, h4⟩ := h
  have h3' : Own w' w.heap.size 5 1 (.slice A b.length c) b.length (b.map bv) := h3
  exact ⟨A, c, h1, h2, (Own.rdS h3').2.1, h3', (Own.rdS h3').2.2, h4⟩
end Go.Proofs.YtlambdccmfnloaaDoor

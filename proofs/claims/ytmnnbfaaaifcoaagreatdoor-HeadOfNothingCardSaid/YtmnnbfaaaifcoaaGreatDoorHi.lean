/- Blocks that stand behind the library's bound. -/
import Derived.Test.YtmnnbfaaaifcoaaGreatDoorO3
import Derived.Test.YtmnnbfaaaifcoaaGreatDoorTgt
namespace Go.Proofs.YtmnnbfaaaifcoaaGreatDoor
open Go.RowKit
set_option maxRecDepth 100000
set_option maxHeartbeats 4000000

/-- Blocks that stand behind the library's bound. -/
def Hi (S : Nat → Prop) : Prop := ∀ k, S k → 0 < k
theorem ML.lt {w : World} (h : ML w) : 0 < w.heap.size := by
  obtain ⟨m, hm⟩ := h
  rcases Nat.lt_or_ge 0 w.heap.size with h1 | h1
  · exact h1
  · simp [World.cell?, Array.getElem?_eq_none h1] at hm
theorem ML.fr {w w' : World} {S : Nat → Prop} (h : ML w) (hf : Fr S w w') (hh : Hi S) : ML w' := by
  have h1 := h.lt
  obtain ⟨m, hm⟩ := h
  exact ⟨m, (hf.cell (p := ⟨0, 0, none⟩) h1 (fun hs => Nat.lt_irrefl _ (hh _ hs))).trans hm⟩
theorem ML.set_ {w : World} (h : ML w) {p : Addr} (hp : 0 < p.block) (u : Value) : ML (w.setCell p u) :=
  h.fr ((Fr.refl (fun k => k = p.block) w).setCell (.inl rfl) u) fun k hk => by rw [hk]; exact hp
theorem Hi.moved {S S' : Nat → Prop} {w w' : World} (h : Hi S) (hm : ML w) (m : Moved S S' w w') : Hi S' := by
  intro k hk
  rcases m.foot k hk with h1 | h1
  · exact h k h1
  · exact Nat.lt_of_lt_of_le hm.lt h1
theorem hi_of {S : Nat → Prop} {w : World} (hm : ML w) (hS : ∀ k, S k → w.heap.size ≤ k) : Hi S := fun k hk => Nat.lt_of_lt_of_le hm.lt (hS k hk)
theorem moved_below {S S' : Nat → Prop} {w w' : World} (m : Moved S S' w w') {w0 : World} (L : Below w0.heap.size w0 w) (hS : ∀ k, S k → w0.heap.size ≤ k) : Below w0.heap.size w0 w' := m.toBelow L hS
theorem moved_hs {S S' : Nat → Prop} {w w' : World} (m : Moved S S' w w') {B : Nat} (hB : B ≤ w.heap.size) (hS : ∀ k, S k → B ≤ k) : ∀ k, S' k → B ≤ k := fun k hk => by
  rcases m.foot k hk with h | h
  · exact hS k h
  · omega
end Go.Proofs.YtmnnbfaaaifcoaaGreatDoor

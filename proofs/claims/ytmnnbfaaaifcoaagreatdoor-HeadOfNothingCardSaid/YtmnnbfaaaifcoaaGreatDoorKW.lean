/- An object with two rows of bytes and one of fields: what a call made of it, step by step. -/
import Derived.Test.YtmnnbfaaaifcoaaGreatDoorO3
namespace Go.Proofs.YtmnnbfaaaifcoaaGreatDoor
open Go.RowKit
set_option maxRecDepth 100000
set_option maxHeartbeats 2000000

theorem Moved.drewN {S S' : Nat → Prop} {w w' : World} (h : Moved S S' w w') (n : Nat) : Moved S S' w (w'.drewN n) := ⟨h.fr.drewN n, h.foot⟩
theorem Moved.drew {S S' : Nat → Prop} {w w' : World} (h : Moved S S' w w') : Moved S S' w w'.drew := ⟨h.fr.drew, h.foot⟩
theorem Moved.alloc {S S' : Nat → Prop} {w w' : World} (h : Moved S S' w w') (o : Obj) : Moved S S' w (w'.alloc o) := ⟨h.fr.alloc o, h.foot⟩
/-- From w0, where the object had the blocks S, to w, where it is as said. -/
structure KW (w0 : World) (S : Nat → Prop) (w : World) (T : TypeId) (g : Nat) (cs : Array Value) (vl vb vt : Value) (L B : Bs) (F : List Fd) : Prop where
  o : O3 w T g cs vl vb vt L B F
  m : Moved S (foot g vl vb vt) w0 w
namespace KW
variable {w0 w w' : World} {S : Nat → Prop} {T : TypeId} {g : Nat} {cs : Array Value} {vl vb vt vl' vb' vt' : Value} {L B L' B' : Bs} {F F' : List Fd}
theorem refl (h : O3 w T g cs vl vb vt L B F) : KW w (foot g vl vb vt) w T g cs vl vb vt L B F := ⟨h, Moved.refl _ _⟩
theorem set_ (h : KW w0 S w T g cs vl vb vt L B F) {i : Nat} {u : Value} : KW w0 S (w.setCell ⟨g, i, none⟩ u) T g (cs.setIfInBounds i u) vl vb vt L B F := ⟨h.o.set_ i u, by
  have h1 : Moved (foot g vl vb vt) (foot g vl vb vt) w (w.setCell ⟨g, i, none⟩ u) := (Moved.refl _ _).set_ (.inl rfl) u
  exact h.m.trans h1⟩
theorem drewN (h : KW w0 S w T g cs vl vb vt L B F) {n : Nat} : KW w0 S (w.drewN n) T g cs vl vb vt L B F := ⟨h.o.drewN n, h.m.drewN n⟩
theorem drew (h : KW w0 S w T g cs vl vb vt L B F) : KW w0 S w.drew T g cs vl vb vt L B F := ⟨h.o.drewN 1, h.m.drew⟩
theorem belowW (h : KW w0 S w T g cs vl vb vt L B F) (hb : Below w.heap.size w w') : KW w0 S w' T g cs vl vb vt L B F := ⟨h.o.belowW hb, h.m.belowW hb⟩
theorem alloc (h : KW w0 S w T g cs vl vb vt L B F) {o : Obj} : KW w0 S (w.alloc o) T g cs vl vb vt L B F := h.belowW (allocW (Below.refl _ _) o)
theorem moved {S' : Nat → Prop} (h : KW w0 S w T g cs vl vb vt L B F) {cs' : Array Value} (hm : Moved (foot g vl vb vt) S' w w') (ho : O3 w' T g cs' vl' vb' vt' L' B' F') (hS : S' = foot g vl' vb' vt') : KW w0 S w' T g cs' vl' vb' vt' L' B' F' := ⟨ho, hS ▸ h.m.trans hm⟩
theorem extL (h : KW w0 S w T g cs vl vb vt L B F) (hx : Ext w w' vl vl') (ho : OB w' 0 vl' L') : KW w0 S w' T g cs vl' vb vt L' B F :=
  ⟨h.o.extL hx ho, h.m.trans ⟨hx.fr.mono fun k hk => .inl (.inr (.inl hk)), fun k hk => by
    rcases hk with hk | hk | hk | hk
    · exact .inl (.inl hk)
    · rcases hx.own k hk with h1 | h1
      · exact .inl (.inr (.inl h1))
      · exact .inr h1
    · exact .inl (.inr (.inr (.inl hk)))
    · exact .inl (.inr (.inr (.inr hk)))⟩⟩
theorem extB (h : KW w0 S w T g cs vl vb vt L B F) (hx : Ext w w' vb vb') (ho : OB w' 0 vb' B') : KW w0 S w' T g cs vl vb' vt L B' F :=
  ⟨h.o.extB hx ho, h.m.trans ⟨hx.fr.mono fun k hk => .inl (.inr (.inr (.inl hk))), fun k hk => by
    rcases hk with hk | hk | hk | hk
    · exact .inl (.inl hk)
    · exact .inl (.inr (.inl hk))
    · rcases hx.own k hk with h1 | h1
      · exact .inl (.inr (.inr (.inl h1)))
      · exact .inr h1
    · exact .inl (.inr (.inr (.inr hk)))⟩⟩
theorem extT (h : KW w0 S w T g cs vl vb vt L B F) (hx : Ext w w' vt vt') (ho : OF w' 0 vt' F') : KW w0 S w' T g cs vl vb vt' L B F' :=
  ⟨h.o.extT hx ho, h.m.trans ⟨hx.fr.mono fun k hk => .inl (.inr (.inr (.inr hk))), fun k hk => by
    rcases hk with hk | hk | hk | hk
    · exact .inl (.inl hk)
    · exact .inl (.inr (.inl hk))
    · exact .inl (.inr (.inr (.inl hk)))
    · rcases hx.own k hk with h1 | h1
      · exact .inl (.inr (.inr (.inr h1)))
      · exact .inr h1⟩⟩
theorem nilL (h : KW w0 S w T g cs vl vb vt L B F) : KW w0 S w T g cs (.slice none 0 0) vb vt [] B F :=
  ⟨h.o.nilL, ⟨h.m.fr, fun k hk => by
    rcases hk with hk | hk | hk | hk
    · exact h.m.foot k (.inl hk)
    · simp [Value.ownBlock] at hk
    · exact h.m.foot k (.inr (.inr (.inl hk)))
    · exact h.m.foot k (.inr (.inr (.inr hk)))⟩⟩
/-- The line, cut to nothing. -/
theorem cutL (h : KW w0 S w T g cs vl vb vt L B F) (hL : 0 < L.length) : ∃ b c, vl = .slice (some ⟨b, 0, none⟩) L.length c ∧ KW w0 S w T g cs (.slice (some ⟨b, 0, none⟩) 0 c) vb vt [] B F := by
  obtain ⟨b, c, e, ho⟩ := h.o.cutL hL
  subst e
  exact ⟨b, c, rfl, ho, ⟨h.m.fr, h.m.foot⟩⟩
end KW
end Go.Proofs.YtmnnbfaaaifcoaaGreatDoor

/- Rows of cells in memory: what stays, in short steps. -/
import Derived.Test.YtmnnbfaaaifcoaaGreatDoorMem
namespace Go.Proofs.YtmnnbfaaaifcoaaGreatDoor
open Go.RowKit

theorem stepW {a w w' : World} (L : Below a.heap.size a w) (hb : Below w.heap.size w w') : Below a.heap.size a w' := L.trans (hb.mono L.size)
theorem allocW {a w : World} (L : Below a.heap.size a w) (o : Obj) : Below a.heap.size a (w.alloc o) := L.alloc L.size o
theorem setW {a w : World} (L : Below a.heap.size a w) {p : Addr} (hp : a.heap.size ≤ p.block) (u : Value) : Below a.heap.size a (w.setCell p u) := L.setCell hp u
theorem growW {a w w' : World} {row : Option Nat} (L : Below a.heap.size a w) (hg : w.grownBy w' row) (hr : ∀ k, row = some k → a.heap.size ≤ k) : Below a.heap.size a w' := L.grown hg L.size hr
theorem below_of_none {w w' : World} (h : w.grownBy w' none) : Below w.heap.size w w' := (Below.refl _ _).grown h (Nat.le_refl _) (by simp)
theorem Own.belowW {w w' : World} {base e size n : Nat} {v : Value} {xs : List Value} (h : Own w base e size v n xs) (hb : Below w.heap.size w w') : Own w' base e size v n xs :=
  h.below hb fun k hk => (h.lt k hk).2
theorem Own.far {w : World} {base e size n : Nat} {v : Value} {xs : List Value} (h : Own w base e size v n xs) {p : Addr} (hp : ∀ k, v.ownBlock = some k → k ≠ p.block) (u : Value) : Own (w.setCell p u) base e size v n xs :=
  h.keep fun k hk => Below.heap_setCell w p u k (hp k hk)
theorem Rd.belowW {w w' : World} {B size n : Nat} {A : Option Addr} {xs : List Value} (h : Rd w B size A n xs) (hB : B ≤ w.heap.size) (hb : Below w.heap.size w w') : Rd w' B size A n xs := h.below (hb.mono hB)
theorem Rd.far {w : World} {B size n : Nat} {A : Option Addr} {xs : List Value} (h : Rd w B size A n xs) {p : Addr} (hp : B ≤ p.block) (u : Value) : Rd (w.setCell p u) B size A n xs :=
  h.below ((Below.refl B w).setCell hp u)
theorem Rd.grownW {w w' : World} {B size n : Nat} {A : Option Addr} {xs : List Value} {row : Option Nat} (h : Rd w B size A n xs) (hB : B ≤ w.heap.size) (hg : w.grownBy w' row) (hr : ∀ k, row = some k → B ≤ k) : Rd w' B size A n xs :=
  h.below ((Below.refl B w).grown hg hB hr)
theorem ite_prop {α : Type} {Q : α → Prop} {p : Prop} [Decidable p] {a b : α} (ha : Q a) (hb : Q b) : Q (if p then a else b) := by split <;> assumption
/-- What an owned slice holds, read off its own form. -/
theorem Own.rdS {w : World} {base e size n c : Nat} {A : Option Addr} {xs : List Value} (h : Own w base e size (.slice A n c) n xs) : n ≤ c ∧ c ≤ maxLen ∧ Rd w w.heap.size size A n xs := by
  obtain ⟨A', c', e', h1, h2, h3, _⟩ := h.rd
  injection e' with e1 e2 e3
  subst e1; subst e3
  exact ⟨h1, h2, h3⟩
end Go.Proofs.YtmnnbfaaaifcoaaGreatDoor

/- field.Add, field.Of. -/
import Derived.Test.YtfapnppgbhlidaaDoorFld
namespace Go.Proofs.YtfapnppgbhlidaaDoor
open Go.RowKit
set_option maxRecDepth 100000
set_option maxHeartbeats 2000000

def FdSz (l : List Fd) : Prop := ∀ f ∈ l, f.1.length ≤ 1000000 ∧ f.2.length ≤ 1000000
theorem FdSz.at {l : List Fd} (h : FdSz l) {k : Nat} {f : Fd} (hf : l[k]? = some f) : f.1.length ≤ 1000000 ∧ f.2.length ≤ 1000000 := h f (List.mem_of_getElem? hf)
theorem fcells_n {w : World} {B n : Nat} {A : Option Addr} {l : List Fd} (h : Rd w B 2 A n (fcells l)) : l.length = n := by
  have := h.1; rw [fcells_len] at this; omega
def addV (r : List Fd × Nat × Int) : Value := .tuple #[.int .i64 (r.2.1 : Int), .int .i64 r.2.2]
def AddPost (T : TypeId) (w : World) (g base : Nat) (v : Value) (r : List Fd × Nat × Int) (e : Ending) (w' : World) : Prop :=
  e = .returned (addV r) ∧ (∃ v', FA w' T g base v' r.1 ∧ ∀ k, v'.ownBlock = some k → v.ownBlock = some k ∨ w.heap.size ≤ k) ∧ Fr (FS g v) w w'
theorem drop_fd {l : List Fd} {k : Nat} (h : k < l.length) : ∃ f, l[k]? = some f ∧ l.drop k = f :: l.drop (k + 1) :=
  ⟨l[k], List.getElem?_eq_getElem h, List.drop_eq_getElem_cons h⟩

end Go.Proofs.YtfapnppgbhlidaaDoor

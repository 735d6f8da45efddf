/- Two rows of fields: whether they are one. -/
import Derived.Test.YtmnnbfaaaifcoaaGreatDoorAppF
import Derived.Deep.QuietTactic
import Derived.BigQuiet
import Derived.Laws.StructEq
import Derived.Lib.SmallJoins
namespace Go.Proofs.YtmnnbfaaaifcoaaGreatDoor
open Go.RowKit
set_option maxRecDepth 100000
set_option maxHeartbeats 2000000

theorem Own.lit (w : World) (g : Nat) (hg : g = w.heap.size) (base : Nat) (hb : base ≤ g) (e : TypeId) (size n : Nat) (cs : List Value) (hs : cs.length = n * size) (hn : n ≤ maxLen) : Own (w.alloc (.cells cs.toArray e)) base e size (.slice (some ⟨g, 0, none⟩) n n) n cs :=
  ⟨hs, .inr ⟨g, n, cs.toArray, (0, 0), rfl, hb, by rw [hg]; exact heap_alloc_new w _, .inl (Nat.le_refl _), Nat.le_refl _, hn, by simpa using hs, by rw [List.take_of_length_le (by simp; omega)]⟩⟩

theorem neT {a b : Int} (h : (a != b) = true) : a ≠ b := by simpa using h
theorem neF {a b : Int} (h : (a != b) = false) : a = b := by simpa using h
theorem drop_list {α : Type} (l : List α) (k : Nat) (h : k < l.length) : ∃ x, l[k]? = some x ∧ l.drop k = x :: l.drop (k + 1) := ⟨l[k], List.getElem?_eq_getElem h, List.drop_eq_getElem_cons h⟩
theorem map_get {α β : Type} (f : α → β) (l : List α) (k : Nat) (x : α) (h : l[k]? = some x) : (l.map f)[k]? = some (f x) := by simp [h]

theorem fd_u : Tryz.prog.underlying 49 = some (.struct (Tryz.prog.fieldsOf 49)) := by kernel_rfl
theorem fd_p : Tryz.prog.stoodInHeld 49 = false := by kernel_rfl
theorem fd_g : Tryz.prog.eqGuardType Tryz.prog.depth 49 = false := by kernel_rfl
theorem fd_f : (Tryz.prog.fieldsOf 49).toList.map (fun f => (f.name, f.type, f.offset)) = [("Name", 9, 0), ("Value", 9, 1)] := by kernel_rfl
theorem fd_ff : ∃ f g, (Tryz.prog.fieldsOf 49).toList = [f, g] ∧ f.type = 9 ∧ f.offset = 0 ∧ f.name = "Name" ∧ g.type = 9 ∧ g.offset = 1 ∧ g.name = "Value" := by
  have h := fd_f
  generalize (Tryz.prog.fieldsOf 49).toList = l at h
  rcases l with _ | ⟨f, _ | ⟨g, _ | ⟨x, l⟩⟩⟩
  · simp at h
  · simp at h
  · simp at h; exact ⟨f, g, rfl, h.1.2.1, h.1.2.2, h.1.1, h.2.2.1, h.2.2.2, h.2.1⟩
  · simp at h
def fdEq (a b c d : Bs) : Bool := decide ((a, b) = (c, d))
theorem run_neq_fd (a b c d : Bs) (w : World) : (binOp .neq 49 (.agg #[sv a, sv b]) (.agg #[sv c, sv d])).run Tryz.prog w = .ok (.bool (!fdEq a b c d)) w := by
  obtain ⟨f, g, hl, h1, h2, h3, h4, h5, h6⟩ := fd_ff
  rw [run_neq_struct, show (10000 : Nat) = 9999 + 1 from rfl, run_equalIn_agg w 9999 _ _ _ fd_u fd_p, hl]
  simp [Op.eqFields, h1, h2, h3, h4, h5, h6, go_sem, sv]
  by_cases e1 : a = c <;> by_cases e2 : b = d <;> simp [e1, e2, fdEq]
theorem run_guard_fd (op : BinOp) (x y : Operand) (xs ys : Array Value) (w : World) : (eqGuard op 49 x y (.agg xs) (.agg ys)).run Tryz.prog w = .ok () w := run_eqGuard_agg w op _ x y xs ys fd_g

theorem fcells_at : ∀ (l : List Fd) (k : Nat) (f : Fd), l[k]? = some f → (fcells l)[k * 2]? = some (sv f.1) ∧ (fcells l)[k * 2 + 1]? = some (sv f.2)
  | [], k, f, h => by simp at h
  | g :: l, 0, f, h => by
    obtain rfl : g = f := by simpa using h
    simp [fcells]
  | g :: l, k + 1, f, h => by
    have := fcells_at l k f (by simpa using h)
    have e : (k + 1) * 2 = k * 2 + 1 + 1 := by omega
    simpa [fcells, e] using this
theorem Rd.newM (w : World) (g : Nat) (hg : g = w.heap.size) (cs : List Value) (t : TypeId) (fr : Nat × Nat) (n size : Nat) (h : cs.length = n * size) : Rd (w.alloc (.cells cs.toArray t fr)) (g + 1) size (some ⟨g, 0, none⟩) n cs :=
  ⟨h, fun _ => ⟨g, 0, rfl, by omega, fun j u hu => by rw [Nat.zero_add, Go.Joins.cell_alloc_mark_at w _ t fr g j hg]; simpa using hu⟩⟩
end Go.Proofs.YtmnnbfaaaifcoaaGreatDoor

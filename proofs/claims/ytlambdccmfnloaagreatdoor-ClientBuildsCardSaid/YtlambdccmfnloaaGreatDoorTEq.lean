/- '==' and '!=' of two targets. '==' of two framing.How. -/
import Derived.Test.YtlambdccmfnloaaGreatDoorApp
import Derived.Laws.StructEq
import Derived.Test.YtlambdccmfnloaaGreatDoorFPl
namespace Go.Proofs.YtlambdccmfnloaaGreatDoor
open Go.RowKit
set_option maxRecDepth 100000
set_option maxHeartbeats 2000000

theorem tg_u : Tryz.prog.underlying 23 = some (.struct (Tryz.prog.fieldsOf 23)) := by kernel_rfl
theorem tg_p : Tryz.prog.stoodInHeld 23 = false := by kernel_rfl
theorem tg_g : Tryz.prog.eqGuardType Tryz.prog.depth 23 = false := by kernel_rfl
theorem tg_f : (Tryz.prog.fieldsOf 23).toList.map (fun f => (f.name, f.type, f.offset)) = [("Form", 3, 0), ("Host", 9, 1), ("Path", 9, 2), ("Query", 9, 3)] := by kernel_rfl
theorem tg_ff : ∃ f g h k, (Tryz.prog.fieldsOf 23).toList = [f, g, h, k] ∧ (f.type = 3 ∧ f.offset = 0 ∧ f.name = "Form") ∧ (g.type = 9 ∧ g.offset = 1 ∧ g.name = "Host") ∧ (h.type = 9 ∧ h.offset = 2 ∧ h.name = "Path") ∧ (k.type = 9 ∧ k.offset = 3 ∧ k.name = "Query") := by
  have h := tg_f
  generalize (Tryz.prog.fieldsOf 23).toList = l at h
  rcases l with _ | ⟨f, _ | ⟨g, _ | ⟨x, _ | ⟨y, _ | ⟨z, l⟩⟩⟩⟩⟩
  all_goals simp at h
  exact ⟨f, g, x, y, rfl, ⟨h.1.2.1, h.1.2.2, h.1.1⟩, ⟨h.2.1.2.1, h.2.1.2.2, h.2.1.1⟩, ⟨h.2.2.1.2.1, h.2.2.1.2.2, h.2.2.1.1⟩, ⟨h.2.2.2.2.1, h.2.2.2.2.2, h.2.2.2.1⟩⟩
def tgEq (t u : Tgt) : Bool := decide (t = u)
theorem tgEq_def (t u : Tgt) : tgEq t u = (t.form == u.form && (t.host == u.host && (t.path == u.path && t.query == u.query))) := by
  obtain ⟨a, b, c, d⟩ := t
  obtain ⟨a', b', c', d'⟩ := u
  rw [Bool.eq_iff_iff]
  simp [tgEq]
theorem run_eql_tg (t u : Tgt) (w : World) : (binOp .eql 23 (tgtV t) (tgtV u)).run Tryz.prog w = .ok (.bool (tgEq t u)) w := by
  obtain ⟨f, g, h, k, hl, ⟨h1, h2, h3⟩, ⟨h4, h5, h6⟩, ⟨h7, h8, h9⟩, ⟨h10, h11, h12⟩⟩ := tg_ff
  rw [run_eql_struct, show (10000 : Nat) = 9999 + 1 from rfl, run_equalIn_agg w 9999 _ _ _ tg_u tg_p, hl, tgEq_def]
  simp [Op.eqFields, h1, h2, h3, h4, h5, h6, h7, h8, h9, h10, h11, h12, go_sem, sv]
  by_cases e1 : t.form = u.form <;> by_cases e2 : t.host = u.host <;> by_cases e3 : t.path = u.path <;> by_cases e4 : t.query = u.query <;> simp [e1, e2, e3, e4]
theorem run_neq_tg (t u : Tgt) (w : World) : (binOp .neq 23 (tgtV t) (tgtV u)).run Tryz.prog w = .ok (.bool (!tgEq t u)) w := by
  obtain ⟨f, g, h, k, hl, ⟨h1, h2, h3⟩, ⟨h4, h5, h6⟩, ⟨h7, h8, h9⟩, ⟨h10, h11, h12⟩⟩ := tg_ff
  rw [run_neq_struct, show (10000 : Nat) = 9999 + 1 from rfl, run_equalIn_agg w 9999 _ _ _ tg_u tg_p, hl, tgEq_def]
  simp [Op.eqFields, h1, h2, h3, h4, h5, h6, h7, h8, h9, h10, h11, h12, go_sem, sv]
  by_cases e1 : t.form = u.form <;> by_cases e2 : t.host = u.host <;> by_cases e3 : t.path = u.path <;> by_cases e4 : t.query = u.query <;> simp [e1, e2, e3, e4]
theorem run_guard_tg (op : BinOp) (x y : Operand) (xs ys : Array Value) (w : World) : (eqGuard op 23 x y (.agg xs) (.agg ys)).run Tryz.prog w = .ok () w := run_eqGuard_agg w op _ x y xs ys tg_g
end Go.Proofs.YtlambdccmfnloaaGreatDoor
namespace Go.Proofs.YtlambdccmfnloaaGreatDoor
open Go.RowKit
set_option maxRecDepth 100000
set_option maxHeartbeats 2000000

theorem how_u : Tryz.prog.underlying 100 = some (.struct (Tryz.prog.fieldsOf 100)) := by kernel_rfl
theorem how_p : Tryz.prog.stoodInHeld 100 = false := by kernel_rfl
theorem how_g : Tryz.prog.eqGuardType Tryz.prog.depth 100 = false := by kernel_rfl
theorem how_f : (Tryz.prog.fieldsOf 100).toList.map (fun f => (f.name, f.type, f.offset)) = [("Kind", 3, 0), ("Length", 3, 1), ("Close", 4, 2), ("Expect", 4, 3)] := by kernel_rfl
theorem how_ff : ∃ f g h k, (Tryz.prog.fieldsOf 100).toList = [f, g, h, k] ∧ (f.type = 3 ∧ f.offset = 0 ∧ f.name = "Kind") ∧ (g.type = 3 ∧ g.offset = 1 ∧ g.name = "Length") ∧ (h.type = 4 ∧ h.offset = 2 ∧ h.name = "Close") ∧ (k.type = 4 ∧ k.offset = 3 ∧ k.name = "Expect") := by
  have h := how_f
  generalize (Tryz.prog.fieldsOf 100).toList = l at h
  rcases l with _ | ⟨f, _ | ⟨g, _ | ⟨x, _ | ⟨y, _ | ⟨z, l⟩⟩⟩⟩⟩
  all_goals simp at h
  exact ⟨f, g, x, y, rfl, ⟨h.1.2.1, h.1.2.2, h.1.1⟩, ⟨h.2.1.2.1, h.2.1.2.2, h.2.1.1⟩, ⟨h.2.2.1.2.1, h.2.2.1.2.2, h.2.2.1.1⟩, ⟨h.2.2.2.2.1, h.2.2.2.2.2, h.2.2.2.1⟩⟩
def howEq (t u : How) : Bool := decide (t = u)
theorem howEq_def (t u : How) : howEq t u = (t.kind == u.kind && (t.len == u.len && (t.close == u.close && t.expect == u.expect))) := by
  obtain ⟨a, b, c, d⟩ := t
  obtain ⟨a', b', c', d'⟩ := u
  rw [Bool.eq_iff_iff]
  simp [howEq]
theorem run_eql_how (t u : How) (w : World) : (binOp .eql 100 (howV t) (howV u)).run Tryz.prog w = .ok (.bool (howEq t u)) w := by
  obtain ⟨f, g, h, k, hl, ⟨h1, h2, h3⟩, ⟨h4, h5, h6⟩, ⟨h7, h8, h9⟩, ⟨h10, h11, h12⟩⟩ := how_ff
  rw [run_eql_struct, show (10000 : Nat) = 9999 + 1 from rfl, run_equalIn_agg w 9999 _ _ _ how_u how_p, hl, howEq_def]
  simp [Op.eqFields, h1, h2, h3, h4, h5, h6, h7, h8, h9, h10, h11, h12, go_sem]
  by_cases e1 : t.kind = u.kind <;> by_cases e2 : t.len = u.len <;> by_cases e3 : t.close = u.close <;> by_cases e4 : t.expect = u.expect <;> simp [e1, e2, e3, e4]
theorem run_guard_how (op : BinOp) (x y : Operand) (xs ys : Array Value) (w : World) : (eqGuard op 100 x y (.agg xs) (.agg ys)).run Tryz.prog w = .ok () w := run_eqGuard_agg w op _ x y xs ys how_g
end Go.Proofs.YtlambdccmfnloaaGreatDoor

/- Arguments as they come in: a target. -/
import Derived.Test.YtbkakoboaophoaaGreatDoorProg
import Derived.Test.YtbkakoboaophoaaGreatDoorPlain
import Derived.SizedLaws
import Derived.WideShapes
import Derived.Lib.SmallJoins
namespace Go.Proofs.YtbkakoboaophoaaGreatDoor
open Go.ChangeShapes Go.WideShapes Go.RowKit
set_option maxRecDepth 100000

theorem tg_und : ∃ f g h k, Tryz.prog.underlying 30 = some (.struct #[f, g, h, k]) ∧ (f.type = 3 ∧ f.offset = 0) ∧ (g.type = 9 ∧ g.offset = 1) ∧ (h.type = 9 ∧ h.offset = 2) ∧ (k.type = 9 ∧ k.offset = 3) :=
  ⟨_, _, _, _, Tryz.underlying30, ⟨rfl, rfl⟩, ⟨rfl, rfl⟩, ⟨rfl, rfl⟩, ⟨rfl, rfl⟩⟩
theorem tg_cells : Tryz.prog.cellsOf 30 = 4 := by kernel_rfl
theorem tg_int : Tryz.prog.cellsOf 3 = 1 := by kernel_rfl
theorem tg_str : Tryz.prog.cellsOf 9 = 1 := by kernel_rfl
theorem open_tg {H : Type} {enc : TypeId × Value → H} {W : World} {r : Reach} {b0 : Nat} {v : Value} {d : DataW H} {p : List MemPlace} (hval : Value.okWide Tryz.prog W r b0 30 v)
    (h : DataW.Trod enc Tryz.prog W 0 (fun _ => true) true 30 v d p) :
    ∃ (f : Int) (x y z : ByteArray), v = .agg #[.int .i64 f, .string x, .string y, .string z] ∧ x.size ∈ d.weights Tryz.prog 30 ∧ y.size ∈ d.weights Tryz.prog 30 ∧ z.size ∈ d.weights Tryz.prog 30 := by
  obtain ⟨f, g, h1, k, hu, ⟨ft, fo⟩, ⟨gt, go⟩, ⟨ht, ho⟩, ⟨kt, ko⟩⟩ := tg_und
  obtain ⟨cs, rfl, hsz⟩ := okWide_struct hu hval
  rw [tg_cells] at hsz
  obtain ⟨c0, c1, c2, c3, rfl⟩ := Go.Joins.array4 hsz
  obtain ⟨fuel, hf⟩ := h
  obtain ⟨y0, y1, y2, y3, n, hx, -, q0, q1, q2, q3⟩ := Go.Joins.trod_struct4 hu hf
  simp only [Value.cells, ft, fo, gt, go, ht, ho, kt, ko, tg_int, tg_str, List.drop_zero, List.drop_succ_cons, List.take_succ_cons, List.take_zero] at q0 q1 q2 q3
  obtain ⟨a, e0, x0, -⟩ := DataW.trod_int Tryz.underlying3 q0
  obtain ⟨s1, e1, x1, -⟩ := DataW.trod_string Tryz.underlying9 q1
  obtain ⟨s2, e2, x2, -⟩ := DataW.trod_string Tryz.underlying9 q2
  obtain ⟨s3, e3, x3, -⟩ := DataW.trod_string Tryz.underlying9 q3
  simp only [List.cons.injEq, and_true] at e0 e1 e2 e3
  subst e0 e1 e2 e3
  simp only [Prod.mk.injEq] at hx
  obtain ⟨rfl, -⟩ := hx
  have hw : ∀ n ∈ [s1.size, s2.size, s3.size], n ∈ (DataW.agg [y0.1, y1.1, y2.1, y3.1]).weights Tryz.prog 30 := by
    intro n hn
    rw [DataW.weights]
    simp only [hu, x0, x1, x2, x3, ft, gt, ht, kt, List.map_cons, List.map_nil, DataW.weightsEach, DataW.weights]
    simpa [len_data] using hn
  exact ⟨a, s1, s2, s3, rfl, hw _ (by simp), hw _ (by simp), hw _ (by simp)⟩
end Go.Proofs.YtbkakoboaophoaaGreatDoor

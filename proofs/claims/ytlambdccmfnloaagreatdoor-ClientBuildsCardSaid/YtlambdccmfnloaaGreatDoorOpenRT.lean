/- Arguments opened: targets, requests. -/
import Derived.Test.YtlambdccmfnloaaGreatDoorProg
import Derived.Test.YtlambdccmfnloaaGreatDoorPlain
import Derived.SizedLaws
import Derived.WideShapes
import Derived.Lib.SmallJoins
import Derived.Deep.SlicePairs
import Derived.Test.YtlambdccmfnloaaGreatDoorOpen
import Derived.Test.YtlambdccmfnloaaGreatDoorSp1
namespace Go.Proofs.YtlambdccmfnloaaGreatDoor
open Go.ChangeShapes Go.WideShapes Go.RowKit
set_option maxRecDepth 100000

theorem tg_und : ∃ f g h k, Tryz.prog.underlying 23 = some (.struct #[f, g, h, k]) ∧ (f.type = 3 ∧ f.offset = 0) ∧ (g.type = 9 ∧ g.offset = 1) ∧ (h.type = 9 ∧ h.offset = 2) ∧ (k.type = 9 ∧ k.offset = 3) :=
  ⟨_, _, _, _, Tryz.underlying23, ⟨rfl, rfl⟩, ⟨rfl, rfl⟩, ⟨rfl, rfl⟩, ⟨rfl, rfl⟩⟩
theorem tg_cells : Tryz.prog.cellsOf 23 = 4 := by kernel_rfl
theorem tg_int : Tryz.prog.cellsOf 3 = 1 := by kernel_rfl
theorem tg_str : Tryz.prog.cellsOf 9 = 1 := by kernel_rfl
theorem open_tg {H : Type} {enc : TypeId × Value → H} {W : World} {r : Reach} {b0 : Nat} {v : Value} {d : DataW H} {p : List MemPlace} (hval : Value.okWide Tryz.prog W r b0 23 v)
    (h : DataW.Trod enc Tryz.prog W 0 (fun _ => true) true 23 v d p) :
    ∃ (f : Int) (x y z : ByteArray), v = .agg #[.int .i64 f, .string x, .string y, .string z] ∧ x.size ∈ d.weights Tryz.prog 23 ∧ y.size ∈ d.weights Tryz.prog 23 ∧ z.size ∈ d.weights Tryz.prog 23 := by
  obtain ⟨f, g, h1, k, hu, ⟨ft, fo⟩, ⟨gt, go⟩, ⟨ht, ho⟩, ⟨kt, ko⟩⟩ := tg_und
  obtain ⟨cs, rfl, hsz⟩ := okWide_struct hu hval
  rw [tg_cells] at hsz
  obtain ⟨c0, c1, c2, c3, rfl⟩ := Go.Joins.array4 hsz
  obtain ⟨fuel, hf⟩ := h
  obtain ⟨y0, y1, y2, y3, n, hx, -, q0, q1, q2, q3⟩ := Go.Joins.trod_struct4 hu hf
  simp only [Value.cells, ft, fo, gt, go, ht, ho, kt, ko, tg_int, tg_str, List.drop_zero, List.drop_succ_cons, List.take_succ_cons, List.take_zero] at q0 q1 q2 q3
  obtain ⟨a, e0, x0, -⟩ := DataW.trod_int Tryz.underlying3 q0
  obtain ⟨s1, e1, x1, -⟩ := DataW.trod_string Tryz.underlying9 q1
  obtain ⟨s2, e2, x2, -⟩ := DataW.trod_string Tryz.underlying9 q2
  obtain ⟨s3, e3, x3, -⟩ := DataW.trod_string Tryz.underlying9 q3
  simp only [List.cons.injEq, and_true] at e0 e1 e2 e3
  subst e0 e1 e2 e3
  simp only [Prod.mk.injEq] at hx
  obtain ⟨rfl, -⟩ := hx
  have hw : ∀ n ∈ [s1.size, s2.size, s3.size], n ∈ (DataW.agg [y0.1, y1.1, y2.1, y3.1]).weights Tryz.prog 23 := by
    intro n hn
    rw [DataW.weights]
    simp only [hu, x0, x1, x2, x3, ft, gt, ht, kt, List.map_cons, List.map_nil, DataW.weightsEach, DataW.weights]
    simpa [len_data] using hn
  exact ⟨a, s1, s2, s3, rfl, hw _ (by simp), hw _ (by simp), hw _ (by simp)⟩
end Go.Proofs.YtlambdccmfnloaaGreatDoor
namespace Go.Proofs.YtlambdccmfnloaaGreatDoor
open Go.ChangeShapes Go.WideShapes Go.RowKit Go.Deep
set_option maxRecDepth 100000

theorem cell_inI {w : World} {a : Addr} {v : Value} (h : w.cell? a = some v) : a.block < w.heap.size := by
  rcases Nat.lt_or_ge a.block w.heap.size with h1 | h1
  · exact h1
  · rw [World.cell?_of_block (w := w) (w' := w) rfl] at h; simp [World.cell?, Array.getElem?_eq_none h1] at h
theorem i64_cells : Tryz.prog.cellsOf 3 = 1 := by kernel_rfl
theorem open_nums {H : Type} {enc : TypeId × Value → H} {W : World} {r : Reach} {b0 : Nat} {v : Value} {d : DataW H} {p : List MemPlace} (hval : Value.okWide Tryz.prog W r b0 28 v)
    (h : DataW.Trod enc Tryz.prog W 0 (fun _ => true) true 28 v d p) :
    ∃ (A : Option Addr) (n c : Nat) (l : List Int), v = .slice A n c ∧ n ≤ c ∧ c ≤ maxLen ∧ Rd W W.heap.size 1 A n (l.map (Value.int .i64)) ∧ ∀ z ∈ l, -9223372036854775808 ≤ z ∧ z ≤ 9223372036854775807 := by
  obtain ⟨a, len, cap, rfl⟩ := okWide_slice Tryz.underlying28 hval
  obtain ⟨fuel, hf⟩ := h
  rcases Go.ChangeShapes.open_ints Tryz.underlying28 Tryz.underlying3 i64_cells (by simpa [Value.cells] using hf) with ⟨hcs, hx⟩ | ⟨a', len', cap', zs, hcs, -, hl, hm, hz, hx, hcell, hwf⟩
  · simp at hcs
    obtain ⟨rfl, rfl, rfl⟩ := hcs
    exact ⟨none, 0, 0, [], rfl, Nat.le_refl _, Nat.zero_le _, Rd.nil _ _ _ _, by simp⟩
  · simp at hcs
    obtain ⟨rfl, rfl, rfl⟩ := hcs
    simp only [if_true] at hz
    refine ⟨some a', len, cap, zs.take len, rfl, hl, hm, ⟨by simp; omega, fun h0 => ?_⟩, ?_⟩
    · obtain ⟨b, off, spot⟩ := a'
      have c0 := hcell 0 (by omega)
      have hspot : spot = none := by simpa [Addr.add] using World.cell?_spot c0
      subst hspot
      refine ⟨b, off, rfl, by have := cell_inI c0; simpa [Addr.add] using this, fun j u hu => ?_⟩
      have hj : j < len := by
        have := (List.getElem?_eq_some_iff.1 hu).1
        simp at this
        omega
      have hzj : zs[j]? = some (zs.getD j 0) := by rw [List.getD_eq_getElem?_getD, List.getElem?_eq_getElem (by omega)]; rfl
      simp only [List.getElem?_map, List.getElem?_take_of_lt hj, hzj, Option.map_some, Option.some.injEq] at hu
      rw [← hu, ← add_lit']
      exact hcell j (by omega)
    · intro z hz2
      have := hwf z (List.mem_of_mem_take hz2)
      simp only [Lit.wf, Bool.and_eq_true, decide_eq_true_eq] at this
      exact ⟨this.1, this.2⟩
end Go.Proofs.YtlambdccmfnloaaGreatDoor
namespace Go.Proofs.YtlambdccmfnloaaGreatDoor
open Go.ChangeShapes Go.WideShapes Go.RowKit Go.Deep
set_option maxRecDepth 100000

theorem open_fdsT {H : Type} {enc : TypeId × Value → H} {W : World} {fuel : Nat} {v : Value} {d : DataW H} {p : List MemPlace} (hf : DataW.trod enc Tryz.prog W 0 (fun _ => true) true fuel 24 [v] = some (d, p)) :
    ∃ A n c l, v = .slice A n c ∧ n ≤ c ∧ c ≤ maxLen ∧ Rd W W.heap.size 2 A n (fcells l) ∧ ∀ f ∈ l, f.1.length ∈ d.weights Tryz.prog 24 ∧ f.2.length ∈ d.weights Tryz.prog 24 := by
  obtain ⟨a, len, cap, hform⟩ := Go.Joins.slice_form Tryz.underlying24 hf
  obtain rfl : v = .slice a len cap := by simpa using hform
  obtain ⟨f, g, hu, ft, fo, gt, go⟩ := fd_und
  rcases open_slice_pairs Tryz.underlying24 hu fd_cells fo go (by rw [ft]; exact str_cells) (by rw [gt]; exact str_cells) hf with ⟨hcs, hx⟩ | ⟨a', len', cap', m, n, V0, V1, D0, D1, P0, P1, hcs, -, hl, hm, hmm, hx, hi⟩
  · simp at hcs
    obtain ⟨rfl, rfl, rfl⟩ := hcs
    exact ⟨none, 0, 0, [], rfl, Nat.le_refl _, Nat.zero_le _, Rd.nil _ _ _ _, by simp⟩
  · simp at hcs
    obtain ⟨rfl, rfl, rfl⟩ := hcs
    simp only [if_true] at hmm
    obtain rfl : cap = m := hmm.symm
    simp only [Prod.mk.injEq] at hx
    obtain ⟨rfl, -⟩ := hx
    have each : ∀ i, i < len → V0 i = sv (strB (V0 i)) ∧ V1 i = sv (strB (V1 i)) ∧ D0 i = .lit (.string (strB (V0 i))) ∧ D1 i = .lit (.string (strB (V1 i))) := by
      intro i hlt
      obtain ⟨-, -, h3, h4⟩ := hi i (by omega)
      rw [ft] at h3
      rw [gt] at h4
      obtain ⟨s0, e0, x0, -⟩ := DataW.trod_string Tryz.underlying9 h3
      obtain ⟨s1, e1, x1, -⟩ := DataW.trod_string Tryz.underlying9 h4
      simp only [List.cons.injEq, and_true] at e0 e1
      simp only [Prod.mk.injEq] at x0 x1
      rw [e0, e1, x0.1, x1.1]
      exact ⟨rfl, rfl, rfl, rfl⟩
    refine ⟨some a', len, cap, (List.range len).map (fun i => (strB (V0 i), strB (V1 i))), rfl, hl, hm, ⟨by rw [fcells_len]; simp, fun h0 => ?_⟩, ?_⟩
    · obtain ⟨b, off, spot⟩ := a'
      obtain ⟨c0, -, -, -⟩ := hi 0 (by omega)
      have hspot : spot = none := by simpa [Addr.add] using World.cell?_spot c0
      subst hspot
      refine ⟨b, off, rfl, by have := cell_in c0; simpa [Addr.add] using this, fun j u hu => ?_⟩
      obtain ⟨i, f', hf', hj⟩ := fcells_inv _ j u hu
      have hil : i < len := by
        have := (List.getElem?_eq_some_iff.1 hf').1
        simpa using this
      obtain ⟨k0, k1, -, -⟩ := hi i (by omega)
      obtain ⟨q0, q1, -, -⟩ := each i hil
      have hf2 : f' = (strB (V0 i), strB (V1 i)) := by simpa [hil, eq_comm] using hf'
      subst hf2
      rcases hj with ⟨rfl, rfl⟩ | ⟨rfl, rfl⟩
      · rw [← add_lit', k0, q0]; rfl
      · rw [← add_lit', k1, q1]; rfl
    · intro f' hf'
      obtain ⟨i, hil, rfl⟩ := List.mem_map.1 hf'
      have hil : i < len := by simpa using hil
      obtain ⟨-, -, q2, q3⟩ := each i hil
      have hin : DataW.agg [D0 i, D1 i] ∈ (List.range len).map fun i => DataW.agg [D0 i, D1 i] := List.mem_map.2 ⟨i, by simpa using hil, rfl⟩
      have hw : ∀ n ∈ (DataW.agg [D0 i, D1 i]).weights Tryz.prog 72, n ∈ (DataW.slice ((List.range len).map fun i => DataW.agg [D0 i, D1 i]) ((List.range (cap - len)).map fun j => DataW.agg [D0 (len + j), D1 (len + j)])).weights Tryz.prog 24 := by
        intro n hn
        rw [DataW.weights]
        simp only [Tryz.underlying24]
        exact List.mem_cons_of_mem _ (List.mem_append_left _ (weights_all_mem hin n hn))
      have hsub : ∀ n ∈ [(strB (V0 i)).length, (strB (V1 i)).length], n ∈ (DataW.agg [D0 i, D1 i]).weights Tryz.prog 72 := by
        intro n hn
        rw [DataW.weights]
        simp only [hu, q2, q3, ft, gt, List.map_cons, List.map_nil, DataW.weightsEach, DataW.weights]
        simpa using hn
      exact ⟨hw _ (hsub _ (by simp)), hw _ (hsub _ (by simp))⟩

theorem open_bytesT {H : Type} {enc : TypeId × Value → H} {W : World} {fuel : Nat} {v : Value} {d : DataW H} {p : List MemPlace} (hf : DataW.trod enc Tryz.prog W 0 (fun _ => true) true fuel 25 [v] = some (d, p)) :
    ∃ (A : Option Addr) (n c : Nat) (l : Bs), v = .slice A n c ∧ n ≤ c ∧ c ≤ maxLen ∧ Rd W W.heap.size 1 A n (l.map bv) := by
  obtain ⟨a, len, cap, hform⟩ := Go.Joins.slice_form Tryz.underlying25 hf
  obtain rfl : v = .slice a len cap := by simpa using hform
  rcases Go.ChangeShapes.open_ints Tryz.underlying25 Tryz.underlying5 u8_cells hf with ⟨hcs, hx⟩ | ⟨a', len', cap', zs, hcs, -, hl, hm, hz, hx, hcell, hwf⟩
  · simp at hcs
    obtain ⟨rfl, rfl, rfl⟩ := hcs
    exact ⟨none, 0, 0, [], rfl, Nat.le_refl _, Nat.zero_le _, Rd.nil _ _ _ _⟩
  · simp at hcs
    obtain ⟨rfl, rfl, rfl⟩ := hcs
    simp only [if_true] at hz
    refine ⟨some a', len, cap, (zs.take len).map (fun z => UInt8.ofNat z.toNat), rfl, hl, hm, ⟨by simp; omega, fun h0 => ?_⟩⟩
    obtain ⟨b, off, spot⟩ := a'
    have c0 := hcell 0 (by omega)
    have hspot : spot = none := by simpa [Addr.add] using World.cell?_spot c0
    subst hspot
    refine ⟨b, off, rfl, by have := cell_in c0; simpa [Addr.add] using this, fun j u hu => ?_⟩
    have hj : j < len := by
      have := (List.getElem?_eq_some_iff.1 hu).1
      simp at this
      omega
    have hzj : zs[j]? = some (zs.getD j 0) := by rw [List.getD_eq_getElem?_getD, List.getElem?_eq_getElem (by omega)]; rfl
    have hb := bv_int (hwf _ (List.mem_of_getElem? hzj))
    simp only [List.map_map, List.getElem?_map, List.getElem?_take_of_lt hj, hzj, Option.map_some, Option.some.injEq, Function.comp] at hu
    rw [← hu, hb, ← add_lit']
    exact hcell j (by omega)
theorem array10 {α : Type} {cs : Array α} (h : cs.size = 10) : ∃ c0 c1 c2 c3 c4 c5 c6 c7 c8 c9, cs = #[c0, c1, c2, c3, c4, c5, c6, c7, c8, c9] := by
  obtain ⟨l⟩ := cs
  match l, h with
  | [c0, c1, c2, c3, c4, c5, c6, c7, c8, c9], _ => exact ⟨c0, c1, c2, c3, c4, c5, c6, c7, c8, c9, rfl⟩
theorem trod_struct7 {H : Type} {P : Program} {w : World} {base : Nat} {spare : Nat → Bool} {held : Bool} {enc : TypeId × Value → H} {t : TypeId} {f0 f1 f2 f3 f4 f5 f6 : Field} {fuel : Nat} {cs : List Value} {x : DataW H × List MemPlace} (ht : P.underlying t = some (.struct #[f0, f1, f2, f3, f4, f5, f6])) (h : DataW.trod enc P w base spare held fuel t cs = some x) :
    ∃ y0 y1 y2 y3 y4 y5 y6 n, x.1 = .agg [y0.1, y1.1, y2.1, y3.1, y4.1, y5.1, y6.1] ∧ DataW.trod enc P w base spare held n f0.type ((cs.drop f0.offset).take (P.cellsOf f0.type)) = some y0 ∧
      DataW.trod enc P w base spare held n f1.type ((cs.drop f1.offset).take (P.cellsOf f1.type)) = some y1 ∧ DataW.trod enc P w base spare held n f2.type ((cs.drop f2.offset).take (P.cellsOf f2.type)) = some y2 ∧
      DataW.trod enc P w base spare held n f3.type ((cs.drop f3.offset).take (P.cellsOf f3.type)) = some y3 ∧ DataW.trod enc P w base spare held n f4.type ((cs.drop f4.offset).take (P.cellsOf f4.type)) = some y4 ∧
      DataW.trod enc P w base spare held n f5.type ((cs.drop f5.offset).take (P.cellsOf f5.type)) = some y5 ∧ DataW.trod enc P w base spare held n f6.type ((cs.drop f6.offset).take (P.cellsOf f6.type)) = some y6 := by
  obtain ⟨xs, n, _, rfl, hl, hlen, hf⟩ := DataW.trod_struct ht h
  match xs, hlen with
  | [y0, y1, y2, y3, y4, y5, y6], _ => exact ⟨y0, y1, y2, y3, y4, y5, y6, n, by simp, by simpa using hf 0 f0 rfl, by simpa using hf 1 f1 rfl, by simpa using hf 2 f2 rfl, by simpa using hf 3 f3 rfl, by simpa using hf 4 f4 rfl, by simpa using hf 5 f5 rfl, by simpa using hf 6 f6 rfl⟩
theorem rq_und : ∃ f0 f1 f2 f3 f4 f5 f6, Tryz.prog.underlying 27 = some (.struct #[f0, f1, f2, f3, f4, f5, f6]) ∧ (f0.type = 9 ∧ f0.offset = 0) ∧ (f1.type = 23 ∧ f1.offset = 1) ∧ (f2.type = 3 ∧ f2.offset = 5) ∧ (f3.type = 24 ∧ f3.offset = 6) ∧ (f4.type = 25 ∧ f4.offset = 7) ∧ (f5.type = 4 ∧ f5.offset = 8) ∧ (f6.type = 4 ∧ f6.offset = 9) :=
  ⟨_, _, _, _, _, _, _, Tryz.underlying27, ⟨rfl, rfl⟩, ⟨rfl, rfl⟩, ⟨rfl, rfl⟩, ⟨rfl, rfl⟩, ⟨rfl, rfl⟩, ⟨rfl, rfl⟩, ⟨rfl, rfl⟩⟩
theorem rq_cells : Tryz.prog.cellsOf 27 = 10 := by kernel_rfl
theorem fs_cells : Tryz.prog.cellsOf 24 = 1 := by kernel_rfl
theorem bs_cells : Tryz.prog.cellsOf 25 = 1 := by kernel_rfl
theorem bo_cells : Tryz.prog.cellsOf 4 = 1 := by kernel_rfl
theorem open_rq {H : Type} {enc : TypeId × Value → H} {W : World} {r : Reach} {b0 : Nat} {v : Value} {d : DataW H} {p : List MemPlace} (hval : Value.okWide Tryz.prog W r b0 27 v)
    (h : DataW.Trod enc Tryz.prog W 0 (fun _ => true) true 27 v d p) :
    ∃ x : RP, v = rqV x.r x.af x.cf x.ab x.cb ∧ RQR W x.r x.af x.ab ∧ x.r.f.length ≤ maxLen ∧ x.r.b.length ≤ x.cb ∧ (-9223372036854775808 ≤ x.r.v ∧ x.r.v ≤ 9223372036854775807) ∧ ∀ f ∈ x.r.f, f.1.length ∈ d.weights Tryz.prog 27 ∧ f.2.length ∈ d.weights Tryz.prog 27 := by
  obtain ⟨f0, f1, f2, f3, f4, f5, f6, hu, ⟨t0, o0⟩, ⟨t1, o1⟩, ⟨t2, o2⟩, ⟨t3, o3⟩, ⟨t4, o4⟩, ⟨t5, o5⟩, ⟨t6, o6⟩⟩ := rq_und
  obtain ⟨cs, rfl, hsz⟩ := okWide_struct hu hval
  rw [rq_cells] at hsz
  obtain ⟨c0, c1, c2, c3, c4, c5, c6, c7, c8, c9, rfl⟩ := array10 hsz
  obtain ⟨fuel, hf⟩ := h
  obtain ⟨y0, y1, y2, y3, y4, y5, y6, n, hx, q0, q1, q2, q3, q4, q5, q6⟩ := trod_struct7 hu hf
  simp only [Value.cells, t0, o0, t1, o1, t2, o2, t3, o3, t4, o4, t5, o5, t6, o6, tg_int, tg_str, tg_cells, fs_cells, bs_cells, bo_cells, List.drop_zero, List.drop_succ_cons, List.take_succ_cons, List.take_zero] at q0 q1 q2 q3 q4 q5 q6
  obtain ⟨s0, e0, -, -⟩ := DataW.trod_string Tryz.underlying9 q0
  obtain ⟨g0, g1, g2, g3, gu, ⟨gt0, go0⟩, ⟨gt1, go1⟩, ⟨gt2, go2⟩, ⟨gt3, go3⟩⟩ := tg_und
  obtain ⟨z0, z1, z2, z3, n1, -, -, r0, r1, r2, r3⟩ := Go.Joins.trod_struct4 gu q1
  simp only [gt0, go0, gt1, go1, gt2, go2, gt3, go3, tg_int, tg_str, List.drop_zero, List.drop_succ_cons, List.take_succ_cons, List.take_zero] at r0 r1 r2 r3
  obtain ⟨k1, e1, -, -⟩ := DataW.trod_int Tryz.underlying3 r0
  obtain ⟨s1, e2, -, -⟩ := DataW.trod_string Tryz.underlying9 r1
  obtain ⟨s2, e3, -, -⟩ := DataW.trod_string Tryz.underlying9 r2
  obtain ⟨s3, e4, -, -⟩ := DataW.trod_string Tryz.underlying9 r3
  obtain ⟨k2, e5, -, wk⟩ := DataW.trod_int Tryz.underlying3 q2
  obtain ⟨AF, nF, cF, lF, e6, hF1, hF0, hF2, hF3⟩ := open_fdsT q3
  obtain ⟨AB, nB, cB, lB, e7, hB1, -, hB2⟩ := open_bytesT q4
  obtain ⟨b1, e8, -⟩ := DataW.trod_bool Tryz.underlying4 q5
  obtain ⟨b2, e9, -⟩ := DataW.trod_bool Tryz.underlying4 q6
  simp only [List.cons.injEq, and_true] at e0 e1 e2 e3 e4 e5 e8 e9
  subst e0 e1 e2 e3 e4 e5 e6 e7 e8 e9
  have nf : lF.length = nF := by have := hF2.1; rw [fcells_len] at this; omega
  have nb : lB.length = nB := by simpa using hB2.1
  subst nf nb
  refine ⟨⟨⟨s0.data.toList, ⟨k1, s1.data.toList, s2.data.toList, s3.data.toList⟩, k2, lF, lB, b1, b2⟩, AF, cF, AB, cB⟩, ?_, ⟨hF2, hB2⟩, Nat.le_trans hF1 hF0, hB1, ?_, fun f hm => ?_⟩
  · rw [rqV]
  · simp only [Lit.wf, Bool.and_eq_true, decide_eq_true_eq] at wk
    exact ⟨wk.1, wk.2⟩
  · obtain ⟨w1, w2⟩ := hF3 f hm
    have hd : d = .agg [y0.1, y1.1, y2.1, y3.1, y4.1, y5.1, y6.1] := hx
    have key : ∀ m ∈ y3.1.weights Tryz.prog 24, m ∈ d.weights Tryz.prog 27 := by
      intro m hm2
      rw [hd, DataW.weights]
      simp only [hu]
      refine DataW.weights_mem_each (j := 3) (t := 24) (d := y3.1) ?_ rfl m hm2
      simp [t3]
    exact ⟨key _ w1, key _ w2⟩
end Go.Proofs.YtlambdccmfnloaaGreatDoor

/- Arguments as they come in: a response. -/
import Derived.Test.YtmjekdnfkgalbaaGreatDoorOpen
import Derived.Test.YtmjekdnfkgalbaaGreatDoorReE
import Derived.Lib.SmallJoins
namespace Go.Proofs.YtmjekdnfkgalbaaGreatDoor
open Go.ChangeShapes Go.WideShapes Go.RowKit Go.Deep
set_option maxRecDepth 100000

theorem open_fdsR {H : Type} {enc : TypeId × Value → H} {W : World} {fuel : Nat} {v : Value} {d : DataW H} {p : List MemPlace} (hf : DataW.trod enc Tryz.prog W 0 (fun _ => true) true fuel 36 [v] = some (d, p)) :
    ∃ A n c l, v = .slice A n c ∧ n ≤ c ∧ c ≤ maxLen ∧ Rd W W.heap.size 2 A n (fcells l) ∧ ∀ f ∈ l, f.1.length ∈ d.weights Tryz.prog 36 ∧ f.2.length ∈ d.weights Tryz.prog 36 := by
  obtain ⟨a, len, cap, hform⟩ := Go.Joins.slice_form Tryz.underlying36 hf
  obtain rfl : v = .slice a len cap := by simpa using hform
  obtain ⟨f, g, hu, ft, fo, gt, go⟩ := fd_und
  rcases open_slice_pairs Tryz.underlying36 hu fd_cells fo go (by rw [ft]; exact str_cells) (by rw [gt]; exact str_cells) hf with ⟨hcs, hx⟩ | ⟨a', len', cap', m, n, V0, V1, D0, D1, P0, P1, hcs, -, hl, hm, hmm, hx, hi⟩
  · simp at hcs
    obtain ⟨rfl, rfl, rfl⟩ := hcs
    exact ⟨none, 0, 0, [], rfl, Nat.le_refl _, Nat.zero_le _, Rd.nil _ _ _ _, by simp⟩
  · simp at hcs
    obtain ⟨rfl, rfl, rfl⟩ := hcs
    simp only [if_true] at hmm
    obtain rfl : cap = m := hmm.symm
    simp only [Prod.mk.injEq] at hx
    obtain ⟨rfl, -⟩ := hx
    have each : ∀ i, i < len → V0 i = sv (strB (V0 i)) ∧ V1 i = sv (strB (V1 i)) ∧ D0 i = .lit (.string (strB (V0 i))) ∧ D1 i = .lit (.string (strB (V1 i))) := by
      intro i hlt
      obtain ⟨-, -, h3, h4⟩ := hi i (by omega)
      rw [ft] at h3
      rw [gt] at h4
      obtain ⟨s0, e0, x0, -⟩ := DataW.trod_string Tryz.underlying9 h3
      obtain ⟨s1, e1, x1, -⟩ := DataW.trod_string Tryz.underlying9 h4
      simp only [List.cons.injEq, and_true] at e0 e1
      simp only [Prod.mk.injEq] at x0 x1
      rw [e0, e1, x0.1, x1.1]
      exact ⟨rfl, rfl, rfl, rfl⟩
    refine ⟨some a', len, cap, (List.range len).map (fun i => (strB (V0 i), strB (V1 i))), rfl, hl, hm, ⟨by rw [fcells_len]; simp, fun h0 => ?_⟩, ?_⟩
    · obtain ⟨b, off, spot⟩ := a'
      obtain ⟨c0, -, -, -⟩ := hi 0 (by omega)
      have hspot : spot = none := by simpa [Addr.add] using World.cell?_spot c0
      subst hspot
      refine ⟨b, off, rfl, by have := cell_in c0; simpa [Addr.add] using this, fun j u hu => ?_⟩
      obtain ⟨i, f', hf', hj⟩ := fcells_inv _ j u hu
      have hil : i < len := by
        have := (List.getElem?_eq_some_iff.1 hf').1
        simpa using this
      obtain ⟨k0, k1, -, -⟩ := hi i (by omega)
      obtain ⟨q0, q1, -, -⟩ := each i hil
      have hf2 : f' = (strB (V0 i), strB (V1 i)) := by simpa [hil, eq_comm] using hf'
      subst hf2
      rcases hj with ⟨rfl, rfl⟩ | ⟨rfl, rfl⟩
      · rw [← add_lit', k0, q0]; rfl
      · rw [← add_lit', k1, q1]; rfl
    · intro f' hf'
      obtain ⟨i, hil, rfl⟩ := List.mem_map.1 hf'
      have hil : i < len := by simpa using hil
      obtain ⟨-, -, q2, q3⟩ := each i hil
      have hin : DataW.agg [D0 i, D1 i] ∈ (List.range len).map fun i => DataW.agg [D0 i, D1 i] := List.mem_map.2 ⟨i, by simpa using hil, rfl⟩
      have hw : ∀ n ∈ (DataW.agg [D0 i, D1 i]).weights Tryz.prog 58, n ∈ (DataW.slice ((List.range len).map fun i => DataW.agg [D0 i, D1 i]) ((List.range (cap - len)).map fun j => DataW.agg [D0 (len + j), D1 (len + j)])).weights Tryz.prog 36 := by
        intro n hn
        rw [DataW.weights]
        simp only [Tryz.underlying36]
        exact List.mem_cons_of_mem _ (List.mem_append_left _ (weights_all_mem hin n hn))
      have hsub : ∀ n ∈ [(strB (V0 i)).length, (strB (V1 i)).length], n ∈ (DataW.agg [D0 i, D1 i]).weights Tryz.prog 58 := by
        intro n hn
        rw [DataW.weights]
        simp only [hu, q2, q3, ft, gt, List.map_cons, List.map_nil, DataW.weightsEach, DataW.weights]
        simpa using hn
      exact ⟨hw _ (hsub _ (by simp)), hw _ (hsub _ (by simp))⟩

theorem open_bytesR {H : Type} {enc : TypeId × Value → H} {W : World} {fuel : Nat} {v : Value} {d : DataW H} {p : List MemPlace} (hf : DataW.trod enc Tryz.prog W 0 (fun _ => true) true fuel 22 [v] = some (d, p)) :
    ∃ (A : Option Addr) (n c : Nat) (l : Bs), v = .slice A n c ∧ n ≤ c ∧ c ≤ maxLen ∧ Rd W W.heap.size 1 A n (l.map bv) := by
  obtain ⟨a, len, cap, hform⟩ := Go.Joins.slice_form Tryz.underlying22 hf
  obtain rfl : v = .slice a len cap := by simpa using hform
  rcases Go.ChangeShapes.open_ints Tryz.underlying22 Tryz.underlying5 u8_cells hf with ⟨hcs, hx⟩ | ⟨a', len', cap', zs, hcs, -, hl, hm, hz, hx, hcell, hwf⟩
  · simp at hcs
    obtain ⟨rfl, rfl, rfl⟩ := hcs
    exact ⟨none, 0, 0, [], rfl, Nat.le_refl _, Nat.zero_le _, Rd.nil _ _ _ _⟩
  · simp at hcs
    obtain ⟨rfl, rfl, rfl⟩ := hcs
    simp only [if_true] at hz
    refine ⟨some a', len, cap, (zs.take len).map (fun z => UInt8.ofNat z.toNat), rfl, hl, hm, ⟨by simp; omega, fun h0 => ?_⟩⟩
    obtain ⟨b, off, spot⟩ := a'
    have c0 := hcell 0 (by omega)
    have hspot : spot = none := by simpa [Addr.add] using World.cell?_spot c0
    subst hspot
    refine ⟨b, off, rfl, by have := cell_in c0; simpa [Addr.add] using this, fun j u hu => ?_⟩
    have hj : j < len := by
      have := (List.getElem?_eq_some_iff.1 hu).1
      simp at this
      omega
    have hzj : zs[j]? = some (zs.getD j 0) := by rw [List.getD_eq_getElem?_getD, List.getElem?_eq_getElem (by omega)]; rfl
    have hb := bv_int (hwf _ (List.mem_of_getElem? hzj))
    simp only [List.map_map, List.getElem?_map, List.getElem?_take_of_lt hj, hzj, Option.map_some, Option.some.injEq, Function.comp] at hu
    rw [← hu, hb, ← add_lit']
    exact hcell j (by omega)
theorem cell_inR {w : World} {a : Addr} {v : Value} (h : w.cell? a = some v) : a.block < w.heap.size := by
  rcases Nat.lt_or_ge a.block w.heap.size with h1 | h1
  · exact h1
  · rw [World.cell?_of_block (w := w) (w' := w) rfl] at h; simp [World.cell?, Array.getElem?_eq_none h1] at h
theorem i64_cellsR : Tryz.prog.cellsOf 3 = 1 := by kernel_rfl
theorem open_numsR {H : Type} {enc : TypeId × Value → H} {W : World} {fuel : Nat} {v : Value} {d : DataW H} {p : List MemPlace} (hf : DataW.trod enc Tryz.prog W 0 (fun _ => true) true fuel 34 [v] = some (d, p)) :
    ∃ (A : Option Addr) (n c : Nat) (l : List Int), v = .slice A n c ∧ n ≤ c ∧ c ≤ maxLen ∧ Rd W W.heap.size 1 A n (l.map (Value.int .i64)) ∧ ∀ z ∈ l, -9223372036854775808 ≤ z ∧ z ≤ 9223372036854775807 := by
  obtain ⟨a, len, cap, hform⟩ := Go.Joins.slice_form Tryz.underlying34 hf
  obtain rfl : v = .slice a len cap := by simpa using hform
  rcases Go.ChangeShapes.open_ints Tryz.underlying34 Tryz.underlying3 i64_cellsR hf with ⟨hcs, hx⟩ | ⟨a', len', cap', zs, hcs, -, hl, hm, hz, hx, hcell, hwf⟩
  · simp at hcs
    obtain ⟨rfl, rfl, rfl⟩ := hcs
    exact ⟨none, 0, 0, [], rfl, Nat.le_refl _, Nat.zero_le _, Rd.nil _ _ _ _, by simp⟩
  · simp at hcs
    obtain ⟨rfl, rfl, rfl⟩ := hcs
    simp only [if_true] at hz
    refine ⟨some a', len, cap, zs.take len, rfl, hl, hm, ⟨by simp; omega, fun h0 => ?_⟩, ?_⟩
    · obtain ⟨b, off, spot⟩ := a'
      have c0 := hcell 0 (by omega)
      have hspot : spot = none := by simpa [Addr.add] using World.cell?_spot c0
      subst hspot
      refine ⟨b, off, rfl, by have := cell_inR c0; simpa [Addr.add] using this, fun j u hu => ?_⟩
      have hj : j < len := by
        have := (List.getElem?_eq_some_iff.1 hu).1
        simp at this
        omega
      have hzj : zs[j]? = some (zs.getD j 0) := by rw [List.getD_eq_getElem?_getD, List.getElem?_eq_getElem (by omega)]; rfl
      simp only [List.getElem?_map, List.getElem?_take_of_lt hj, hzj, Option.map_some, Option.some.injEq] at hu
      rw [← hu, ← add_lit']
      exact hcell j (by omega)
    · intro z hz2
      have := hwf z (List.mem_of_mem_take hz2)
      simp only [Lit.wf, Bool.and_eq_true, decide_eq_true_eq] at this
      exact ⟨this.1, this.2⟩
theorem array4 {α : Type} {cs : Array α} (h : cs.size = 4) : ∃ c0 c1 c2 c3, cs = #[c0, c1, c2, c3] := by
  obtain ⟨l⟩ := cs
  match l, h with
  | [c0, c1, c2, c3], _ => exact ⟨c0, c1, c2, c3, rfl⟩
theorem rs_und : ∃ f0 f1 f2 f3, Tryz.prog.underlying 38 = some (.struct #[f0, f1, f2, f3]) ∧ (f0.type = 3 ∧ f0.offset = 0) ∧ (f1.type = 36 ∧ f1.offset = 1) ∧ (f2.type = 22 ∧ f2.offset = 2) ∧ (f3.type = 34 ∧ f3.offset = 3) :=
  ⟨_, _, _, _, Tryz.underlying38, ⟨rfl, rfl⟩, ⟨rfl, rfl⟩, ⟨rfl, rfl⟩, ⟨rfl, rfl⟩⟩
theorem rs_cells : Tryz.prog.cellsOf 38 = 4 := by kernel_rfl
theorem rs_int : Tryz.prog.cellsOf 3 = 1 := by kernel_rfl
theorem rs_fs : Tryz.prog.cellsOf 36 = 1 := by kernel_rfl
theorem rs_bs : Tryz.prog.cellsOf 22 = 1 := by kernel_rfl
theorem rs_is : Tryz.prog.cellsOf 34 = 1 := by kernel_rfl
/-- What is known of a response that came in: it may be read, its numbers are of the machine. -/
theorem open_rs {H : Type} {enc : TypeId × Value → H} {W : World} {r : Reach} {b0 : Nat} {v : Value} {d : DataW H} {p : List MemPlace} (hval : Value.okWide Tryz.prog W r b0 38 v)
    (h : DataW.Trod enc Tryz.prog W 0 (fun _ => true) true 38 v d p) :
    ∃ x : RsP, v = rsW x ∧ RsR W x ∧ (x.cf ≤ maxLen ∧ x.cb ≤ maxLen ∧ x.cp ≤ maxLen) ∧ (-9223372036854775808 ≤ x.r.st ∧ x.r.st ≤ 9223372036854775807) ∧ (∀ z ∈ x.r.p, -9223372036854775808 ≤ z ∧ z ≤ 9223372036854775807) ∧ ∀ f ∈ x.r.f, f.1.length ∈ d.weights Tryz.prog 38 ∧ f.2.length ∈ d.weights Tryz.prog 38 := by
  obtain ⟨f0, f1, f2, f3, hu, ⟨t0, o0⟩, ⟨t1, o1⟩, ⟨t2, o2⟩, ⟨t3, o3⟩⟩ := rs_und
  obtain ⟨cs, rfl, hsz⟩ := okWide_struct hu hval
  rw [rs_cells] at hsz
  obtain ⟨c0, c1, c2, c3, rfl⟩ := array4 hsz
  obtain ⟨fuel, hf⟩ := h
  obtain ⟨y0, y1, y2, y3, n, hx, -, q0, q1, q2, q3⟩ := Go.Joins.trod_struct4 hu hf
  simp only [Value.cells, t0, o0, t1, o1, t2, o2, t3, o3, rs_int, rs_fs, rs_bs, rs_is, List.drop_zero, List.drop_succ_cons, List.take_succ_cons, List.take_zero] at q0 q1 q2 q3
  obtain ⟨k1, e0, -, wk⟩ := DataW.trod_int Tryz.underlying3 q0
  obtain ⟨AF, nF, cF, lF, e1, hF1, hF0, hF2, hF3⟩ := open_fdsR q1
  obtain ⟨AB, nB, cB, lB, e2, hB1, hB0, hB2⟩ := open_bytesR q2
  obtain ⟨AP, nP, cP, lP, e3, hP1, hP0, hP2, hP3⟩ := open_numsR q3
  simp only [List.cons.injEq, and_true] at e0
  subst e0 e1 e2 e3
  have nf : lF.length = nF := by have := hF2.1; rw [fcells_len] at this; omega
  have nb : lB.length = nB := by simpa using hB2.1
  have np : lP.length = nP := by simpa using hP2.1
  subst nf nb np
  refine ⟨⟨⟨k1, lF, lB, lP⟩, AF, cF, AB, cB, AP, cP⟩, rfl, ⟨hF2, hB2, hP2, hF1, hB1, hP1⟩, ⟨hF0, hB0, hP0⟩, ?_, hP3, fun f hm => ?_⟩
  · simp only [Lit.wf, Bool.and_eq_true, decide_eq_true_eq] at wk
    exact ⟨wk.1, wk.2⟩
  · obtain ⟨w1, w2⟩ := hF3 f hm
    have hd : d = .agg [y0.1, y1.1, y2.1, y3.1] := congrArg Prod.fst hx
    have key : ∀ m ∈ y1.1.weights Tryz.prog 36, m ∈ d.weights Tryz.prog 38 := by
      intro m hm2
      rw [hd, DataW.weights]
      simp only [hu]
      refine DataW.weights_mem_each (j := 1) (t := 36) (d := y1.1) ?_ rfl m hm2
      simp [t1]
    exact ⟨key _ w1, key _ w2⟩
end Go.Proofs.YtmjekdnfkgalbaaGreatDoor

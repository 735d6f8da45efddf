/- Arguments as they come in: a row of responses; a row of truth values. -/
import Derived.Test.YtmjekdnfkgalbaaGreatDoorOpenRs
import Derived.Test.YtmjekdnfkgalbaaGreatDoorRsP
import Derived.Deep.Slices
namespace Go.Proofs.YtmjekdnfkgalbaaGreatDoor
open Go.ChangeShapes Go.WideShapes Go.RowKit Go.Deep
set_option maxRecDepth 100000

instance : Inhabited RsP := ⟨⟨rs0, none, 0, none, 0, none, 0⟩⟩
theorem open_rsF {H : Type} {enc : TypeId × Value → H} {W : World} {fuel : Nat} {cs : List Value} {y : DataW H × List MemPlace} (hf : DataW.trod enc Tryz.prog W 0 (fun _ => true) true fuel 38 cs = some y) :
    ∃ x : RsP, cs = x.cells ∧ RsR W x ∧ (x.cf ≤ maxLen ∧ x.cb ≤ maxLen ∧ x.cp ≤ maxLen) ∧ ∀ f ∈ x.r.f, f.1.length ∈ y.1.weights Tryz.prog 38 ∧ f.2.length ∈ y.1.weights Tryz.prog 38 := by
  obtain ⟨f0, f1, f2, f3, hu, ⟨t0, o0⟩, ⟨t1, o1⟩, ⟨t2, o2⟩, ⟨t3, o3⟩⟩ := rs_und
  obtain ⟨y0, y1, y2, y3, n, hx, hl, q0, q1, q2, q3⟩ := Go.Joins.trod_struct4 hu hf
  rw [rs_cells] at hl
  obtain ⟨c0, c1, c2, c3, rfl⟩ : ∃ c0 c1 c2 c3, cs = [c0, c1, c2, c3] := by
    match cs, hl with
    | [c0, c1, c2, c3], _ => exact ⟨c0, c1, c2, c3, rfl⟩
  simp only [t0, o0, t1, o1, t2, o2, t3, o3, rs_int, rs_fs, rs_bs, rs_is, List.drop_zero, List.drop_succ_cons, List.take_succ_cons, List.take_zero] at q0 q1 q2 q3
  obtain ⟨k1, e0, -, wk⟩ := DataW.trod_int Tryz.underlying3 q0
  obtain ⟨AF, nF, cF, lF, e1, hF1, hF0, hF2, hF3⟩ := open_fdsR q1
  obtain ⟨AB, nB, cB, lB, e2, hB1, hB0, hB2⟩ := open_bytesR q2
  obtain ⟨AP, nP, cP, lP, e3, hP1, hP0, hP2, -⟩ := open_numsR q3
  simp only [List.cons.injEq, and_true] at e0
  subst e0 e1 e2 e3
  have nf : lF.length = nF := by have := hF2.1; rw [fcells_len] at this; omega
  have nb : lB.length = nB := by simpa using hB2.1
  have np : lP.length = nP := by simpa using hP2.1
  subst nf nb np
  refine ⟨⟨⟨k1, lF, lB, lP⟩, AF, cF, AB, cB, AP, cP⟩, rfl, ⟨hF2, hB2, hP2, hF1, hB1, hP1⟩, ⟨hF0, hB0, hP0⟩, fun f hm => ?_⟩
  obtain ⟨w1, w2⟩ := hF3 f hm
  have key : ∀ m ∈ y1.1.weights Tryz.prog 36, m ∈ y.1.weights Tryz.prog 38 := by
    intro m hm2
    rw [hx, DataW.weights]
    simp only [hu]
    refine DataW.weights_mem_each (j := 1) (t := 36) (d := y1.1) ?_ rfl m hm2
    simp [t1]
  exact ⟨key _ w1, key _ w2⟩
theorem spC_inv (l : List RsP) (j : Nat) (u : Value) (h : (spC l)[j]? = some u) : ∃ i r x, r < 4 ∧ j = i * 4 + r ∧ l[i]? = some x ∧ x.cells[r]? = some u := by
  have hj : j < (spC l).length := (List.getElem?_eq_some_iff.1 h).1
  rw [spC_len] at hj
  have hi : j / 4 < l.length := by omega
  have e : j = j / 4 * 4 + j % 4 := by omega
  refine ⟨j / 4, j % 4, l[j / 4], by omega, e, List.getElem?_eq_getElem hi, ?_⟩
  rw [← spC_at l (j / 4) _ (List.getElem?_eq_getElem hi) (j % 4) (by omega), ← e]
  exact h
theorem open_rss {H : Type} {enc : TypeId × Value → H} {W : World} {r : Reach} {b0 : Nat} {v : Value} {d : DataW H} {p : List MemPlace} (hval : Value.okWide Tryz.prog W r b0 24 v)
    (h : DataW.Trod enc Tryz.prog W 0 (fun _ => true) true 24 v d p) :
    ∃ (A : Option Addr) (n c : Nat) (l : List RsP), v = .slice A n c ∧ n ≤ c ∧ c ≤ maxLen ∧ RRs W A n l ∧ ∀ x ∈ l, (x.cf ≤ maxLen ∧ x.cb ≤ maxLen ∧ x.cp ≤ maxLen) ∧ ∀ f ∈ x.r.f, f.1.length ∈ d.weights Tryz.prog 24 ∧ f.2.length ∈ d.weights Tryz.prog 24 := by
  obtain ⟨a, len, cap, rfl⟩ := okWide_slice Tryz.underlying24 hval
  obtain ⟨fuel, hf⟩ := h
  rcases open_slice Tryz.underlying24 (by simpa [Value.cells] using hf) with ⟨hcs, hx⟩ | ⟨a', len', cap', m, n, D, Pl, hcs, -, hl, hm, hmm, hx, hi⟩
  · simp at hcs
    obtain ⟨rfl, rfl, rfl⟩ := hcs
    exact ⟨none, 0, 0, [], rfl, Nat.le_refl _, Nat.zero_le _, ⟨Rd.nil _ _ _ _, fun _ h => (by cases h)⟩, fun _ h => (by cases h)⟩
  · simp at hcs
    obtain ⟨rfl, rfl, rfl⟩ := hcs
    simp only [if_true] at hmm
    obtain rfl : cap = m := hmm.symm
    simp only [Prod.mk.injEq] at hx
    obtain ⟨rfl, -⟩ := hx
    rw [rs_cells] at hi
    have each : ∀ i, i < len → ∃ x : RsP, (∀ k, k < 4 → W.cell? (a'.add (i * 4 + k)) = x.cells[k]?) ∧ RsR W x ∧ (x.cf ≤ maxLen ∧ x.cb ≤ maxLen ∧ x.cp ≤ maxLen) ∧ ∀ f ∈ x.r.f, f.1.length ∈ (D i).weights Tryz.prog 38 ∧ f.2.length ∈ (D i).weights Tryz.prog 38 := by
      intro i hil
      obtain ⟨cs', h1, h2⟩ := hi i (by omega)
      obtain ⟨x, rfl, hR, hc, hw⟩ := open_rsF h2
      obtain ⟨_, hlen, hcell⟩ := World.cells?_some h1
      refine ⟨x, fun k hk => ?_, hR, hc, hw⟩
      have e0 := hcell k hk
      rw [add_add] at e0
      exact e0
    obtain ⟨X, hX⟩ := choose_lt each
    have hin : ∀ x ∈ (List.range len).map X, ∃ i, i < len ∧ x = X i := by
      intro x hx
      obtain ⟨i, hil, rfl⟩ := List.mem_map.1 hx
      exact ⟨i, by simpa using hil, rfl⟩
    refine ⟨some a', len, cap, (List.range len).map X, rfl, hl, hm, ⟨⟨by rw [spC_len]; simp, fun h0 => ?_⟩, ?_⟩, ?_⟩
    · obtain ⟨b, off, spot⟩ := a'
      have c0 := (hX 0 (by omega)).1 0 (by omega)
      have c0' : W.cell? ((⟨b, off, spot⟩ : Addr).add (0 * 4 + 0)) = some (.int .i64 (X 0).r.st) := c0
      have hspot : spot = none := by simpa [Addr.add] using World.cell?_spot c0'
      subst hspot
      refine ⟨b, off, rfl, by have := cell_in c0'; simpa [Addr.add] using this, fun j u hu => ?_⟩
      obtain ⟨i, k, x, hk4, rfl, hxi, hxu⟩ := spC_inv _ j u hu
      have hil : i < len := by
        have := (List.getElem?_eq_some_iff.1 hxi).1
        simpa using this
      have hx2 : x = X i := by simpa [hil, eq_comm] using hxi
      rw [← add_lit', (hX i hil).1 k hk4, ← hx2, hxu]
    · intro x hx
      obtain ⟨i, hil, rfl⟩ := hin x hx
      exact (hX i hil).2.1
    · intro x hx
      obtain ⟨i, hil, rfl⟩ := hin x hx
      obtain ⟨-, -, hc, hw⟩ := hX i hil
      refine ⟨hc, fun f hf => ?_⟩
      have hin2 : D i ∈ (List.range len).map D := List.mem_map.2 ⟨i, by simpa using hil, rfl⟩
      have key : ∀ n ∈ (D i).weights Tryz.prog 38, n ∈ (DataW.slice ((List.range len).map D) ((List.range (cap - len)).map fun j => D (len + j))).weights Tryz.prog 24 := by
        intro n hn
        rw [DataW.weights]
        simp only [Tryz.underlying24]
        exact List.mem_cons_of_mem _ (List.mem_append_left _ (weights_all_mem hin2 n hn))
      exact ⟨key _ (hw f hf).1, key _ (hw f hf).2⟩
theorem bool_cells : Tryz.prog.cellsOf 4 = 1 := by kernel_rfl
theorem open_bls {H : Type} {enc : TypeId × Value → H} {W : World} {r : Reach} {b0 : Nat} {v : Value} {d : DataW H} {p : List MemPlace} (hval : Value.okWide Tryz.prog W r b0 33 v)
    (h : DataW.Trod enc Tryz.prog W 0 (fun _ => true) true 33 v d p) :
    ∃ (A : Option Addr) (n c : Nat) (l : List Bool), v = .slice A n c ∧ n ≤ c ∧ c ≤ maxLen ∧ Rd W W.heap.size 1 A n (l.map Value.bool) := by
  obtain ⟨a, len, cap, rfl⟩ := okWide_slice Tryz.underlying33 hval
  obtain ⟨fuel, hf⟩ := h
  rcases open_slice1 Tryz.underlying33 bool_cells (by simpa [Value.cells] using hf) with ⟨hcs, hx⟩ | ⟨a', len', cap', m, n, V, D, Pl, hcs, -, hl, hm, hmm, hx, hi⟩
  · simp at hcs
    obtain ⟨rfl, rfl, rfl⟩ := hcs
    exact ⟨none, 0, 0, [], rfl, Nat.le_refl _, Nat.zero_le _, Rd.nil _ _ _ _⟩
  · simp at hcs
    obtain ⟨rfl, rfl, rfl⟩ := hcs
    simp only [if_true] at hmm
    obtain rfl : cap = m := hmm.symm
    have each : ∀ i, i < len → ∃ x : Bool, W.cell? (a'.add i) = some (.bool x) := by
      intro i hil
      obtain ⟨h1, h2⟩ := hi i (by omega)
      obtain ⟨x, e0, -⟩ := DataW.trod_bool Tryz.underlying4 h2
      simp only [List.cons.injEq, and_true] at e0
      exact ⟨x, by rw [h1, e0]⟩
    obtain ⟨X, hX⟩ := choose_lt each
    refine ⟨some a', len, cap, (List.range len).map X, rfl, hl, hm, ⟨by simp, fun h0 => ?_⟩⟩
    obtain ⟨b, off, spot⟩ := a'
    have c0 := hX 0 (by omega)
    have hspot : spot = none := by simpa [Addr.add] using World.cell?_spot c0
    subst hspot
    refine ⟨b, off, rfl, by have := cell_in c0; simpa [Addr.add] using this, fun j u hu => ?_⟩
    have hj : j < len := by
      have := (List.getElem?_eq_some_iff.1 hu).1
      simpa using this
    simp only [List.getElem?_map, List.getElem?_range hj, Option.map_some, Option.some.injEq] at hu
    rw [← hu, ← add_lit']
    exact hX j hj
end Go.Proofs.YtmjekdnfkgalbaaGreatDoor

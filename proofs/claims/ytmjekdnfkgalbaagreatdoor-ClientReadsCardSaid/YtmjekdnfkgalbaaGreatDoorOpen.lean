/- Arguments as they come in: a row of fields. -/
import Derived.Test.YtmjekdnfkgalbaaGreatDoorStatus
import Derived.Deep.SlicePairs
import Derived.SizedLaws
import Derived.WideShapes
namespace Go.Proofs.YtmjekdnfkgalbaaGreatDoor
open Go.ChangeShapes Go.WideShapes Go.RowKit Go.Deep
set_option maxRecDepth 100000

theorem weights_all_mem {H : Type} {P : Program} {e : TypeId} : ∀ {l : List (DataW H)} {d : DataW H}, d ∈ l → ∀ n ∈ d.weights P e, n ∈ DataW.weightsAll P e l
  | x :: l, d, h, n, hn => by
    rw [DataW.weightsAll, List.mem_append]
    rcases List.mem_cons.1 h with rfl | h
    · exact .inl hn
    · exact .inr (weights_all_mem h n hn)
theorem fd_und : ∃ f g, Tryz.prog.underlying 58 = some (.struct #[f, g]) ∧ f.type = 9 ∧ f.offset = 0 ∧ g.type = 9 ∧ g.offset = 1 := ⟨_, _, Tryz.underlying58, rfl, rfl, rfl, rfl⟩
theorem fd_cells : Tryz.prog.cellsOf 58 = 2 := by kernel_rfl
theorem str_cells : Tryz.prog.cellsOf 9 = 1 := by kernel_rfl
theorem fcells_inv : ∀ (l : List Fd) (j : Nat) (u : Value), (fcells l)[j]? = some u → ∃ i f, l[i]? = some f ∧ ((j = i * 2 ∧ u = sv f.1) ∨ (j = i * 2 + 1 ∧ u = sv f.2))
  | [], j, u, h => by simp [fcells] at h
  | g :: l, 0, u, h => ⟨0, g, rfl, .inl ⟨rfl, by simpa [fcells, eq_comm] using h⟩⟩
  | g :: l, 1, u, h => ⟨0, g, rfl, .inr ⟨rfl, by simpa [fcells, eq_comm] using h⟩⟩
  | g :: l, j + 2, u, h => by
    obtain ⟨i, f, hf, hj⟩ := fcells_inv l j u (by simpa [fcells] using h)
    refine ⟨i + 1, f, by simpa using hf, ?_⟩
    rcases hj with ⟨h1, h2⟩ | ⟨h1, h2⟩
    · exact .inl ⟨by omega, h2⟩
    · exact .inr ⟨by omega, h2⟩
theorem cell_in {w : World} {a : Addr} {v : Value} (h : w.cell? a = some v) : a.block < w.heap.size := by
  rcases Nat.lt_or_ge a.block w.heap.size with h1 | h1
  · exact h1
  · rw [World.cell?_of_block (w := w) (w' := w) rfl] at h; simp [World.cell?, Array.getElem?_eq_none h1] at h
def strB : Value → Bs
  | .string s => s.data.toList
  | _ => []

theorem open_fds {H : Type} {enc : TypeId × Value → H} {W : World} {r : Reach} {b0 : Nat} {v : Value} {d : DataW H} {p : List MemPlace} (hval : Value.okWide Tryz.prog W r b0 36 v)
    (h : DataW.Trod enc Tryz.prog W 0 (fun _ => true) true 36 v d p) :
    ∃ A n c l, v = .slice A n c ∧ n ≤ c ∧ c ≤ maxLen ∧ Rd W W.heap.size 2 A n (fcells l) ∧ ∀ f ∈ l, f.1.length ∈ d.weights Tryz.prog 36 ∧ f.2.length ∈ d.weights Tryz.prog 36 := by
  obtain ⟨a, len, cap, rfl⟩ := okWide_slice Tryz.underlying36 hval
  obtain ⟨fuel, hf⟩ := h
  obtain ⟨f, g, hu, ft, fo, gt, go⟩ := fd_und
  rcases open_slice_pairs Tryz.underlying36 hu fd_cells fo go (by rw [ft]; exact str_cells) (by rw [gt]; exact str_cells) (by simpa [Value.cells] using hf) with ⟨hcs, hx⟩ | ⟨a', len', cap', m, n, V0, V1, D0, D1, P0, P1, hcs, -, hl, hm, hmm, hx, hi⟩
  · simp at hcs
    obtain ⟨rfl, rfl, rfl⟩ := hcs
    exact ⟨none, 0, 0, [], rfl, Nat.le_refl _, Nat.zero_le _, Rd.nil _ _ _ _, by simp⟩
  · simp at hcs
    obtain ⟨rfl, rfl, rfl⟩ := hcs
    simp only [if_true] at hmm
    obtain rfl : cap = m := hmm.symm
    simp only [Prod.mk.injEq] at hx
    obtain ⟨rfl, -⟩ := hx
    have each : ∀ i, i < len → V0 i = sv (strB (V0 i)) ∧ V1 i = sv (strB (V1 i)) ∧ D0 i = .lit (.string (strB (V0 i))) ∧ D1 i = .lit (.string (strB (V1 i))) := by
      intro i hlt
      obtain ⟨-, -, h3, h4⟩ := hi i (by omega)
      rw [ft] at h3
      rw [gt] at h4
      obtain ⟨s0, e0, x0, -⟩ := DataW.trod_string Tryz.underlying9 h3
      obtain ⟨s1, e1, x1, -⟩ := DataW.trod_string Tryz.underlying9 h4
      simp only [List.cons.injEq, and_true] at e0 e1
      simp only [Prod.mk.injEq] at x0 x1
      rw [e0, e1, x0.1, x1.1]
      exact ⟨rfl, rfl, rfl, rfl⟩
    refine ⟨some a', len, cap, (List.range len).map (fun i => (strB (V0 i), strB (V1 i))), rfl, hl, hm, ⟨by rw [fcells_len]; simp, fun h0 => ?_⟩, ?_⟩
    · obtain ⟨b, off, spot⟩ := a'
      obtain ⟨c0, -, -, -⟩ := hi 0 (by omega)
      have hspot : spot = none := by simpa [Addr.add] using World.cell?_spot c0
      subst hspot
      refine ⟨b, off, rfl, by have := cell_in c0; simpa [Addr.add] using this, fun j u hu => ?_⟩
      obtain ⟨i, f', hf', hj⟩ := fcells_inv _ j u hu
      have hil : i < len := by
        have := (List.getElem?_eq_some_iff.1 hf').1
        simpa using this
      obtain ⟨k0, k1, -, -⟩ := hi i (by omega)
      obtain ⟨q0, q1, -, -⟩ := each i hil
      have hf2 : f' = (strB (V0 i), strB (V1 i)) := by simpa [hil, eq_comm] using hf'
      subst hf2
      rcases hj with ⟨rfl, rfl⟩ | ⟨rfl, rfl⟩
      · rw [← add_lit', k0, q0]; rfl
      · rw [← add_lit', k1, q1]; rfl
    · intro f' hf'
      obtain ⟨i, hil, rfl⟩ := List.mem_map.1 hf'
      have hil : i < len := by simpa using hil
      obtain ⟨-, -, q2, q3⟩ := each i hil
      have hin : DataW.agg [D0 i, D1 i] ∈ (List.range len).map fun i => DataW.agg [D0 i, D1 i] := List.mem_map.2 ⟨i, by simpa using hil, rfl⟩
      have hw : ∀ n ∈ (DataW.agg [D0 i, D1 i]).weights Tryz.prog 58, n ∈ (DataW.slice ((List.range len).map fun i => DataW.agg [D0 i, D1 i]) ((List.range (cap - len)).map fun j => DataW.agg [D0 (len + j), D1 (len + j)])).weights Tryz.prog 36 := by
        intro n hn
        rw [DataW.weights]
        simp only [Tryz.underlying36]
        exact List.mem_cons_of_mem _ (List.mem_append_left _ (weights_all_mem hin n hn))
      have hsub : ∀ n ∈ [(strB (V0 i)).length, (strB (V1 i)).length], n ∈ (DataW.agg [D0 i, D1 i]).weights Tryz.prog 58 := by
        intro n hn
        rw [DataW.weights]
        simp only [hu, q2, q3, ft, gt, List.map_cons, List.map_nil, DataW.weightsEach, DataW.weights]
        simpa using hn
      exact ⟨hw _ (hsub _ (by simp)), hw _ (hsub _ (by simp))⟩

theorem u8_cells : Tryz.prog.cellsOf 5 = 1 := by kernel_rfl
theorem bv_int {z : Int} (h : (Lit.int .u8 z).wf = true) : bv (UInt8.ofNat z.toNat) = .int .u8 z := by
  simp only [Lit.wf, Bool.and_eq_true, decide_eq_true_eq] at h
  have h0 : 0 ≤ z := h.1
  have h1 : z ≤ 255 := h.2
  unfold bv
  congr 1
  rw [UInt8.toNat_ofNat']
  omega
theorem open_bytes {H : Type} {enc : TypeId × Value → H} {W : World} {r : Reach} {b0 : Nat} {v : Value} {d : DataW H} {p : List MemPlace} (hval : Value.okWide Tryz.prog W r b0 22 v)
    (h : DataW.Trod enc Tryz.prog W 0 (fun _ => true) true 22 v d p) :
    ∃ (A : Option Addr) (n c : Nat) (l : Bs), v = .slice A n c ∧ n ≤ c ∧ c ≤ maxLen ∧ Rd W W.heap.size 1 A n (l.map bv) := by
  obtain ⟨a, len, cap, rfl⟩ := okWide_slice Tryz.underlying22 hval
  obtain ⟨fuel, hf⟩ := h
  rcases Go.ChangeShapes.open_ints Tryz.underlying22 Tryz.underlying5 u8_cells (by simpa [Value.cells] using hf) with ⟨hcs, hx⟩ | ⟨a', len', cap', zs, hcs, -, hl, hm, hz, hx, hcell, hwf⟩
  · simp at hcs
    obtain ⟨rfl, rfl, rfl⟩ := hcs
    exact ⟨none, 0, 0, [], rfl, Nat.le_refl _, Nat.zero_le _, Rd.nil _ _ _ _⟩
  · simp at hcs
    obtain ⟨rfl, rfl, rfl⟩ := hcs
    simp only [if_true] at hz
    refine ⟨some a', len, cap, (zs.take len).map (fun z => UInt8.ofNat z.toNat), rfl, hl, hm, ⟨by simp; omega, fun h0 => ?_⟩⟩
    obtain ⟨b, off, spot⟩ := a'
    have c0 := hcell 0 (by omega)
    have hspot : spot = none := by simpa [Addr.add] using World.cell?_spot c0
    subst hspot
    refine ⟨b, off, rfl, by have := cell_in c0; simpa [Addr.add] using this, fun j u hu => ?_⟩
    have hj : j < len := by
      have := (List.getElem?_eq_some_iff.1 hu).1
      simp at this
      omega
    have hzj : zs[j]? = some (zs.getD j 0) := by rw [List.getD_eq_getElem?_getD, List.getElem?_eq_getElem (by omega)]; rfl
    have hb := bv_int (hwf _ (List.mem_of_getElem? hzj))
    simp only [List.map_map, List.getElem?_map, List.getElem?_take_of_lt hj, hzj, Option.map_some, Option.some.injEq, Function.comp] at hu
    rw [← hu, hb, ← add_lit']
    exact hcell j (by omega)
end Go.Proofs.YtmjekdnfkgalbaaGreatDoor

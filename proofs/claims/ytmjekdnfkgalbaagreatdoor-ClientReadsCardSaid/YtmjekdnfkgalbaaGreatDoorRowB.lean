/- Rows of rows of bytes that a call made. -/
import Derived.Test.YtmjekdnfkgalbaaGreatDoorEncK
namespace Go.Proofs.YtmjekdnfkgalbaaGreatDoor
open Go.RowKit
set_option maxRecDepth 100000
set_option maxHeartbeats 2000000

theorem info_bb : (Tryz.prog.info? 22).map (fun i => (i.zero, i.size, i.bytes)) = some (some (.slice none 0 0), 1, 24) := by kernel_rfl
/-- A row of rows of bytes that the call owns; the rows themselves stand elsewhere. -/
def OPs (w : World) (base : Nat) (v : Value) (ps : List Bs) : Prop :=
  ∃ vs : List Value, Own w base 22 1 v ps.length vs ∧ ∀ (i : Nat) (p : Bs), ps[i]? = some p → ∃ (Ai : Option Addr) (ci : Nat), vs[i]? = some (Value.slice Ai p.length ci) ∧ Rd w w.heap.size 1 Ai p.length (p.map bv) ∧ (0 < p.length → ∀ a, Ai = some a → v.ownBlock ≠ some a.block)
theorem OPs.nil (w : World) (base : Nat) : OPs w base (.slice none 0 0) [] := ⟨[], Own.nil w base _ 1, fun i p hp => by simp at hp⟩
theorem OPs.belowW {w w' : World} {base : Nat} {v : Value} {ps : List Bs} (h : OPs w base v ps) (hb : Below w.heap.size w w') : OPs w' base v ps := by
  obtain ⟨vs, h1, h2⟩ := h
  refine ⟨vs, h1.belowW hb, fun i p hp => ?_⟩
  obtain ⟨Ai, ci, e, hr, hn⟩ := h2 i p hp
  exact ⟨Ai, ci, e, (hr.belowW (Nat.le_refl _) hb).more hb.size, hn⟩
theorem OPs.form {w : World} {base : Nat} {v : Value} {ps : List Bs} (h : OPs w base v ps) : ∃ A c, v = .slice A ps.length c ∧ RdS w w.heap.size A ps.length ps := by
  obtain ⟨vs, h1, h2⟩ := h
  obtain ⟨A, c, e, -, -, hr, -⟩ := h1.rd
  refine ⟨A, c, e, vs, hr, rfl, fun i p hp => ?_⟩
  obtain ⟨Ai, ci, e, hr, -⟩ := h2 i p hp
  exact ⟨Ai, ci, e, hr⟩
theorem OPs.lt {w : World} {base : Nat} {v : Value} {ps : List Bs} (h : OPs w base v ps) {k : Nat} (hk : v.ownBlock = some k) : k < w.heap.size := by
  obtain ⟨vs, h1, h2⟩ := h
  exact Own.lt2 h1 hk
theorem OPs.ext {w w' : World} {base : Nat} {v v' : Value} {ps : List Bs} (h : OPs w base v ps) (hx : Ext w w' v v') (hs : base ≤ w.heap.size) : Below base w w' := by
  obtain ⟨vs, h1, h2⟩ := h
  exact hx.below h1 (Nat.le_refl _) hs
theorem wp_appPs {ops : Array Oper} {rest : List Oper} {o : Oper} {a : Act} {Q : Exit → Act → World → Prop} {w0 : World} (hgd : o.guard = none) (s x : Operand)
    (ho : o.op = .call { callee := .builtin .append, args := #[s, x], argTypes := #[61, 61] })
    (base : Nat) (v : Value) (ps : List Bs) (hs : a.eval s = v) (hown : OPs w0 base v ps) (g : Nat) (hg : g = w0.heap.size) (A : Option Addr) (m c : Nat) (p : Bs) (hpm : p.length = m) (hx : a.eval x = .slice (some ⟨g, 0, none⟩) 1 1)
    (hr : Rd w0 w0.heap.size 1 A p.length (p.map bv)) (hne : 0 < p.length → ∀ b, A = some b → v.ownBlock ≠ some b.block)
    (hlen : ps.length + 1 ≤ 1000000) (hbase : base ≤ w0.heap.size)
    (h : ∀ v' w', OPs w' base v' (ps ++ [p]) → Ext w0 w' v v' → wpList Tryz.prog ops Q rest (a.put o.dst v') w') : wpList Tryz.prog ops Q (o :: rest) a (w0.alloc (.cells #[.slice A m c] 22)) := by
  subst hpm
  obtain ⟨i0, hi, hz0, hz1, hz2⟩ := info_parts info_bb
  subst hg
  obtain ⟨vs, hown, hrd⟩ := hown
  have hvl : vs.length = ps.length := by simpa using hown.1
  refine wpList_append_Own _ hgd s x 61 61 ho base 22 i0 _ 1 24 Tryz.underlying61 (.inl Tryz.underlying61) hi hz0 hz1 hz2 rfl (by decide) v ps.length _ hs (hown.alloc _) _ 1 [.slice A p.length c] hx (Src.of_rd (Rd.new w0 _ rfl [.slice A p.length c] _ 1 1 rfl) (by intro u hu; simp at hu; subst hu; rfl)) (by unfold maxLen; omega) (by omega) (Nat.le_trans hbase (by simp)) ?_
  intro v' w' ho' hg' ha
  have hx2 : Ext w0 w' v v' := ext_of (allocW (Below.refl _ _) _) hg' ha
  have keep : ∀ (Ai : Option Addr) (q : Bs), Rd w0 w0.heap.size 1 Ai q.length (q.map bv) → (0 < q.length → ∀ b, Ai = some b → v.ownBlock ≠ some b.block) → Rd w' w'.heap.size 1 Ai q.length (q.map bv) ∧ (0 < q.length → ∀ b, Ai = some b → v'.ownBlock ≠ some b.block) := by
    intro Ai q hq hn
    refine ⟨(hq.frm (Nat.le_refl _) hx2.fr fun h0 b hb => hn h0 b hb).more hx2.fr.size, fun h0 b hb hv => ?_⟩
    obtain ⟨b1, o1, e1, hlt, -⟩ := hq.2 h0
    have e2 := e1
    rw [hb] at e2
    injection e2 with e2
    subst e2
    rcases hx2.own _ hv with h1 | h1
    · exact hn h0 _ hb h1
    · simp only at h1; omega
  refine h v' w' ⟨vs ++ [.slice A p.length c], by rw [List.length_append]; exact ho', fun i q hq => ?_⟩ hx2
  rcases Nat.lt_or_ge i ps.length with hi | hi
  · rw [List.getElem?_append_left hi] at hq
    obtain ⟨Ai, ci, e, h1, h2⟩ := hrd i q hq
    obtain ⟨k1, k2⟩ := keep Ai q h1 h2
    exact ⟨Ai, ci, by rw [List.getElem?_append_left (by omega)]; exact e, k1, k2⟩
  · have hi2 : i = ps.length := by
      have := (List.getElem?_eq_some_iff.1 hq).1
      simp at this; omega
    subst hi2
    obtain rfl : p = q := by simpa using hq
    obtain ⟨k1, k2⟩ := keep A p hr hne
    exact ⟨A, c, by rw [List.getElem?_append_right (by omega), hvl]; simp, k1, k2⟩
theorem OB.apart {w : World} {base : Nat} {A : Option Addr} {c : Nat} {l : Bs} {S : Nat → Prop} (h : OB w base (.slice A l.length c) l) (hS : ∀ k, S k → k < base) : 0 < l.length → ∀ a, A = some a → ¬ S a.block := by
  intro hn a ha hs
  obtain ⟨g, cap, e, hg, -, -⟩ := Own.form h hn
  injection e with e1 e2 e3
  rw [e1] at ha
  injection ha with ha
  subst ha
  have := hS _ hs
  simp only at this
  omega
theorem encP_len (p : Bs) (h : p.length < 16777216) : (encP p).length ≤ p.length + 10 := by
  rcases Nat.eq_zero_or_pos p.length with h0 | h0
  · rw [List.eq_nil_of_length_eq_zero h0, encP_nil]; simp
  · rw [encP_pos p h0]
    have := digs_len' 16 (by omega) 5 p.length (by omega)
    simp only [List.length_append, List.length_cons, List.length_nil]
    omega
theorem flat_len : ∀ ps : List Bs, (∀ p ∈ ps, p.length < 16777216) → (ps.flatMap encP).length ≤ ps.flatten.length + 10 * ps.length
  | [], _ => by simp
  | p :: ps, h => by
    have h1 := encP_len p (h p (by simp))
    have h2 := flat_len ps fun q hq => h q (by simp [hq])
    rw [List.flatMap_cons, List.length_append, List.flatten_cons, List.length_append, List.length_cons]
    omega
theorem encL_len (ps : List Bs) : (encL ps).length = (ps.flatMap encP).length + 5 := by rw [encL, List.length_append]; rfl
end Go.Proofs.YtmjekdnfkgalbaaGreatDoor

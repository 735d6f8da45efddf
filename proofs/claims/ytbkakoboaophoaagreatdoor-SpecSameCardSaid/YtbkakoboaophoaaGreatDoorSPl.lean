/- All requests in bytes: what a reader and a parser that is fed in portions keep, in plain words. -/
import Derived.Test.YtbkakoboaophoaaGreatDoorPPl
namespace Go.Proofs.YtbkakoboaophoaaGreatDoor
open Go.RowKit
set_option maxRecDepth 100000

/-- At a reader's loop: so far these requests. -/
def RdI (b : Bs) (a : Nat) (d : List RQ) : Prop := a ≤ b.length ∧ rdL b = (d ++ (rdL (b.drop a)).1, ⟨a + (rdL (b.drop a)).2.used, (rdL (b.drop a)).2.phase, (rdL (b.drop a)).2.status⟩)
theorem RdI.start (b : Bs) : RdI b 0 [] := ⟨Nat.zero_le _, by rw [List.drop_zero, List.nil_append, Nat.zero_add]⟩
theorem RdI.no {b : Bs} {a : Nat} {d : List RQ} (h : RdI b a d) (h3 : (pFeed p0 (b.drop a)).2.phase ≠ 3) : rdL b = (d, ⟨a, (pFeed p0 (b.drop a)).2.phase, (pFeed p0 (b.drop a)).2.status⟩) := by
  have h2 := h.2
  rw [rdL_no _ h3, List.append_nil] at h2
  exact h2
theorem RdI.close {b : Bs} {a : Nat} {d : List RQ} (h : RdI b a d) (h3 : (pFeed p0 (b.drop a)).2.phase = 3) (hc : (pFeed p0 (b.drop a)).2.head.how.close = true) : rdL b = (d ++ [rqOf (pFeed p0 (b.drop a)).2], ⟨a + (pFeed p0 (b.drop a)).1, 0, 0⟩) := by
  have h2 := h.2
  rw [rdL_close _ h3 hc] at h2
  exact h2
theorem RdI.on {b : Bs} {a : Nat} {d : List RQ} (h : RdI b a d) (h3 : (pFeed p0 (b.drop a)).2.phase = 3) (hc : (pFeed p0 (b.drop a)).2.head.how.close = false) : RdI b (a + (pFeed p0 (b.drop a)).1) (d ++ [rqOf (pFeed p0 (b.drop a)).2]) ∧ 0 < (pFeed p0 (b.drop a)).1 := by
  have hp := pFeed_pos (b.drop a) (by omega)
  have hl := pFeed_le (b.drop a) p0
  rw [List.length_drop] at hl
  have h1 := h.1
  refine ⟨⟨by omega, ?_⟩, hp⟩
  have h2 := h.2
  rw [rdL_on _ h3 hc, List.drop_drop] at h2
  rw [h2]
  simp only [List.append_assoc, List.singleton_append, Nat.add_assoc]
/-- A parser that is fed in portions: k requests are taken, the next one begins at s. -/
structure SpI (b : Bs) (a k s : Nat) (r : PS) (cl : Bool) : Prop where
  ab : a ≤ b.length
  kl : k ≤ (rdL b).1.length
  on : cl = false → s ≤ a ∧ r.phase ≤ 2 ∧ pFeed p0 (b.drop s) = (a - s + (pFeed r (b.drop a)).1, (pFeed r (b.drop a)).2) ∧ (rdL b).1.drop k = (rdL (b.drop s)).1 ∧ (rdL b).2.phase = (rdL (b.drop s)).2.phase ∧ (rdL b).2.status = (rdL (b.drop s)).2.status
  off : cl = true → k = (rdL b).1.length ∧ (rdL b).2.phase = 0 ∧ (rdL b).2.status = 0 ∧ r = p0
theorem SpI.start (b : Bs) : SpI b 0 0 0 p0 false :=
  ⟨Nat.zero_le _, Nat.zero_le _, fun _ => ⟨Nat.le_refl _, by decide, by simp, by simp, by simp, by simp⟩, fun h => by cases h⟩
theorem drop_cons_of {α : Type} {l : List α} {k : Nat} {x : α} {r : List α} (h : l.drop k = x :: r) : k < l.length ∧ l[k]? = some x ∧ l.drop (k + 1) = r := by
  have hk : k < l.length := by
    rcases Nat.lt_or_ge k l.length with h1 | h1
    · exact h1
    · rw [List.drop_of_length_le h1] at h; cases h
  rw [List.drop_eq_getElem_cons hk] at h
  injection h with h1 h2
  exact ⟨hk, by rw [List.getElem?_eq_getElem hk, h1], h2⟩
theorem SpI.end_ {b : Bs} {a k s : Nat} {r : PS} (h : SpI b a k s r false) (ha : a = b.length) : k = (rdL b).1.length ∧ (rdL b).2.phase = r.phase ∧ (rdL b).2.status = r.status := by
  obtain ⟨h1, h2, h3, h4, h5, h6⟩ := h.on rfl
  rw [List.drop_of_length_le (l := b) (i := a) (by omega), pFeed_nil] at h3
  have h7 : (pFeed p0 (b.drop s)).2.phase ≠ 3 := by rw [h3]; simp only; omega
  rw [rdL_no _ h7, h3] at h4 h5 h6
  have h8 := List.drop_eq_nil_iff.1 h4
  have := h.kl
  exact ⟨by omega, h5, h6⟩
/-- Behind a portion. -/
theorem SpI.step {b : Bs} {a k s n : Nat} {r : PS} (h : SpI b a k s r false) (hn : 0 < n) (han : a + n ≤ b.length) (q : Nat × PS) (hq : q = pFeed r ((b.drop a).take n)) :
    q.1 ≤ n ∧ 0 < q.1 ∧ (q.2.phase = 4 → k = (rdL b).1.length ∧ (rdL b).2.phase = 4 ∧ (rdL b).2.status = q.2.status) ∧
      (q.2.phase = 3 → (rdL b).1[k]? = some (rqOf q.2) ∧ k < (rdL b).1.length ∧ SpI b (a + q.1) (k + 1) (a + q.1) p0 q.2.head.how.close) ∧
      (q.2.phase ≤ 2 → SpI b (a + q.1) k s q.2 false) := by
  obtain ⟨h1, h2, h3, h4, h5, h6⟩ := h.on rfl
  have ha : a = s + (a - s) := by omega
  have hd : (b.drop s).drop (a - s) = b.drop a := by rw [List.drop_drop, ← ha]
  obtain ⟨g1, g2, g3, -⟩ := pFeed_portion (pFeed p0 (b.drop s)) r (b.drop s) (a - s) n (by rw [List.length_drop]; omega) (by rw [hd]; exact h3) q (by rw [hd]; exact hq)
  have hd2 : (b.drop s).drop (a - s + q.1) = b.drop (a + q.1) := by rw [List.drop_drop]; congr 1; omega
  rw [hd2] at g3
  have hpos : 0 < q.1 := by
    obtain ⟨c, l, hcl⟩ : ∃ c l, (b.drop a).take n = c :: l := by
      cases hx : (b.drop a).take n with
      | nil =>
        have := congrArg List.length hx
        rw [List.length_take, List.length_drop, List.length_nil] at this; omega
      | cons c l => exact ⟨c, l, rfl⟩
    rw [hq, hcl, pFeed_on r c l h2]; simp only; omega
  refine ⟨g1, hpos, fun h7 => ?_, fun h7 => ?_, fun h7 => ?_⟩
  · rw [pFeed_off q.2 _ (by omega)] at g3
    have h8 : (pFeed p0 (b.drop s)).2.phase ≠ 3 := by rw [g3]; simp only; omega
    rw [rdL_no _ h8, g3] at h4 h5 h6
    have h9 := List.drop_eq_nil_iff.1 h4
    have := h.kl
    exact ⟨by omega, by rw [h5]; exact h7, h6⟩
  · rw [pFeed_off q.2 _ (by omega), Nat.add_zero] at g3
    have h8 : (pFeed p0 (b.drop s)).2.phase = 3 := by rw [g3]; exact h7
    have hs : s + (pFeed p0 (b.drop s)).1 = a + q.1 := by rw [g3]; simp only; omega
    cases hc : q.2.head.how.close
    · rw [rdL_on _ h8 (by rw [g3]; exact hc), List.drop_drop, hs, g3] at h4 h5 h6
      obtain ⟨i1, i2, i3⟩ := drop_cons_of h4
      refine ⟨i2, i1, ⟨by omega, i1, fun _ => ⟨Nat.le_refl _, by decide, ?_, i3, h5, h6⟩, fun h9 => by cases h9⟩⟩
      rw [Nat.sub_self, Nat.zero_add]
    · rw [rdL_close _ h8 (by rw [g3]; exact hc), g3] at h4 h5 h6
      obtain ⟨i1, i2, i3⟩ := drop_cons_of h4
      have h9 := List.drop_eq_nil_iff.1 i3
      exact ⟨i2, i1, ⟨by omega, i1, fun h10 => (by cases h10), fun _ => ⟨by omega, h5, h6, rfl⟩⟩⟩
  · exact ⟨by omega, h.kl, fun _ => ⟨by omega, h7, by rw [g3]; exact Prod.ext (by simp only; omega) rfl, h4, h5, h6⟩, fun h9 => by cases h9⟩
end Go.Proofs.YtbkakoboaophoaaGreatDoor

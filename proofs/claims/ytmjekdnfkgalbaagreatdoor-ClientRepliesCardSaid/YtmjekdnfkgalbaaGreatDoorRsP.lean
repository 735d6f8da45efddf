/- client: the responses of some bytes, in plain words. -/
import Derived.Test.YtmjekdnfkgalbaaGreatDoorRgJ
namespace Go.Proofs.YtmjekdnfkgalbaaGreatDoor
open Go.RowKit
set_option maxRecDepth 100000
set_option maxHeartbeats 4000000

/-- What is read at the beginning of some bytes. -/
def rdR (head : Bool) (r : Bs) : R3 (Rs × Bool) := (goL (r.length + 1) rl0 r).bind (bodR head)
theorem readR_eq (head : Bool) (r : Bs) : readR head r = readOf r (rdR head r) := rfl
theorem rdR_len (hd : Bool) (r : Bs) (a : Rs × Bool) (u : Bs) (h : rdR hd r = .ok a u) : u.length ≤ r.length ∧ a.1.f.length ≤ 24 ∧ a.1.b.length ≤ r.length ∧ a.1.p.length ≤ r.length := by
  unfold rdR at h
  rcases hg : goL (r.length + 1) rl0 r with _ | _ | ⟨x, t⟩
  · rw [hg] at h; cases h
  · rw [hg] at h; cases h
  · obtain ⟨h1, h2⟩ := go_le _ _ _ _ _ hg (by decide)
    rw [hg, R3.bind_ok, bodR] at h
    split at h
    · injection h with h3 h4
      subst h3; subst h4
      exact ⟨h2, h1, Nat.zero_le _, Nat.zero_le _⟩
    split at h
    · rcases hc : chkR (t.length + 1) [] [] t with _ | _ | ⟨y, v⟩
      · rw [hc] at h; cases h
      · rw [hc] at h; cases h
      · have := chk_le _ _ _ _ _ _ hc
        simp only [List.length_nil] at this
        rw [hc, R3.bind_ok] at h
        injection h with h3 h4
        subst h3; subst h4
        exact ⟨by omega, h1, by show y.1.length ≤ _; omega, by show y.2.length ≤ _; omega⟩
    split at h
    · cases h
    · injection h with h3 h4
      subst h3; subst h4
      refine ⟨by rw [List.length_drop]; omega, h1, ?_, Nat.zero_le _⟩
      show (t.take x.len).length ≤ _
      rw [List.length_take]; omega
theorem read_cases (hd : Bool) (r : Bs) (y : Rs) (cl : Bool) (k : Nat) (er : Int) (h : readR hd r = (y, cl, k, er)) :
    (er = 12 ∧ rdR hd r = .short) ∨ (er = 8 ∧ rdR hd r = .bad) ∨ (er = 0 ∧ ∃ t, rdR hd r = .ok (y, cl) t ∧ k = r.length - t.length ∧ t.length ≤ r.length) := by
  rw [readR_eq] at h
  rcases hx : rdR hd r with _ | _ | ⟨a, t⟩
  · rw [hx] at h
    injection h with h1 h2; injection h2 with h3 h4; injection h4 with h5 h6
    exact .inl ⟨h6.symm, rfl⟩
  · rw [hx] at h
    injection h with h1 h2; injection h2 with h3 h4; injection h4 with h5 h6
    exact .inr (.inl ⟨h6.symm, rfl⟩)
  · have hl := (rdR_len hd r a t hx).1
    rw [hx] at h
    injection h with h1 h2; injection h2 with h3 h4; injection h4 with h5 h6
    exact .inr (.inr ⟨h6.symm, t, by rw [← h1, ← h3], h5.symm, hl⟩)
/-- Words that a body may be sent are left out. -/
def skipW : Nat → Bs → Nat
  | 0, _ => 0
  | n + 1, b => if contW.isPrefixOf b then 25 + skipW n (b.drop 25) else 0
theorem skip_yes (n : Nat) (b : Bs) (h : contW.isPrefixOf b = true) : skipW (n + 1) b = 25 + skipW n (b.drop 25) := by rw [skipW, if_pos h]
theorem skip_no (n : Nat) (b : Bs) (h : contW.isPrefixOf b = false) : skipW n b = 0 := by
  cases n
  · rfl
  · rw [skipW, h]; rfl
theorem pfxQ_len (p b : Bs) (h : p.isPrefixOf b = true) : p.length ≤ b.length := by
  obtain ⟨t, rfl⟩ := List.isPrefixOf_iff_prefix.1 h
  rw [List.length_append]; omega
theorem skip_le : ∀ (n : Nat) (b : Bs), skipW n b ≤ b.length
  | 0, b => Nat.zero_le _
  | n + 1, b => by
    cases h : contW.isPrefixOf b
    · rw [skip_no _ _ h]; exact Nat.zero_le _
    · have h1 := pfxQ_len _ _ h
      have h2 := skip_le n (b.drop 25)
      rw [skip_yes _ _ h]
      rw [List.length_drop] at h2
      have h3 : contW.length = 25 := rfl
      omega
def headM : Bs := [72, 69, 65, 68]
/-- The responses, where they end, an error. -/
def repsL (b : Bs) : List Bs → Nat → List Rs → List Rs × Nat × Int
  | [], n, l => (l, n, 0)
  | m :: ms, n, l =>
    if (b.drop (n + skipW (b.length + 1) (b.drop n))).isPrefixOf contW then (l, n, 0)
    else match rdR (decide (m = headM)) (b.drop (n + skipW (b.length + 1) (b.drop n))) with
      | .short => (l, n, 0)
      | .bad => ([], 0, 8)
      | .ok a t => if a.2 then (l ++ [a.1], b.length - t.length, 0) else repsL b ms (b.length - t.length) (l ++ [a.1])
theorem reps_nil (b : Bs) (n : Nat) (l : List Rs) : repsL b [] n l = (l, n, 0) := by rw [repsL]
theorem reps_stop (b : Bs) (m : Bs) (ms : List Bs) (n q : Nat) (l : List Rs) (hq : n + skipW (b.length + 1) (b.drop n) = q) (h : (b.drop q).isPrefixOf contW = true ∨ rdR (decide (m = headM)) (b.drop q) = .short) : repsL b (m :: ms) n l = (l, n, 0) := by
  rw [repsL, hq]
  split
  · rfl
  · rename_i h1
    rcases h with h | h
    · exact absurd h h1
    · rw [h]
theorem reps_bad (b : Bs) (m : Bs) (ms : List Bs) (n q : Nat) (l : List Rs) (hq : n + skipW (b.length + 1) (b.drop n) = q) (h : (b.drop q).isPrefixOf contW = false) (h2 : rdR (decide (m = headM)) (b.drop q) = .bad) : repsL b (m :: ms) n l = ([], 0, 8) := by
  rw [repsL, hq, h, h2]; rfl
theorem reps_ok (b : Bs) (m : Bs) (ms : List Bs) (n q : Nat) (l : List Rs) (a : Rs) (cl : Bool) (t : Bs) (hq : n + skipW (b.length + 1) (b.drop n) = q) (h : (b.drop q).isPrefixOf contW = false) (h2 : rdR (decide (m = headM)) (b.drop q) = .ok (a, cl) t) :
    repsL b (m :: ms) n l = if cl then (l ++ [a], b.length - t.length, 0) else repsL b ms (b.length - t.length) (l ++ [a]) := by
  rw [repsL, hq, h, h2]; rfl
end Go.Proofs.YtmjekdnfkgalbaaGreatDoor

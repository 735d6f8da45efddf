/- reply: heads, words, sizes (plain). -/
import Derived.Test.YtlambdccmfnloaaDoorRhB
namespace Go.Proofs.YtlambdccmfnloaaDoor
open Go.RowKit
set_option maxRecDepth 100000
set_option maxHeartbeats 4000000

/-! ## Sizes -/
def heavyF (n : Nat) : List Fd → Bool
  | [] => false
  | f :: l => if 4000 < n + 5 + f.1.length + f.2.length then true else heavyF (n + 5 + f.1.length + f.2.length) l
/-- Is a response more than is looked at? -/
def heavyR (r : Rs) : Bool := decide (4000 < r.b.length) || decide (500 < r.p.length) || heavyF r.b.length r.f
theorem heavyF_no : ∀ (l : List Fd) (n : Nat), heavyF n l = false → n ≤ 4000 → (rfsL l).length + l.length + n ≤ 4000 ∧ ∀ f ∈ l, f.1.length ≤ 4000 ∧ f.2.length ≤ 4000
  | [], n, _, h => by simpa [rfsL] using h
  | f :: l, n, h, hn => by
    rw [heavyF] at h
    split at h
    · cases h
    · rename_i hc
      have ih := heavyF_no l _ h (by omega)
      refine ⟨?_, ?_⟩
      · have e : rfsL (f :: l) = rfL f ++ rfsL l := by simp [rfsL]
        rw [e, List.length_append, rfL]
        simp only [List.length_append, csB, crlf, List.length_cons, List.length_nil]
        have := ih.1
        omega
      · intro g hg
        rw [List.mem_cons] at hg
        rcases hg with rfl | hg
        · omega
        · exact ih.2 g hg
structure Light (r : Rs) : Prop where
  b : r.b.length ≤ 4000
  p : r.p.length ≤ 500
  f : (rfsL r.f).length + r.f.length ≤ 4000
  e : ∀ f ∈ r.f, f.1.length ≤ 4000 ∧ f.2.length ≤ 4000
theorem light_of (r : Rs) (h : heavyR r = false) : Light r := by
  rw [heavyR, Bool.or_eq_false_iff, Bool.or_eq_false_iff, decide_eq_false_iff_not, decide_eq_false_iff_not] at h
  obtain ⟨⟨h1, h2⟩, h3⟩ := h
  have := heavyF_no r.f _ h3 (by omega)
  exact ⟨by omega, by omega, by omega, this.2⟩
theorem start_len (st : Int) (h : st ≤ 9223372036854775807) : (startR st).length ≤ 100 := by
  have h1 := digs10_len st.toNat (by omega)
  have h2 := phrase_len st
  rw [startR]
  simp only [List.length_append, begB, crlf, List.length_cons, List.length_nil]
  omega
theorem code_len (r : Rs) (minor : Int) (h : r.b.length ≤ 9223372036854775807) : (codeR r minor).length ≤ 100 := by
  have h1 := digs10_len r.b.length h
  rw [codeR]
  split
  · simp
  · split
    · decide
    · simp only [List.length_append, clS, clN, csB, crlf, List.length_cons, List.length_nil]
      omega
theorem last_len (minor : Int) (close : Bool) : (lastR minor close).length ≤ 100 := by
  rw [lastR]
  split
  · decide
  · split <;> decide
theorem encP_lenR (q : Bs) (h : q.length ≤ 9223372036854775807) : (encP q).length ≤ q.length + 20 := by
  rw [encP]
  split
  · simp
  · have := digs_len' 16 (by omega) 15 q.length (by omega)
    simp only [List.length_append, List.length_cons, List.length_nil]
    omega
theorem encL_max (m : Nat) (hm : m ≤ 9223372036854775807) : ∀ ps : List Bs, (∀ q ∈ ps, q.length ≤ m) → (encL ps).length ≤ ps.length * (m + 20) + 5
  | [], _ => by simp [encL]
  | q :: ps, h => by
    have ih := encL_max m hm ps fun p hp => h p (List.mem_cons_of_mem _ hp)
    have hq := h q List.mem_cons_self
    have := encP_lenR q (by omega)
    have e : (encL (q :: ps)).length = (encP q).length + (encL ps).length := by simp [encL]
    rw [e, List.length_cons, Nat.succ_mul]
    omega
theorem encL_sum : ∀ ps : List Bs, (∀ q ∈ ps, q.length ≤ 9223372036854775807) → (encL ps).length ≤ ps.flatten.length + ps.length * 20 + 5
  | [], _ => by simp [encL]
  | q :: ps, h => by
    have ih := encL_sum ps fun p hp => h p (List.mem_cons_of_mem _ hp)
    have := encP_lenR q (h q List.mem_cons_self)
    have e : (encL (q :: ps)).length = (encP q).length + (encL ps).length := by simp [encL]
    rw [e, List.length_cons, List.flatten_cons, List.length_append]
    omega
theorem cutP_len (b : Bs) : ∀ (p : List Int) (at_ : Int), (cutP b at_ p).length = p.length ∧ ∀ q ∈ cutP b at_ p, q.length ≤ b.length
  | [], _ => ⟨rfl, by simp [cutP]⟩
  | a :: p, at_ => by
    have ih := cutP_len b p a
    refine ⟨by rw [cutP, List.length_cons, ih.1, List.length_cons], ?_⟩
    intro q hq
    rw [cutP, List.mem_cons] at hq
    rcases hq with rfl | hq
    · rw [List.length_drop, List.length_take]; omega
    · exact ih.2 q hq
theorem body_len (r : Rs) (head : Bool) (minor : Int) (h : Light r) : (bodyR r head minor).length ≤ 2100000 := by
  have hb := h.b
  have hp := h.p
  rw [bodyR]
  split
  · simp
  · split
    · obtain ⟨c1, c2⟩ := cutP_len r.b r.p 0
      have := encL_max 4000 (by omega) (cutP r.b 0 r.p) fun q hq => Nat.le_trans (c2 q hq) hb
      have h3 : (cutP r.b 0 r.p).length * (4000 + 20) ≤ 500 * (4000 + 20) := Nat.mul_le_mul_right _ (by rw [c1]; exact hp)
      omega
    · omega
theorem all_len (r : Rs) (head : Bool) (minor : Int) (close : Bool) (h : Light r) (hs : r.st ≤ 9223372036854775807) : (allR r head minor close).length ≤ 3000000 := by
  have h1 := start_len r.st hs
  have h2 := code_len r minor (by have := h.b; omega)
  have h3 := last_len minor close
  have h4 := body_len r head minor h
  have h5 := h.f
  rw [allR, headR]
  simp only [List.length_append, crlf, List.length_cons, List.length_nil] at *
  omega
theorem cut_sum (r : Rs) (h : Light r) (ho : isOneL r = true) : (encL (cutP r.b 0 r.p)).length ≤ 20000 := by
  obtain ⟨-, -, -, -, last, hlast, -⟩ := one_parts r ho
  have hb := h.b
  have hp := h.p
  obtain ⟨c1, c2⟩ := cutP_len r.b r.p 0
  obtain ⟨-, e2, -, -, e5, -⟩ := cut_props r.b r.p 0 last (by omega) (by omega) hlast
  have := encL_sum (cutP r.b 0 r.p) fun q hq => Nat.le_trans (c2 q hq) (by omega)
  have e3 : (cutP r.b 0 r.p).flatten.length ≤ r.b.length := by
    have := congrArg List.length e2
    rw [List.length_append, List.length_take, List.length_take] at this
    omega
  rw [c1] at this
  omega
theorem cut_flat (r : Rs) (h : Light r) (ho : isOneL r = true) : ((cutP r.b 0 r.p).flatMap encP).length ≤ 1000000 := by
  have := cut_sum r h ho
  rw [encL, List.length_append] at this
  omega
theorem all_short (r : Rs) (head : Bool) (minor : Int) (close : Bool) (h : Light r) (ho : isOneL r = true) : (allR r head minor close).length ≤ 65536 := by
  obtain ⟨⟨a1, a2⟩, -⟩ := one_parts r ho
  have h1 := start_len r.st (by omega)
  have h2 := code_len r minor (by have := h.b; omega)
  have h3 := last_len minor close
  have hb := h.b
  have h4 : (bodyR r head minor).length ≤ 20000 := by
    rw [bodyR]
    split
    · simp
    · split
      · exact cut_sum r h ho
      · omega
  have h5 := h.f
  rw [allR, headR]
  simp only [List.length_append, crlf, List.length_cons, List.length_nil] at *
  omega
theorem enc_light (r : Rs) (head : Bool) (minor : Int) (close : Bool) (h : Light r) : encR r head minor close = if isOneL r then (allR r head minor close, 0) else ([], 1) := by
  rw [encR]
  split
  · rename_i ho
    rw [if_neg (by have := all_short r head minor close h ho; omega)]
  · rfl

/-! ## To HEAD -/
def EndsC (l : Bs) : Prop := ∃ u, l = u ++ crlf
theorem EndsC.app {a b : Bs} (h : EndsC a) (hb : b = [] ∨ EndsC b) : EndsC (a ++ b) := by
  rcases hb with rfl | ⟨u, rfl⟩
  · rwa [List.append_nil]
  · exact ⟨a ++ u, by rw [List.append_assoc]⟩
theorem rfs_ends : ∀ l : List Fd, rfsL l = [] ∨ EndsC (rfsL l)
  | [] => .inl rfl
  | f :: l => by
    right
    have e : rfsL (f :: l) = rfL f ++ rfsL l := by simp [rfsL]
    rw [e]
    exact EndsC.app ⟨_, rfl⟩ (rfs_ends l)
theorem head_ends (r : Rs) (minor : Int) (close : Bool) : ∃ u, headR r minor close = u ++ [13, 10, 13, 10] := by
  have h1 : EndsC (startR r.st) := ⟨_, rfl⟩
  have h2 : codeR r minor = [] ∨ EndsC (codeR r minor) := by
    rw [codeR]
    split
    · exact .inl rfl
    · split
      · exact .inr ⟨_, rfl⟩
      · exact .inr ⟨_, rfl⟩
  have h3 : lastR minor close = [] ∨ EndsC (lastR minor close) := by
    rw [lastR]
    split
    · exact .inr ⟨_, rfl⟩
    · split
      · exact .inr ⟨_, rfl⟩
      · exact .inl rfl
  obtain ⟨u, hu⟩ := ((h1.app (rfs_ends r.f)).app h2).app h3
  exact ⟨u, by rw [headR, hu, List.append_assoc]; rfl⟩
theorem all_head (r : Rs) (minor : Int) (close : Bool) : allR r true minor close = headR r minor close := by
  rw [allR, bodyR]; simp
theorem all_get (r : Rs) (minor : Int) (close : Bool) : allR r false minor close = headR r minor close ++ bodyR r false minor := rfl
theorem body_none (r : Rs) (minor : Int) (h1 : r.b = []) (h2 : r.p = []) : bodyR r false minor = [] := by
  rw [bodyR, chunkedR, h1, h2]; simp

/-! ## Words that break a rule -/
def badsF : List Fd := [([99, 111, 110, 116, 101, 110, 116, 45, 108, 101, 110, 103, 116, 104], [53]), (teN, chunkedB), ([67, 79, 78, 78, 69, 67, 84, 73, 79, 78], [120]), ([97, 32, 98], [120]), ([97], [120, 13, 10, 121, 58, 32, 122]), ([97], [32, 120]), ([], [120])]
theorem bads_no : ∀ f ∈ badsF, ¬ (isF f = true ∧ ownN f.1 = false) := by decide
theorem words_no (r : Rs) (f : Fd) (hf : f ∈ badsF) : isOneL { r with f := r.f ++ [f] } = false := by
  rw [← Bool.not_eq_true]
  intro h
  obtain ⟨-, -, hok, -⟩ := one_parts _ h
  exact bads_no f hf (hok f (by simp))
end Go.Proofs.YtlambdccmfnloaaDoor

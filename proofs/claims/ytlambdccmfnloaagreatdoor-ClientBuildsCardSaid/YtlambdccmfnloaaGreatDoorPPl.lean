/- Requests bit by bit, in plain words. A parser in plain words: portions, long lines. A parser in plain words: what the document's parser knows besides. All requests in bytes, in plain words. -/
import Derived.Test.YtlambdccmfnloaaGreatDoorHd
import Derived.Test.YtlambdccmfnloaaGreatDoorNum
namespace Go.Proofs.YtlambdccmfnloaaGreatDoor
open Go.RowKit
set_option maxRecDepth 100000

/-! ### More of heads -/
structure HLen (h : HS) : Prop where
  len0 : 0 ≤ h.how.len
  len1 : h.how.len ≤ 2048
  kind : h.how.kind = 0 ∨ h.how.kind = 1 ∨ h.how.kind = 2
  none : h.how.kind = 0 → h.how.len = 0
  whole : h.whole = true → h.status = 0
  meth : h.begun = true ↔ h.method ≠ []
theorem hs0_len : HLen hs0 := ⟨by decide, by decide, by decide, by decide, by decide, by decide⟩
theorem sameN_nonneg : ∀ (t : List Bs) (n : Int), sameN t = some n → 0 ≤ n
  | [], n, h => by simp [sameN] at h
  | s :: r, n, h => by
    rw [sameN, Option.bind_eq_some_iff] at h
    obtain ⟨m, h1, h2⟩ := h
    have h3 : 0 ≤ m := by
      rw [numR] at h1
      split at h1
      · cases h1
      · exact numF_nonneg 10 (by decide) s 0 m (by decide) h1
    split at h2
    · injection h2 with h2; omega
    · cases h2
theorem lenT_le (t : List Bs) : 0 ≤ (lenT t).1 ∧ (lenT t).1 ≤ 2048 := by
  unfold lenT
  split
  · decide
  · rename_i n hn
    have h0 := sameN_nonneg t n hn
    split
    · exact ⟨h0, by simpa using ‹n ≤ 2048›⟩
    · decide
theorem lenL_le (cl : List Bs) : 0 ≤ (lenL cl).1 ∧ (lenL cl).1 ≤ 2048 := by
  unfold lenL
  split
  · decide
  · exact lenT_le _
theorem restL_how (first : Bool) (kind len : Int) (l : List Fd) : (restL first kind len l).1 = how0 ∨ ((restL first kind len l).1.kind = kind ∧ (restL first kind len l).1.len = len) := by
  unfold restL
  split
  · exact .inl rfl
  · simp only
    split
    · split
      · exact .inr ⟨rfl, rfl⟩
      · exact .inl rfl
    · exact .inr ⟨rfl, rfl⟩
def HowOk (y : How) : Prop := 0 ≤ y.len ∧ y.len ≤ 2048 ∧ (y.kind = 0 ∨ y.kind = 1 ∨ y.kind = 2) ∧ (y.kind = 0 → y.len = 0)
theorem how0_ok : HowOk how0 := ⟨by decide, by decide, by decide, by decide⟩
theorem frmL_how (b : Bool) (l : List Fd) : HowOk (frmL b l).1 := by
  unfold frmL
  split
  · simp only
    split
    · have hb : HowOk ⟨(bodyL b (valsL teN l) (valsL clN l)).1, (bodyL b (valsL teN l) (valsL clN l)).2.1, false, false⟩ := by
        unfold bodyL
        split
        · split
          · exact ⟨by simp, by simp, by simp, by simp⟩
          · obtain ⟨h1, h2⟩ := lenL_le (valsL clN l)
            exact ⟨h1, h2, by simp, by simp⟩
        · exact ⟨by simp, by simp, by simp, by simp⟩
      obtain ⟨h1, h2, h3, h4⟩ := hb
      rcases restL_how b (bodyL b (valsL teN l) (valsL clN l)).1 (bodyL b (valsL teN l) (valsL clN l)).2.1 l with h | ⟨e1, e2⟩
      · rw [h]; exact how0_ok
      · exact ⟨by rw [e2]; exact h1, by rw [e2]; exact h2, by rw [e1]; exact h3, by rw [e1, e2]; exact h4⟩
    · exact how0_ok
  · exact how0_ok
theorem startL_meth (s : Bs) (h : (startL s).1 = 0) : (startL s).2.1 ≠ [] := by
  revert h
  unfold startL
  split
  · rename_i m t v _
    split
    · rename_i hm
      have hm' : m ≠ [] := by
        rintro rfl
        revert hm; decide
      split
      · simp
      · split
        · split
          · intro _; exact hm'
          · split <;> simp
        · simp
    · simp
  · simp

theorem hLine_len (h : HS) (s : Bs) (hi : HLen h) : HLen (hLine h s) := by
  cases ho : h.on
  · rw [hLine_off h s ho]; exact hi
  obtain ⟨h1, h2⟩ := h.on_parts ho
  rw [hLine_on h s ho]
  split
  · exact ⟨hi.len0, hi.len1, hi.kind, hi.none, fun h9 => (by simp only at h9; rw [h1] at h9; cases h9), hi.meth⟩
  · split
    · split
      · exact ⟨hi.len0, hi.len1, hi.kind, hi.none, fun h9 => (by simp only at h9; rw [h1] at h9; cases h9), hi.meth⟩
      · split
        · rename_i h0
          exact ⟨hi.len0, hi.len1, hi.kind, hi.none, fun _ => h2, ⟨fun _ => startL_meth s h0, fun _ => rfl⟩⟩
        · exact ⟨hi.len0, hi.len1, hi.kind, hi.none, fun h9 => (by simp only at h9; rw [h1] at h9; cases h9), hi.meth⟩
    · split
      · obtain ⟨a1, a2, a3, a4⟩ := frmL_how (decide (1 ≤ h.minor)) h.flds
        exact ⟨a1, a2, a3, a4, fun h9 => by simpa using h9, hi.meth⟩
      · exact ⟨hi.len0, hi.len1, hi.kind, hi.none, fun h9 => (by simp only at h9; rw [h1] at h9; cases h9), hi.meth⟩

/-! ### A parser -/
structure PS where
  phase : Nat
  status : Int
  line : Bs
  head : HS
  left : Nat
  body : Bs
  chunks : Option CS
  fed : Nat
def p0 : PS := ⟨0, 0, [], hs0, 0, [], none, 0⟩
/-- Behind the head. -/
def pFrames (p : PS) : PS :=
  if p.head.how.kind = 2 then { p with phase := 2, chunks := some cs0 }
  else if 0 < p.head.how.len then { p with phase := 2, left := p.head.how.len.toNat }
  else { p with phase := 3 }
/-- The end of a line of the head. -/
def pEnd (p : PS) (h : HS) : PS :=
  if h.status ≠ 0 then { p with phase := 4, line := [], head := h, status := h.status }
  else if h.whole then pFrames { p with phase := 1, line := [], head := h } else { p with phase := 1, line := [], head := h }
/-- A byte of the head. -/
def pHead (p : PS) (c : UInt8) : PS :=
  if c = 10 then (if p.line.getLast? = some 13 then pEnd p (hLine p.head p.line.dropLast) else { p with phase := 4, status := 400 })
  else if 256 < p.line.length + (if c = 13 then 0 else 1) then { p with phase := 4, line := p.line ++ [c], status := if p.head.begun then 431 else 414 }
  else { p with phase := 1, line := p.line ++ [c] }
/-- Behind some bytes of a body in chunks. -/
def pChunk (p : PS) (r : CS) (n : Nat) : PS :=
  { p with chunks := some r, fed := p.fed + n, body := if r.whole then r.body else p.body, phase := if r.status ≠ 0 then 4 else if r.whole then 3 else 2, status := if r.status ≠ 0 then r.status else p.status }
/-- Behind some bytes of a body with a length. -/
def pLen (p : PS) (l : Bs) : PS := { p with body := p.body ++ l, left := p.left - l.length, fed := p.fed + l.length, phase := if p.left = l.length then 3 else 2 }
def pBody (p : PS) (c : UInt8) : PS :=
  match p.chunks with
  | none => pLen p [c]
  | some r => pChunk p (cByte r c) 1
def pByte (p : PS) (c : UInt8) : PS := if p.phase = 2 then pBody p c else pHead p c
def pFeed : PS → Bs → Nat × PS
  | p, [] => (0, p)
  | p, c :: l => if 3 ≤ p.phase then (0, p) else ((pFeed (pByte p c) l).1 + 1, (pFeed (pByte p c) l).2)
theorem pFeed_nil (p : PS) : pFeed p [] = (0, p) := rfl
theorem pFeed_off (p : PS) (l : Bs) (h : 3 ≤ p.phase) : pFeed p l = (0, p) := by
  cases l with
  | nil => rfl
  | cons c l => rw [pFeed, if_pos h]
theorem pFeed_on (p : PS) (c : UInt8) (l : Bs) (h : p.phase ≤ 2) : pFeed p (c :: l) = ((pFeed (pByte p c) l).1 + 1, (pFeed (pByte p c) l).2) := by rw [pFeed, if_neg (by omega)]
theorem pFeed_le : ∀ (l : Bs) (p : PS), (pFeed p l).1 ≤ l.length
  | [], p => Nat.le_refl _
  | c :: l, p => by
    rw [pFeed]
    split
    · exact Nat.zero_le _
    · have := pFeed_le l (pByte p c); simp only [List.length_cons]; omega
theorem pFeed_app : ∀ (a b : Bs) (p : PS), pFeed p (a ++ b) = ((pFeed p a).1 + (pFeed (pFeed p a).2 b).1, (pFeed (pFeed p a).2 b).2)
  | [], b, p => by rw [List.nil_append, pFeed_nil, Nat.zero_add]
  | c :: a, b, p => by
    rcases Nat.lt_or_ge p.phase 3 with h | h
    · rw [List.cons_append, pFeed_on p c _ (by omega), pFeed_on p c a (by omega), pFeed_app a b (pByte p c)]
      simp only
      rw [Nat.add_right_comm]
    · rw [pFeed_off p _ h, pFeed_off p _ h]
      simp only [Nat.zero_add, pFeed_off p _ h]
/-- What is fed stops short only where the parser has ended. -/
theorem pFeed_short : ∀ (l : Bs) (p : PS), (pFeed p l).1 < l.length → 3 ≤ (pFeed p l).2.phase
  | [], p, h => by simp [pFeed] at h
  | c :: l, p, h => by
    rcases Nat.lt_or_ge p.phase 3 with h1 | h1
    · rw [pFeed_on p c l (by omega)] at h ⊢
      simp only [List.length_cons] at h
      exact pFeed_short l _ (by omega)
    · rw [pFeed_off p _ h1]; exact h1
theorem pLen_app (p : PS) (a b : Bs) (h : a.length < p.left) : pLen (pLen p a) b = pLen p (a ++ b) := by
  unfold pLen
  simp only [List.length_append, List.append_assoc, PS.mk.injEq, true_and, Nat.add_assoc, and_true]
  refine ⟨?_, by omega⟩
  by_cases h2 : p.left - a.length = b.length
  · rw [if_pos h2, if_pos (by omega)]
  · rw [if_neg h2, if_neg (by omega)]
/-- Many bytes of a body with a length at once. -/
theorem pFeed_len : ∀ (l r : Bs) (p : PS), p.phase = 2 → p.chunks = none → 0 < l.length → l.length ≤ p.left → pFeed p (l ++ r) = (l.length + (pFeed (pLen p l) r).1, (pFeed (pLen p l) r).2)
  | [], _, _, _, _, h, _ => absurd h (by simp)
  | [c], r, p, hp, hc, _, _ => by
    have e : pByte p c = pLen p [c] := by rw [pByte, if_pos hp, pBody, hc]
    rw [List.singleton_append, pFeed_on p c r (by omega), e, List.length_singleton, Nat.add_comm]
  | c :: d :: l, r, p, hp, hc, _, h2 => by
    have e : pByte p c = pLen p [c] := by rw [pByte, if_pos hp, pBody, hc]
    have hl : p.left ≠ 1 := by simp at h2; omega
    have hq : (pLen p [c]).phase = 2 := by simp [pLen, hl]
    have hlf : (pLen p [c]).left = p.left - 1 := rfl
    rw [List.cons_append, pFeed_on p c _ (by omega), e, pFeed_len (d :: l) r (pLen p [c]) hq hc (by simp) (by rw [hlf]; simp at h2 ⊢; omega), pLen_app p [c] (d :: l) (by simp at h2 ⊢; omega)]
    simp only [List.singleton_append, List.length_cons]
    rw [Prod.mk.injEq]
    exact ⟨by omega, rfl⟩
theorem pChunk_app (p : PS) (r1 r2 : CS) (a b : Nat) (h : r1.on = true) : pChunk (pChunk p r1 a) r2 b = pChunk p r2 (a + b) := by
  obtain ⟨h1, h2⟩ := r1.on_parts h
  unfold pChunk
  simp only [h1, h2, PS.mk.injEq, Nat.add_assoc, true_and, ne_eq, not_true, if_false]
  refine ⟨?_, ?_⟩ <;> simp
/-- Many bytes of a body in chunks at once. -/
theorem pFeed_chunk : ∀ (l : Bs) (p : PS) (r : CS), p.phase = 2 → p.chunks = some r → r.on = true → 0 < l.length → pFeed p l = ((cFeed r l).1 + (pFeed (pChunk p (cFeed r l).2 (cFeed r l).1) (l.drop (cFeed r l).1)).1, (pFeed (pChunk p (cFeed r l).2 (cFeed r l).1) (l.drop (cFeed r l).1)).2)
  | [], _, _, _, _, _, h => absurd h (by simp)
  | c :: l, p, r, hp, hc, ho, _ => by
    have e : pByte p c = pChunk p (cByte r c) 1 := by rw [pByte, if_pos hp, pBody, hc]
    rw [pFeed_on p c l (by omega), e, cFeed_on r c l ho]
    simp only [List.drop_succ_cons]
    cases ho2 : (cByte r c).on
    · rw [cFeed_off _ l ho2]
      simp only [List.drop_zero, Nat.zero_add, Prod.mk.injEq, and_true]
      omega
    · obtain ⟨h1, h2⟩ := (cByte r c).on_parts ho2
      cases l with
      | nil =>
        simp only [cFeed, pFeed, List.drop_nil, Nat.zero_add, Nat.add_zero]
      | cons d l =>
        have hq : (pChunk p (cByte r c) 1).phase = 2 := by simp [pChunk, h1, h2]
        rw [pFeed_chunk (d :: l) (pChunk p (cByte r c) 1) (cByte r c) hq rfl ho2 (by simp)]
        rw [pChunk_app _ _ _ _ _ ho2, Nat.add_comm 1]
        simp only [Prod.mk.injEq, and_true]
        omega
/-! ### What stays true of a parser -/
structure PInv (p : PS) : Prop where
  ph : p.phase ≤ 4
  hd : HInv p.head
  hl : HLen p.head
  on : p.phase ≤ 1 → p.head.on = true
  line : p.phase ≤ 1 → p.line.length ≤ 257
  line2 : p.line.length ≤ 258
  early : p.phase ≤ 1 → p.chunks = none ∧ p.body = [] ∧ p.left = 0 ∧ p.fed = 0 ∧ p.status = 0
  body : p.body.length + p.left ≤ 2048
  len : p.phase = 2 → p.chunks = none → 0 < p.left
  chk : ∀ r, p.chunks = some r → CInv r ∧ (p.phase = 2 → r.on = true ∧ p.body = [] ∧ p.left = 0)
  fresh : p.phase = 0 → p = p0
  st : p.phase ≤ 3 → p.status = 0
theorem p0_inv : PInv p0 := ⟨by decide, hs0_inv, hs0_len, fun _ => rfl, by decide, by decide, fun _ => ⟨rfl, rfl, rfl, rfl, rfl⟩, by decide, fun h => (by cases h), fun r h => (by cases h), fun _ => rfl, fun _ => rfl⟩
theorem pEnd_inv (p : PS) (s : Bs) (h : PInv p) (hp : p.phase ≤ 1) : PInv (pEnd p (hLine p.head s)) := by
  obtain ⟨e1, e2, e3, e4, e5⟩ := h.early hp
  have hI := hLine_inv p.head s h.hd
  have hL := hLine_len p.head s h.hl
  generalize hLine p.head s = H at hI hL
  unfold pEnd
  split
  · refine ⟨Nat.le_refl 4, hI, hL, fun h9 => absurd h9 (by simp), fun h9 => absurd h9 (by simp), by simp, fun h9 => absurd h9 (by simp), h.body, fun h9 => absurd h9 (by simp), fun r hr => ?_, fun h9 => absurd h9 (by simp), fun h9 => absurd h9 (by simp)⟩
    exfalso
    have hr' : p.chunks = some r := hr
    rw [e1] at hr'; cases hr'
  · rename_i hs
    have hs0 : H.status = 0 := by simpa using hs
    split
    · unfold pFrames
      simp only
      split
      · exact ⟨show (2 : Nat) ≤ 4 by decide, hI, hL, fun h9 => absurd h9 (by simp), fun h9 => absurd h9 (by simp), by simp, fun h9 => absurd h9 (by simp), h.body, fun _ h9 => (by cases h9), fun r hr => (by injection hr with hr; subst hr; exact ⟨cs0_inv, fun _ => ⟨rfl, e2, e3⟩⟩), fun h9 => absurd h9 (by simp), fun _ => e5⟩
      · split
        · rename_i h0
          have hl1 := hL.len1
          refine ⟨show (2 : Nat) ≤ 4 by decide, hI, hL, fun h9 => absurd h9 (by simp), fun h9 => absurd h9 (by simp), by simp, fun h9 => absurd h9 (by simp), ?_, fun _ _ => ?_, fun r hr => ?_, fun h9 => absurd h9 (by simp), fun _ => e5⟩
          · show p.body.length + H.how.len.toNat ≤ 2048
            rw [e2]; simp only [List.length_nil]; omega
          · show 0 < H.how.len.toNat
            omega
          · exfalso
            have hr' : p.chunks = some r := hr
            rw [e1] at hr'; cases hr'
        · refine ⟨show (3 : Nat) ≤ 4 by decide, hI, hL, fun h9 => absurd h9 (by simp), fun h9 => absurd h9 (by simp), by simp, fun h9 => absurd h9 (by simp), h.body, fun h9 => absurd h9 (by simp), fun r hr => ?_, fun h9 => absurd h9 (by simp), fun _ => e5⟩
          exfalso
          have hr' : p.chunks = some r := hr
          rw [e1] at hr'; cases hr'
    · rename_i hw
      have hw0 : H.whole = false := by simpa using hw
      refine ⟨show (1 : Nat) ≤ 4 by decide, hI, hL, fun _ => by simp [HS.on, hw0, hs0], fun _ => by simp, by simp, fun _ => ⟨e1, e2, e3, e4, e5⟩, h.body, fun h9 => absurd h9 (by simp), fun r hr => ?_, fun h9 => absurd h9 (by simp), fun _ => e5⟩
      exfalso
      have hr' : p.chunks = some r := hr
      rw [e1] at hr'; cases hr'
theorem pHead_inv (p : PS) (c : UInt8) (h : PInv p) (hp : p.phase ≤ 1) : PInv (pHead p c) := by
  obtain ⟨e1, e2, e3, e4, e5⟩ := h.early hp
  have hno : ∀ r, p.chunks = some r → False := fun r hr => by rw [e1] at hr; cases hr
  have hl := h.line hp
  unfold pHead
  split
  · split
    · exact pEnd_inv p _ h hp
    · exact ⟨Nat.le_refl 4, h.hd, h.hl, fun h9 => absurd h9 (by simp), fun h9 => absurd h9 (by simp), h.line2, fun h9 => absurd h9 (by simp), h.body, fun h9 => absurd h9 (by simp), fun r hr => (hno r hr).elim, fun h9 => absurd h9 (by simp), fun h9 => absurd h9 (by simp)⟩
  · by_cases hlim : 256 < p.line.length + (if c = 13 then 0 else 1)
    · rw [if_pos hlim]
      refine ⟨Nat.le_refl 4, h.hd, h.hl, fun h9 => absurd h9 (by simp), fun h9 => absurd h9 (by simp), ?_, fun h9 => absurd h9 (by simp), h.body, fun h9 => absurd h9 (by simp), fun r hr => (hno r hr).elim, fun h9 => absurd h9 (by simp), fun h9 => absurd h9 (by simp)⟩
      simp only [List.length_append, List.length_singleton]; omega
    · rw [if_neg hlim]
      have hl2 : p.line.length + 1 ≤ 257 := by
        split at hlim <;> omega
      refine ⟨show (1 : Nat) ≤ 4 by decide, h.hd, h.hl, fun _ => h.on hp, fun _ => ?_, ?_, fun _ => ⟨e1, e2, e3, e4, e5⟩, h.body, fun h9 => absurd h9 (by simp), fun r hr => (hno r hr).elim, fun h9 => absurd h9 (by simp), fun _ => e5⟩
      · simp only [List.length_append, List.length_singleton]; omega
      · simp only [List.length_append, List.length_singleton]; omega
theorem pLen_inv (p : PS) (l : Bs) (h : PInv p) (hp : p.phase = 2) (hc : p.chunks = none) (hl : l.length ≤ p.left) : PInv (pLen p l) := by
  have hb := h.body
  have h0 := h.st (by omega)
  have hlf := h.len hp hc
  have hph : (pLen p l).phase = 3 ∨ ((pLen p l).phase = 2 ∧ l.length < p.left) := by
    unfold pLen; simp only
    by_cases e : p.left = l.length
    · rw [if_pos e]; exact .inl rfl
    · rw [if_neg e]; exact .inr ⟨rfl, by omega⟩
  refine ⟨by omega, h.hd, h.hl, fun h9 => absurd h9 (by omega), fun h9 => absurd h9 (by omega), h.line2, fun h9 => absurd h9 (by omega), ?_, fun h9 _ => ?_, fun r hr => ?_, fun h9 => absurd h9 (by omega), fun _ => h0⟩
  · show (p.body ++ l).length + (p.left - l.length) ≤ 2048
    simp only [List.length_append]; omega
  · show 0 < p.left - l.length
    omega
  · have hr' : p.chunks = some r := hr
    rw [hc] at hr'; cases hr'
theorem pChunk_inv (p : PS) (r : CS) (n : Nat) (h : PInv p) (hp : p.phase = 2) (hr : CInv r) (hb : p.body = []) (hf : p.left = 0) : PInv (pChunk p r n) := by
  have h0 := h.st (by omega)
  have hrb : r.body.length ≤ 2048 := by have := hr.body; omega
  have hph : 2 ≤ (pChunk p r n).phase ∧ (pChunk p r n).phase ≤ 4 ∧ ((pChunk p r n).phase = 2 → r.on = true) ∧ ((pChunk p r n).phase ≤ 3 → r.status = 0) ∧ ((pChunk p r n).phase = 2 → r.whole = false) := by
    unfold pChunk; simp only
    by_cases e : r.status ≠ 0
    · rw [if_pos e]; exact ⟨by decide, by decide, fun h9 => absurd h9 (by decide), fun h9 => absurd h9 (by decide), fun h9 => absurd h9 (by decide)⟩
    · rw [if_neg e]
      have e0 : r.status = 0 := by simpa using e
      cases hw : r.whole
      · exact ⟨by decide, by decide, fun _ => by simp [CS.on, hw, e0], fun _ => e0, fun _ => rfl⟩
      · exact ⟨by decide, by decide, fun h9 => absurd h9 (by decide), fun _ => e0, fun h9 => absurd h9 (by decide)⟩
  obtain ⟨a1, a2, a3, a4, a5⟩ := hph
  have hbody : (pChunk p r n).body.length ≤ 2048 := by
    show (if r.whole = true then r.body else p.body).length ≤ 2048
    split
    · exact hrb
    · rw [hb]; exact Nat.zero_le _
  refine ⟨a2, h.hd, h.hl, fun h9 => absurd h9 (by omega), fun h9 => absurd h9 (by omega), h.line2, fun h9 => absurd h9 (by omega), ?_, fun _ h9 => (by cases h9), fun r' hr' => ?_, fun h9 => absurd h9 (by omega), fun h9 => ?_⟩
  · show (pChunk p r n).body.length + p.left ≤ 2048
    rw [hf]; omega
  · injection hr' with hr'
    subst hr'
    refine ⟨hr, fun h9 => ⟨a3 h9, ?_, hf⟩⟩
    show (if r.whole = true then r.body else p.body) = []
    rw [a5 h9]; exact hb
  · show (if r.status ≠ 0 then r.status else p.status) = 0
    rw [a4 h9]; simpa using h0
theorem pByte_inv (p : PS) (c : UInt8) (h : PInv p) (hp : p.phase ≤ 2) : PInv (pByte p c) := by
  unfold pByte
  split
  · rename_i h2
    unfold pBody
    split
    · rename_i hc
      have := h.len h2 hc
      exact pLen_inv p [c] h h2 hc (by simp; omega)
    · rename_i r hc
      obtain ⟨hr, h3⟩ := h.chk r hc
      obtain ⟨ho, hb, hf⟩ := h3 h2
      exact pChunk_inv p _ 1 h h2 (cByte_inv r c hr ho) hb hf
  · exact pHead_inv p c h (by omega)
theorem pFeed_inv : ∀ (l : Bs) (p : PS), PInv p → PInv (pFeed p l).2
  | [], _, h => h
  | c :: l, p, h => by
    rcases Nat.lt_or_ge p.phase 3 with h1 | h1
    · rw [pFeed_on p c l (by omega)]
      exact pFeed_inv l _ (pByte_inv p c h (by omega))
    · rw [pFeed_off p _ h1]; exact h
end Go.Proofs.YtlambdccmfnloaaGreatDoor
namespace Go.Proofs.YtlambdccmfnloaaGreatDoor
open Go.RowKit
set_option maxRecDepth 100000

/-- A portion: what is fed of what is left. -/
theorem pFeed_portion (Q : Nat × PS) (r : PS) (l : Bs) (a k : Nat) (hk : a + k ≤ l.length) (H : Q = (a + (pFeed r (l.drop a)).1, (pFeed r (l.drop a)).2)) (q : Nat × PS) (hq : q = pFeed r ((l.drop a).take k)) :
    q.1 ≤ k ∧ (q.1 < k → 3 ≤ q.2.phase) ∧ Q = (a + q.1 + (pFeed q.2 (l.drop (a + q.1))).1, (pFeed q.2 (l.drop (a + q.1))).2) ∧ (a + k = l.length → Q = (a + q.1, q.2)) := by
  have hd : l.drop a = (l.drop a).take k ++ l.drop (a + k) := by
    rw [← List.drop_drop, List.take_append_drop]
  have hl : ((l.drop a).take k).length = k := by rw [List.length_take, List.length_drop]; omega
  have key := pFeed_app ((l.drop a).take k) (l.drop (a + k)) r
  rw [← hd, ← hq] at key
  have hle := pFeed_le ((l.drop a).take k) r
  rw [← hq, hl] at hle
  have hsh := pFeed_short ((l.drop a).take k) r
  rw [← hq, hl] at hsh
  have hQ : Q = (a + q.1 + (pFeed q.2 (l.drop (a + k))).1, (pFeed q.2 (l.drop (a + k))).2) := by
    rw [H, key]
    exact Prod.ext (by simp only; omega) rfl
  refine ⟨hle, hsh, ?_, fun he => ?_⟩
  · rcases Nat.lt_or_ge q.1 k with h | h
    · rw [hQ, pFeed_off _ _ (hsh h), pFeed_off _ _ (hsh h)]
    · have : q.1 = k := by omega
      rw [this] at hQ ⊢
      exact hQ
  · rw [hQ, List.drop_of_length_le (by omega), pFeed_nil]
    rfl
/-- Bytes of a line that is not too long. -/
theorem pFeed_line : ∀ (l r : Bs) (p : PS), p.phase = 1 → (∀ c ∈ l, c ≠ 10 ∧ c ≠ 13) → p.line.length + l.length ≤ 256 →
    pFeed p (l ++ r) = (l.length + (pFeed { p with line := p.line ++ l } r).1, (pFeed { p with line := p.line ++ l } r).2)
  | [], r, p, hp, _, _ => by simp
  | c :: l, r, p, hp, hc, hl => by
    obtain ⟨h1, h2⟩ := hc c (by simp)
    have e : pByte p c = { p with line := p.line ++ [c] } := by
      rw [pByte, if_neg (by omega), pHead, if_neg h1, if_neg h2, if_neg (by simp only [List.length_cons] at hl; omega)]
      rw [← hp]
    rw [List.cons_append, pFeed_on p c _ (by omega), e, pFeed_line l r { p with line := p.line ++ [c] } hp (fun d hd => hc d (by simp [hd])) (by simp only [List.length_append, List.length_cons, List.length_nil] at hl ⊢; omega)]
    simp only [List.append_assoc, List.singleton_append, List.length_cons, Prod.mk.injEq, and_true]
    omega
/-- One byte more than a line may have. -/
theorem pFeed_long (p : PS) (c : UInt8) (r : Bs) (hp : p.phase ≤ 1) (hc : c ≠ 10 ∧ c ≠ 13) (hl : p.line.length = 256) :
    pFeed p (c :: r) = (1, { p with phase := 4, line := p.line ++ [c], status := if p.head.begun then 431 else 414 }) := by
  have e : pByte p c = { p with phase := 4, line := p.line ++ [c], status := if p.head.begun then 431 else 414 } := by
    rw [pByte, if_neg (by omega), pHead, if_neg hc.1, if_neg hc.2, if_pos (by omega)]
  rw [pFeed_on p c _ (by omega), e, pFeed_off _ _ (by show 3 ≤ 4; omega)]
/-- A line of n bytes b behind what stands, and 0d. -/
theorem pFeed_bs (p : PS) (n : Nat) (hp : p.phase = 1) (hl : p.line.length ≤ 256) :
    pFeed p (List.replicate n 98 ++ [13]) = if p.line.length + n ≤ 256 then (n + 1, { p with line := p.line ++ List.replicate n 98 ++ [13] }) else (257 - p.line.length, { p with phase := 4, line := p.line ++ List.replicate (257 - p.line.length) 98, status := if p.head.begun then 431 else 414 }) := by
  have hm : ∀ (k : Nat) (c : UInt8), c ∈ List.replicate k 98 → c ≠ 10 ∧ c ≠ 13 := by
    intro k c hc
    rw [(List.mem_replicate.1 hc).2]
    exact ⟨by decide, by decide⟩
  by_cases h : p.line.length + n ≤ 256
  · rw [if_pos h, pFeed_line _ _ p hp (hm n) (by rw [List.length_replicate]; exact h), List.length_replicate]
    have e : pByte { p with line := p.line ++ List.replicate n 98 } 13 = { p with line := p.line ++ List.replicate n 98 ++ [13] } := by
      rw [pByte, if_neg (by simp only; omega), pHead, if_neg (by decide), if_pos rfl, if_neg (by simp only [List.length_append, List.length_replicate]; omega)]
      simp only [← hp]
    rw [pFeed_on _ 13 [] (by simp only; omega), e, pFeed_nil]
  · rw [if_neg h]
    obtain ⟨k, hk⟩ : ∃ k, p.line.length + k = 256 := ⟨256 - p.line.length, by omega⟩
    obtain ⟨m, rfl⟩ : ∃ m, n = k + (m + 1) := ⟨n - k - 1, by omega⟩
    have hs : List.replicate (k + (m + 1)) (98 : UInt8) = List.replicate k 98 ++ (98 :: List.replicate m 98) := by
      rw [← List.replicate_succ, List.replicate_append_replicate]
    have hk2 : 257 - p.line.length = k + 1 := by omega
    rw [hs, List.append_assoc, pFeed_line _ _ p hp (hm k) (by rw [List.length_replicate]; omega), List.length_replicate, List.cons_append,
      pFeed_long { p with line := p.line ++ List.replicate k 98 } 98 _ (by simp only; omega) ⟨by decide, by decide⟩ (by simp only [List.length_append, List.length_replicate]; exact hk), hk2]
    simp only [List.append_assoc, Prod.mk.injEq, true_and]
    rw [List.replicate_succ']
end Go.Proofs.YtlambdccmfnloaaGreatDoor
namespace Go.Proofs.YtlambdccmfnloaaGreatDoor
open Go.RowKit
set_option maxRecDepth 100000

/-- In a body: what the head says of it. -/
structure PB (p : PS) : Prop where
  len : p.phase = 2 → p.chunks = none → p.head.how.kind = 1 ∧ ((p.left + p.body.length : Nat) : Int) = p.head.how.len
  chk : p.phase = 2 → ∀ r, p.chunks = some r → p.head.how.kind = 2
theorem p0_pb : PB p0 := ⟨fun h => (by cases h), fun h => (by cases h)⟩
theorem pFrames_pb (p : PS) (hl : HLen p.head) (h1 : p.chunks = none) (h2 : p.body = []) : PB (pFrames p) := by
  unfold pFrames
  by_cases hk : p.head.how.kind = 2
  · rw [if_pos hk]
    exact ⟨fun _ h => (by cases h), fun _ _ _ => hk⟩
  · rw [if_neg hk]
    by_cases h0 : 0 < p.head.how.len
    · rw [if_pos h0]
      refine ⟨fun _ _ => ⟨?_, ?_⟩, fun _ r hr => ?_⟩
      · show p.head.how.kind = 1
        rcases hl.kind with h | h | h
        · have := hl.none h; omega
        · exact h
        · exact absurd h hk
      · show ((p.head.how.len.toNat + p.body.length : Nat) : Int) = p.head.how.len
        rw [h2]; simp only [List.length_nil]; omega
      · have hr' : p.chunks = some r := hr
        rw [h1] at hr'; cases hr'
    · rw [if_neg h0]
      exact ⟨fun h => absurd h (by simp), fun h => absurd h (by simp)⟩
theorem pHead_pb (p : PS) (c : UInt8) (h : PInv p) (hp : p.phase ≤ 1) : PB (pHead p c) := by
  obtain ⟨e1, e2, e3, e4, e5⟩ := h.early hp
  have no4 : ∀ q : PS, q.phase ≠ 2 → PB q := fun q hq => ⟨fun h => absurd h hq, fun h => absurd h hq⟩
  unfold pHead
  split
  · split
    · unfold pEnd
      split
      · exact no4 _ (by simp)
      · split
        · exact pFrames_pb _ (hLine_len _ _ h.hl) e1 e2
        · exact no4 _ (by simp)
    · exact no4 _ (by simp)
  · by_cases hlim : 256 < p.line.length + (if c = 13 then 0 else 1)
    · rw [if_pos hlim]; exact no4 _ (by simp)
    · rw [if_neg hlim]; exact no4 _ (by simp)
theorem pByte_pb (p : PS) (c : UInt8) (h : PInv p) (hb : PB p) (hp : p.phase ≤ 2) : PB (pByte p c) := by
  unfold pByte
  by_cases h2 : p.phase = 2
  · rw [if_pos h2]
    unfold pBody
    cases hc : p.chunks with
    | none =>
      obtain ⟨a, b⟩ := hb.len h2 hc
      have hlf := h.len h2 hc
      refine ⟨fun _ _ => ⟨a, ?_⟩, fun _ r hr => ?_⟩
      · show ((p.left - 1 + (p.body ++ [c]).length : Nat) : Int) = p.head.how.len
        rw [List.length_append, List.length_singleton, ← b]; omega
      · have hr' : p.chunks = some r := hr
        rw [hc] at hr'; cases hr'
    | some r =>
      have a := hb.chk h2 r hc
      exact ⟨fun _ h9 => (by cases h9), fun _ _ _ => a⟩
  · rw [if_neg h2]
    exact pHead_pb p c h (by omega)
theorem pFeed_pb : ∀ (l : Bs) (p : PS), PInv p → PB p → PB (pFeed p l).2
  | [], _, _, h => h
  | c :: l, p, hi, h => by
    rcases Nat.lt_or_ge p.phase 3 with h1 | h1
    · rw [pFeed_on p c l (by omega)]
      exact pFeed_pb l _ (pByte_inv p c hi (by omega)) (pByte_pb p c hi h (by omega))
    · rw [pFeed_off p _ h1]; exact h
end Go.Proofs.YtlambdccmfnloaaGreatDoor
namespace Go.Proofs.YtlambdccmfnloaaGreatDoor
open Go.RowKit
set_option maxRecDepth 100000

/-- A request. -/
structure RQ where
  m : Bs
  t : Tgt
  v : Int
  f : List Fd
  b : Bs
  c : Bool
  e : Bool
deriving DecidableEq
def rqOf (p : PS) : RQ := ⟨p.head.method, p.head.tgt, p.head.minor, p.head.flds, p.body, p.head.how.close, p.head.how.expect⟩
/-- What stands behind the requests. -/
structure RS where
  used : Nat
  phase : Nat
  status : Int
deriving DecidableEq
def rdF : Nat → Bs → List RQ × RS
  | 0, _ => ([], ⟨0, 0, 0⟩)
  | k + 1, b => if (pFeed p0 b).2.phase = 3 then (if (pFeed p0 b).2.head.how.close then ([rqOf (pFeed p0 b).2], ⟨(pFeed p0 b).1, 0, 0⟩) else (rqOf (pFeed p0 b).2 :: (rdF k (b.drop (pFeed p0 b).1)).1, ⟨(pFeed p0 b).1 + (rdF k (b.drop (pFeed p0 b).1)).2.used, (rdF k (b.drop (pFeed p0 b).1)).2.phase, (rdF k (b.drop (pFeed p0 b).1)).2.status⟩))
    else ([], ⟨0, (pFeed p0 b).2.phase, (pFeed p0 b).2.status⟩)
theorem pFeed_pos (b : Bs) (h : (pFeed p0 b).2.phase ≠ 0) : 0 < (pFeed p0 b).1 := by
  cases b with
  | nil => exact absurd rfl h
  | cons c l => rw [pFeed_on p0 c l (by decide)]; simp only; omega
theorem rdF_fuel : ∀ (k m : Nat) (b : Bs), b.length < k → b.length < m → rdF k b = rdF m b
  | 0, _, _, h, _ => absurd h (Nat.not_lt_zero _)
  | _ + 1, 0, _, _, h => absurd h (Nat.not_lt_zero _)
  | k + 1, m + 1, b, h1, h2 => by
    rw [rdF, rdF]
    by_cases h3 : (pFeed p0 b).2.phase = 3
    · rw [if_pos h3, if_pos h3]
      have hp := pFeed_pos b (by omega)
      have hl := pFeed_le b p0
      rw [rdF_fuel k m (b.drop (pFeed p0 b).1) (by rw [List.length_drop]; omega) (by rw [List.length_drop]; omega)]
    · rw [if_neg h3, if_neg h3]
def rdL (b : Bs) : List RQ × RS := rdF (b.length + 1) b
theorem rdL_no (b : Bs) (h : (pFeed p0 b).2.phase ≠ 3) : rdL b = ([], ⟨0, (pFeed p0 b).2.phase, (pFeed p0 b).2.status⟩) := by
  rw [rdL, rdF, if_neg h]
theorem rdL_close (b : Bs) (h : (pFeed p0 b).2.phase = 3) (hc : (pFeed p0 b).2.head.how.close = true) : rdL b = ([rqOf (pFeed p0 b).2], ⟨(pFeed p0 b).1, 0, 0⟩) := by
  rw [rdL, rdF, if_pos h, if_pos hc]
theorem rdL_on (b : Bs) (h : (pFeed p0 b).2.phase = 3) (hc : (pFeed p0 b).2.head.how.close = false) : rdL b = (rqOf (pFeed p0 b).2 :: (rdL (b.drop (pFeed p0 b).1)).1, ⟨(pFeed p0 b).1 + (rdL (b.drop (pFeed p0 b).1)).2.used, (rdL (b.drop (pFeed p0 b).1)).2.phase, (rdL (b.drop (pFeed p0 b).1)).2.status⟩) := by
  have hp := pFeed_pos b (by omega)
  have hl := pFeed_le b p0
  rw [rdL, rdF, if_pos h, if_neg (by rw [hc]; exact Bool.false_ne_true), rdL, rdF_fuel b.length ((b.drop (pFeed p0 b).1).length + 1) (b.drop (pFeed p0 b).1) (by rw [List.length_drop]; omega) (Nat.lt_succ_self _)]
theorem rdL_nil : rdL [] = ([], ⟨0, 0, 0⟩) := by decide
theorem rd_ind (P : Bs → Prop) (h : ∀ b, ((pFeed p0 b).2.phase = 3 → P (b.drop (pFeed p0 b).1)) → P b) : ∀ b, P b := by
  have key : ∀ (n : Nat) (b : Bs), b.length < n → P b := by
    intro n
    induction n with
    | zero => intro b hb; exact absurd hb (Nat.not_lt_zero _)
    | succ n ih =>
      intro b hb
      refine h b fun h3 => ih _ ?_
      have hp := pFeed_pos b (by omega)
      have hl := pFeed_le b p0
      rw [List.length_drop]; omega
  exact fun b => key (b.length + 1) b (Nat.lt_succ_self _)
theorem rdL_used (b : Bs) : (rdL b).2.used ≤ b.length := by
  refine rd_ind (fun b => (rdL b).2.used ≤ b.length) (fun b ih => ?_) b
  by_cases h3 : (pFeed p0 b).2.phase = 3
  · have hl := pFeed_le b p0
    cases hc : (pFeed p0 b).2.head.how.close
    · have ih := ih h3
      rw [rdL_on b h3 hc]
      rw [List.length_drop] at ih
      simp only; omega
    · rw [rdL_close b h3 hc]; exact hl
  · rw [rdL_no b h3]; exact Nat.zero_le _
/-- Behind bytes at whose end the parser has ended nothing is taken. -/
theorem pFeed_app_off (p : PS) (a b : Bs) (h : 3 ≤ (pFeed p a).2.phase) : pFeed p (a ++ b) = pFeed p a := by
  rw [pFeed_app, pFeed_off _ b h]; rfl
/-- Whole requests, and anything behind them. -/
theorem rdL_join (a b : Bs) (h0 : (rdL a).2.phase = 0) (hu : (rdL a).2.used = a.length) (hc : ∀ r, (rdL a).1.getLast? = some r → r.c = false) :
    rdL (a ++ b) = ((rdL a).1 ++ (rdL b).1, ⟨a.length + (rdL b).2.used, (rdL b).2.phase, (rdL b).2.status⟩) := by
  revert h0 hu hc
  refine rd_ind (fun a => (rdL a).2.phase = 0 → (rdL a).2.used = a.length → (∀ r, (rdL a).1.getLast? = some r → r.c = false) → rdL (a ++ b) = ((rdL a).1 ++ (rdL b).1, ⟨a.length + (rdL b).2.used, (rdL b).2.phase, (rdL b).2.status⟩)) (fun a ih h0 hu hc => ?_) a
  by_cases h3 : (pFeed p0 a).2.phase = 3
  · have hl := pFeed_le a p0
    have hab := pFeed_app_off p0 a b (by omega)
    cases hcl : (pFeed p0 a).2.head.how.close
    · rw [rdL_on a h3 hcl] at h0 hu hc ⊢
      simp only at h0 hu hc
      have ih := ih h3 h0 (by rw [List.length_drop]; omega) (fun r hr => hc r (by
        cases hx : (rdL (a.drop (pFeed p0 a).1)).1 with
        | nil => rw [hx] at hr; cases hr
        | cons y l => rw [hx] at hr; rw [List.getLast?_cons_cons]; exact hr))
      rw [rdL_on (a ++ b) (by rw [hab]; exact h3) (by rw [hab]; exact hcl), hab, List.drop_append_of_le_length hl, ih]
      simp only [List.cons_append, Prod.mk.injEq, true_and, RS.mk.injEq, List.length_drop, and_true]
      omega
    · rw [rdL_close a h3 hcl] at hc
      have h9 : (pFeed p0 a).2.head.how.close = false := hc _ rfl
      rw [hcl] at h9; cases h9
  · rw [rdL_no a h3] at hu ⊢
    simp only at hu
    obtain rfl : a = [] := List.eq_nil_of_length_eq_zero hu.symm
    simp
/-- A beginning. -/
theorem rdL_begin (b : Bs) (k : Nat) (hk : k ≤ b.length) :
    (rdL (b.take k)).1 = (rdL b).1.take (rdL (b.take k)).1.length ∧ (rdL (b.take k)).2.used ≤ (rdL b).2.used ∧ ((rdL (b.take k)).2.phase = 4 → (rdL (b.take k)).2 = (rdL b).2) := by
  revert k
  refine rd_ind (fun b => ∀ k, k ≤ b.length → (rdL (b.take k)).1 = (rdL b).1.take (rdL (b.take k)).1.length ∧ (rdL (b.take k)).2.used ≤ (rdL b).2.used ∧ ((rdL (b.take k)).2.phase = 4 → (rdL (b.take k)).2 = (rdL b).2)) (fun b ih k hk => ?_) b
  have hs : b = b.take k ++ b.drop k := (List.take_append_drop k b).symm
  have hoff : 3 ≤ (pFeed p0 (b.take k)).2.phase → pFeed p0 b = pFeed p0 (b.take k) := fun h => by
    conv => lhs; rw [hs]
    exact pFeed_app_off _ _ _ h
  by_cases h3 : (pFeed p0 (b.take k)).2.phase = 3
  · have he := hoff (by omega)
    have hl := pFeed_le (b.take k) p0
    rw [List.length_take, Nat.min_eq_left hk] at hl
    have hb3 : (pFeed p0 b).2.phase = 3 := by rw [he]; exact h3
    cases hc : (pFeed p0 (b.take k)).2.head.how.close
    · have ih := ih hb3 (k - (pFeed p0 b).1) (by rw [List.length_drop]; omega)
      rw [rdL_on _ h3 hc, rdL_on b hb3 (by rw [he]; exact hc), he]
      rw [he] at ih
      rw [show (b.take k).drop (pFeed p0 (b.take k)).1 = (b.drop (pFeed p0 (b.take k)).1).take (k - (pFeed p0 (b.take k)).1) from List.drop_take]
      generalize pFeed p0 (b.take k) = q at ih
      obtain ⟨i1, i2, i3⟩ := ih
      refine ⟨?_, ?_, fun h4 => ?_⟩
      · simp only [List.length_cons, List.take_succ_cons]
        rw [← i1]
      · simp only; omega
      · simp only at h4 ⊢
        rw [i3 h4]
    · rw [rdL_close _ h3 hc, rdL_close b hb3 (by rw [he]; exact hc), he]
      exact ⟨rfl, Nat.le_refl _, fun _ => rfl⟩
  · rw [rdL_no _ h3]
    refine ⟨by simp, Nat.zero_le _, fun h4 => ?_⟩
    simp only at h4
    have he := hoff (by omega)
    rw [rdL_no b (by rw [he]; exact h3), he]
end Go.Proofs.YtlambdccmfnloaaGreatDoor

/- Targets in plain words: hosts, percents, paths. No program is named here. -/
import Derived.Test.YtmjekdnfkgalbaaGreatDoorPlain
namespace Go.Proofs.YtmjekdnfkgalbaaGreatDoor
open Go.RowKit

/-! ### Hosts -/
def hostB (b : UInt8) : Bool := alnumB b.toNat || b == 45 || b == 46
theorem hostB_58 : hostB 58 = false := by decide
def portL (l : Bs) : Bool := decide (l.length ≤ 5) && (numR 10 15 l).any fun n => decide (n ≤ 65535)
/-- A text as a host, cut at its first colon. -/
def hostL (l : Bs) : Bool :=
  let h := l.takeWhile (· != 58)
  let r := l.dropWhile (· != 58)
  (r.isEmpty || portL r.tail) && decide (1 ≤ h.length) && decide (h.length ≤ 100) && h.all hostB
/-- A text as a host, read from the left. -/
def hostR (l : Bs) : Bool :=
  let h := l.takeWhile hostB
  let r := l.dropWhile hostB
  decide (1 ≤ h.length) && decide (h.length ≤ 100) && (match r with | [] => true | b :: r => b == 58 && portL r)
theorem host_good : ∀ (l : Bs), (l.takeWhile (· != 58)).all hostB = true → l.takeWhile hostB = l.takeWhile (· != 58) ∧ l.dropWhile hostB = l.dropWhile (· != 58)
  | [], _ => ⟨rfl, rfl⟩
  | b :: l, h => by
    by_cases hb : b = 58
    · subst hb
      simp [hostB_58]
    · have hn : (b != 58) = true := by simpa using hb
      simp only [List.takeWhile_cons, hn, if_true, List.all_cons, Bool.and_eq_true] at h
      have ih := host_good l h.2
      simp only [List.takeWhile_cons, List.dropWhile_cons, hn, h.1, if_true, ih.1, ih.2, and_self]
theorem host_bad : ∀ (l : Bs), (l.takeWhile (· != 58)).all hostB = false → ∃ b r, l.dropWhile hostB = b :: r ∧ b ≠ 58
  | [], h => by simp at h
  | b :: l, h => by
    by_cases hb : b = 58
    · subst hb
      simp at h
    · have hn : (b != 58) = true := by simpa using hb
      by_cases hh : hostB b = true
      · simp only [List.takeWhile_cons, hn, if_true, List.all_cons, hh, Bool.true_and] at h
        obtain ⟨c, r, h1, h2⟩ := host_bad l h
        exact ⟨c, r, by simp [hh, h1], h2⟩
      · exact ⟨b, l, by simp [hh], hb⟩
theorem drop58 : ∀ (l : Bs), l.dropWhile (· != 58) = [] ∨ ∃ r, l.dropWhile (· != 58) = 58 :: r
  | [] => .inl rfl
  | b :: l => by
    by_cases hb : b = 58
    · subst hb; exact .inr ⟨l, by simp⟩
    · have hn : (b != 58) = true := by simpa using hb
      simp only [List.dropWhile_cons, hn, if_true]
      exact drop58 l
theorem hostR_eq (l : Bs) : hostR l = hostL l := by
  unfold hostR hostL
  cases h : (l.takeWhile (· != 58)).all hostB
  · obtain ⟨b, r, h1, h2⟩ := host_bad l h
    simp only [h1, h, Bool.and_false]
    simp [h2]
  · obtain ⟨h1, h2⟩ := host_good l h
    simp only [h1, h2, h]
    rcases drop58 l with h3 | ⟨r, h3⟩ <;> simp only [h3]
    · simp
    · simp [Bool.and_assoc, Bool.and_comm]

/-! ### Percents -/
/-- Two digits as a byte, or none. -/
def pctL (a b : UInt8) : Option UInt8 :=
  if digB a.toNat < 0 ∨ digB b.toNat < 0 ∨ digB a.toNat * 16 + digB b.toNat = 0 then none else some (UInt8.ofNat (digB a.toNat * 16 + digB b.toNat).toNat)
def decodeL : Bs → Option Bs
  | [] => some []
  | c :: r => if c = 37 then (match r with | a :: b :: r' => (pctL a b).bind fun x => (decodeL r').map (x :: ·) | _ => none) else (decodeL r).map (c :: ·)
theorem decodeL_plain (c : UInt8) (r : Bs) (h : c ≠ 37) : decodeL (c :: r) = (decodeL r).map (c :: ·) := by
  cases r with
  | nil => simp [decodeL, h]
  | cons a r => cases r <;> simp [decodeL, h]
theorem decodeL_pct (a b : UInt8) (r : Bs) : decodeL (37 :: a :: b :: r) = (pctL a b).bind fun x => (decodeL r).map (x :: ·) := by simp [decodeL]
theorem decodeL_short1 : decodeL [37] = none := by simp [decodeL]
theorem decodeL_short2 (a : UInt8) : decodeL [37, a] = none := by simp [decodeL]
theorem decodeL_len : ∀ (k : Nat) (l : Bs), l.length ≤ k → ∀ r, decodeL l = some r → r.length ≤ l.length
  | _, [], _, r, h => by simp [decodeL] at h; simp [← h]
  | 0, c :: l, hk, r, h => by simp at hk
  | k + 1, c :: l, hk, r, h => by
    by_cases hc : c = 37
    · subst hc
      match l, h with
      | [], h => simp [decodeL_short1] at h
      | [a], h => simp [decodeL_short2] at h
      | a :: b :: r', h =>
        rw [decodeL_pct] at h
        cases hp : pctL a b with
        | none => simp [hp] at h
        | some x =>
          simp only [hp, Option.bind_some, Option.map_eq_some_iff] at h
          obtain ⟨q, hq, rfl⟩ := h
          have := decodeL_len k r' (by simp at hk; omega) q hq
          simp; omega
    · rw [decodeL_plain c l hc] at h
      simp only [Option.map_eq_some_iff] at h
      obtain ⟨q, hq, rfl⟩ := h
      have := decodeL_len k l (by simp at hk; omega) q hq
      simp; omega

/-! ### Paths -/
/-- The pieces between the bytes c. -/
def splitL (c : UInt8) : Bs → List Bs
  | [] => [[]]
  | b :: l => if b = c then [] :: splitL c l else (match splitL c l with | [] => [[b]] | p :: ps => (b :: p) :: ps)
theorem splitL_ne (c : UInt8) (l : Bs) : splitL c l ≠ [] := by
  cases l with
  | nil => simp [splitL]
  | cons b l =>
    rw [splitL]
    split
    · simp
    · split <;> simp
/-- One piece of a path. -/
def stepP (st : Option (List Bs)) (p : Bs) : Option (List Bs) :=
  st.bind fun ps => if p = [] ∨ p = [46] then some ps else if p = [46, 46] then (if ps = [] then none else some ps.dropLast) else some (ps ++ [p])
def joinP (ps : List Bs) : Bs := ps.flatMap (47 :: ·)
def dirP (p : Bs) : Bool := p == [] || p == [46] || p == [46, 46]
def endP (ps : List Bs) (last : Bs) : Bs := joinP ps ++ if dirP last || ps.isEmpty then [47] else []
def cleanP (parts : List Bs) : Option Bs := (parts.foldl stepP (some [])).map fun st => endP st (parts.getLastD [])
def cleanL (l : Bs) : Option Bs := if l.head? = some 47 then cleanP (splitL 47 l) else none
theorem stepP_none (l : List Bs) : l.foldl stepP none = none := by
  induction l with
  | nil => rfl
  | cons a l ih => exact ih
theorem cleanL_cons (l : Bs) : cleanL (47 :: l) = cleanP (splitL 47 l) := by
  obtain ⟨p, ps, h⟩ := List.exists_cons_of_ne_nil (splitL_ne 47 l)
  simp [cleanL, splitL, cleanP, stepP, h]
end Go.Proofs.YtmjekdnfkgalbaaGreatDoor

/- Bodies in chunks in plain words: parameters, sizes, one byte after another. -/
import Derived.Test.YtmnnbfaaaifcoaaGreatDoorFPl
namespace Go.Proofs.YtmnnbfaaaifcoaaGreatDoor
open Go.RowKit
set_option maxRecDepth 100000

/-! ### Parameters -/
/-- How many bytes a quoted text has behind its first sign. -/
def quoF : Bs → Option Nat
  | [] => none
  | c :: r => if c = 34 then some 1 else if c = 92 then (match r with | [] => none | d :: r' => if valueB d.toNat then (quoF r').map (· + 2) else none) else if valueB c.toNat then (quoF r).map (· + 1) else none
/-- How many bytes a quoted text has; 0: it is none. -/
def quoN : Bs → Nat
  | [] => 0
  | c :: r => if c = 34 then ((quoF r).map (· + 1)).getD 0 else 0
def tokN (s : Bs) : Nat := (s.takeWhile fun b => tokB b.toNat).length
/-- What stands behind a parameter's name. -/
def parV (s : Bs) : Option Bs :=
  match s with
  | [] => some []
  | c :: r => if c = 61 then (if quoN r = 0 then (if tokN r = 0 then none else some (r.drop (tokN r))) else some (r.drop (quoN r))) else some (c :: r)
/-- What stands behind a parameter. -/
def parS (s : Bs) : Option Bs :=
  match s with
  | [] => none
  | c :: r => if c = 59 then (if tokN (trimF r) = 0 then none else parV ((trimF r).drop (tokN (trimF r)))) else none
def parF : Nat → Bs → Nat → Bool
  | 0, _, _ => false
  | f + 1, s, n => if trimF s = [] then true else match parS (trimF s) with | none => false | some r => if n = 16 then false else parF f r (n + 1)
def parOk (s : Bs) : Bool := parF (s.length + 1) s 0
theorem quoF_le : ∀ (s : Bs) (n : Nat), quoF s = some n → 1 ≤ n ∧ n ≤ s.length
  | [], n, h => by simp [quoF] at h
  | c :: r, n, h => by
    rw [quoF.eq_def] at h; simp only at h
    split at h
    · injection h with h; simp; omega
    · split at h
      · split at h
        · cases h
        · rename_i d r'
          split at h
          · rw [Option.map_eq_some_iff] at h
            obtain ⟨m, hm, rfl⟩ := h
            have := quoF_le r' m hm
            simp; omega
          · cases h
      · split at h
        · rw [Option.map_eq_some_iff] at h
          obtain ⟨m, hm, rfl⟩ := h
          have := quoF_le r m hm
          simp; omega
        · cases h
theorem quoN_le (s : Bs) : quoN s ≤ s.length := by
  cases s with
  | nil => simp [quoN]
  | cons c r =>
    rw [quoN]
    split
    · cases h : quoF r with
      | none => simp
      | some m => have := quoF_le r m h; simp; omega
    · simp
theorem tokN_le (s : Bs) : tokN s ≤ s.length := by
  unfold tokN
  exact (List.takeWhile_sublist _).length_le
theorem trimF_le (s : Bs) : (trimF s).length ≤ s.length := (List.dropWhile_sublist _).length_le
theorem parV_le (s r : Bs) (h : parV s = some r) : r.length ≤ s.length := by
  cases s with
  | nil => simp [parV] at h; simp [h]
  | cons c t =>
    rw [parV] at h
    split at h
    · split at h
      · split at h
        · cases h
        · injection h with h; subst h; simp; omega
      · injection h with h; subst h; simp; omega
    · injection h with h; subst h; simp
theorem parS_lt (s r : Bs) (h : parS s = some r) : r.length < s.length := by
  cases s with
  | nil => simp [parS] at h
  | cons c t =>
    rw [parS] at h
    split at h
    · split at h
      · cases h
      · have h1 := parV_le _ _ h
        have h2 := trimF_le t
        rw [List.length_drop] at h1
        simp; omega
    · cases h
theorem parF_fuel : ∀ (f g : Nat) (s : Bs) (n : Nat), s.length < f → s.length < g → parF f s n = parF g s n
  | 0, _, _, _, h, _ => by omega
  | _ + 1, 0, _, _, _, h => by omega
  | f + 1, g + 1, s, n, h1, h2 => by
    rw [parF, parF]
    split
    · rfl
    · cases hp : parS (trimF s) with
      | none => rfl
      | some r =>
        have h3 := parS_lt _ _ hp
        have h4 := trimF_le s
        simp only
        rw [parF_fuel f g r (n + 1) (by omega) (by omega)]
/-- From what is left on, with so many parameters taken. -/
def parG (s : Bs) (n : Nat) : Bool := parF (s.length + 1) s n
theorem parG_end (s : Bs) (n : Nat) (h : trimF s = []) : parG s n = true := by rw [parG, parF, if_pos h]
theorem parG_bad (s : Bs) (n : Nat) (h : trimF s ≠ []) (h2 : parS (trimF s) = none) : parG s n = false := by rw [parG, parF, if_neg h, h2]
theorem parG_full (s r : Bs) (h : trimF s ≠ []) (h2 : parS (trimF s) = some r) : parG s 16 = false := by rw [parG, parF, if_neg h, h2]; rfl
theorem parG_one (s r : Bs) (n : Nat) (h : trimF s ≠ []) (h2 : parS (trimF s) = some r) (hn : n ≠ 16) : parG s n = parG r (n + 1) := by
  have h3 := parS_lt _ _ h2
  have h4 := trimF_le s
  rw [parG, parF, if_neg h, h2]
  simp only
  rw [if_neg hn, parG]
  exact parF_fuel _ _ r (n + 1) (by omega) (by omega)
theorem parG_not (s : Bs) (n : Nat) (h : trimF s ≠ []) (hn : n = 16) : parG s n = false := by
  subst hn
  cases h2 : parS (trimF s) with
  | none => exact parG_bad s 16 h h2
  | some r => exact parG_full s r h h2

/-! ### Sizes -/
def hexN (s : Bs) : Nat := (s.takeWhile fun b => decide (0 ≤ digB b.toNat)).length
/-- The size that a line says. -/
def sizeL (s : Bs) : Option Int := if hexN s < 1 ∨ 6 < hexN s then none else if parOk (s.drop (hexN s)) then numR 16 12 (s.take (hexN s)) else none

/-! ### A line as a field -/
def parseF (s : Bs) : Option Fd :=
  if 256 < s.length then none
  else if (58 : UInt8) ∈ s then (let f : Fd := (s.takeWhile (· != 58), trimL (s.dropWhile (· != 58)).tail); if isF f then some f else none) else none

/-! ### A body in chunks -/
structure CS where
  place : Nat
  line : Bs
  left : Nat
  body : Bs
  trs : List Fd
  ends : Nat
  whole : Bool
  status : Int
deriving DecidableEq
def cs0 : CS := ⟨0, [], 0, [], [], 0, false, 0⟩
def cSize (r : CS) (s : Bs) : CS :=
  match sizeL s with
  | none => { r with status := 400 }
  | some v => if 2048 - (r.body.length : Int) < v then { r with status := 413 } else if v = 0 then { r with place := 3 } else { r with place := 1, left := v.toNat }
def cTrailer (r : CS) (s : Bs) : CS :=
  match parseF s with
  | none => { r with ends := r.ends + s.length + 2, status := 400 }
  | some f => if 512 < r.ends + s.length + 2 ∨ r.trs.length = 8 then { r with ends := r.ends + s.length + 2, status := 431 } else { r with ends := r.ends + s.length + 2, trs := r.trs ++ [f] }
/-- A byte of a line. -/
def cLine (r : CS) (c : UInt8) : CS :=
  if c = 10 then
    (if r.line.getLast? = some 13 then
      (let s := r.line.dropLast
       if r.place = 0 then cSize { r with line := [] } s
       else if s = [] then { r with line := [], whole := true }
       else cTrailer { r with line := [] } s)
     else { r with status := 400 })
  else
    (let l := r.line ++ [c]
     let k := if c = 13 then r.line.length else r.line.length + 1
     if r.place = 0 ∧ 64 < k then { r with line := l, status := 400 }
     else if r.place = 3 ∧ (256 < k ∨ 512 < r.ends + k) then { r with line := l, status := 431 }
     else { r with line := l })
/-- A byte. -/
def cByte (r : CS) (c : UInt8) : CS :=
  if r.place = 1 then (if r.left = 1 then { r with body := r.body ++ [c], place := 2, left := 2 } else { r with body := r.body ++ [c], left := r.left - 1 })
  else if r.place = 2 then
    (if c = (if r.left = 2 then 13 else 10) then (if r.left = 1 then { r with place := 0, left := 0 } else { r with left := 1 }) else { r with status := 400 })
  else cLine r c
/-- Bytes: how many were taken, and where it is. -/
def cFeed : CS → Bs → Nat × CS
  | r, [] => (0, r)
  | r, c :: p => if r.whole = true ∨ r.status ≠ 0 then (0, r) else ((cFeed (cByte r c) p).1 + 1, (cFeed (cByte r c) p).2)
end Go.Proofs.YtmnnbfaaaifcoaaGreatDoor

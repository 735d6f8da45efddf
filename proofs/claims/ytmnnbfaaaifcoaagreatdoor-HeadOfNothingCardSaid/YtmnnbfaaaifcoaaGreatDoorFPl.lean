/- Fields, lists of tokens and framing in plain words. -/
import Derived.Test.YtmnnbfaaaifcoaaGreatDoorCanned
import Derived.Test.YtmnnbfaaaifcoaaGreatDoorTPlain
namespace Go.Proofs.YtmnnbfaaaifcoaaGreatDoor
open Go.RowKit
set_option maxRecDepth 100000

def tkL (l : Bs) : Bool := allT l && decide (0 < l.length)
/-- Is it a field? -/
def isF (f : Fd) : Bool := tkL f.1 && (allV f.2 && decide (trimL f.2 = f.2))
/-- Fields added: the fields, how many were taken, an error. -/
def addL (acc : List Fd) : List Fd → Nat → List Fd × Nat × Int
  | [], i => (acc, i, 0)
  | f :: l, i => if isF f then (if 24 ≤ acc.length then (acc, i, 3) else addL (acc ++ [f]) l (i + 1)) else (acc, i, 8)
theorem addL_nil (acc : List Fd) (i : Nat) : addL acc [] i = (acc, i, 0) := rfl
theorem addL_bad (acc : List Fd) (f : Fd) (l : List Fd) (i : Nat) (h : isF f = false) : addL acc (f :: l) i = (acc, i, 8) := by rw [addL, h]; rfl
theorem addL_full (acc : List Fd) (f : Fd) (l : List Fd) (i : Nat) (h : isF f = true) (h2 : 24 ≤ acc.length) : addL acc (f :: l) i = (acc, i, 3) := by rw [addL, h, if_pos rfl, if_pos h2]
theorem addL_one (acc : List Fd) (f : Fd) (l : List Fd) (i : Nat) (h : isF f = true) (h2 : acc.length < 24) : addL acc (f :: l) i = addL (acc ++ [f]) l (i + 1) := by rw [addL, h, if_pos rfl, if_neg (by omega)]
theorem addL_len : ∀ (l acc : List Fd) (i : Nat), acc.length ≤ 24 → (addL acc l i).1.length ≤ 24 ∧ (addL acc l i).2.1 ≤ i + l.length ∧ i ≤ (addL acc l i).2.1
  | [], acc, i, h => ⟨h, by simp [addL], by simp [addL]⟩
  | f :: l, acc, i, h => by
    rw [addL]
    split
    · split
      · exact ⟨h, by simp, by simp⟩
      · have := addL_len l (acc ++ [f]) (i + 1) (by simp; omega)
        exact ⟨this.1, by simp; omega, by omega⟩
    · exact ⟨h, by simp, by simp⟩
/-- Are two names one? -/
def nmEq (a b : Bs) : Bool := lowL a == lowL b
def valsL (n : Bs) (l : List Fd) : List Bs := (l.filter fun f => nmEq f.1 n).map (·.2)
theorem valsL_nil (n : Bs) : valsL n [] = [] := rfl
theorem valsL_yes (n : Bs) (f : Fd) (l : List Fd) (h : nmEq f.1 n = true) : valsL n (f :: l) = f.2 :: valsL n l := by simp [valsL, h]
theorem valsL_no (n : Bs) (f : Fd) (l : List Fd) (h : nmEq f.1 n = false) : valsL n (f :: l) = valsL n l := by simp [valsL, h]
theorem valsL_app (n : Bs) (a b : List Fd) : valsL n (a ++ b) = valsL n a ++ valsL n b := by simp [valsL]
theorem valsL_len (n : Bs) (l : List Fd) : (valsL n l).length ≤ l.length := by simp only [valsL, List.length_map]; exact List.length_filter_le _ _
theorem valsL_mem (n : Bs) (l : List Fd) : ∀ v ∈ valsL n l, ∃ f ∈ l, f.2 = v := by
  intro v hv
  simp only [valsL, List.mem_map, List.mem_filter] at hv
  obtain ⟨f, ⟨h1, -⟩, h2⟩ := hv
  exact ⟨f, h1, h2⟩

/-! ### Tokens -/
def tokF (st : Option (List Bs)) (s : Bs) : Option (List Bs) :=
  st.bind fun l => if trimL s = [] then some l else if tkL (trimL s) then some (l ++ [lowL (trimL s)]) else none
theorem tokF_none (l : List Bs) : l.foldl tokF none = none := by
  induction l with
  | nil => rfl
  | cons a l ih => exact ih
theorem tokF_skip (l : List Bs) (s : Bs) (h : trimL s = []) : tokF (some l) s = some l := by simp [tokF, h]
theorem tokF_one (l : List Bs) (s : Bs) (h : trimL s ≠ []) (h2 : tkL (trimL s) = true) : tokF (some l) s = some (l ++ [lowL (trimL s)]) := by simp [tokF, h, h2]
theorem tokF_bad (l : List Bs) (s : Bs) (h : trimL s ≠ []) (h2 : tkL (trimL s) = false) : tokF (some l) s = none := by simp [tokF, h, h2]
/-- The tokens of some values. -/
def toksL (vs : List Bs) : Option (List Bs) := (vs.flatMap (splitL 44)).foldl tokF (some [])
theorem toksL_nil : toksL [] = some [] := rfl
/-- From what has been collected on. -/
def toksA (st : Option (List Bs)) (vs : List Bs) : Option (List Bs) := (vs.flatMap (splitL 44)).foldl tokF st
theorem toksA_cons (st : Option (List Bs)) (v : Bs) (vs : List Bs) : toksA st (v :: vs) = toksA ((splitL 44 v).foldl tokF st) vs := by
  simp [toksA, List.foldl_append]
theorem toksA_none (vs : List Bs) : toksA none vs = none := tokF_none _
def hasL (t : Bs) (vs : List Bs) : Bool :=
  match toksL vs with
  | some l => l.contains (lowL t)
  | none => false
def joinC : List Bs → Bs
  | [] => []
  | [a] => a
  | a :: b :: r => a ++ ([44, 32] ++ joinC (b :: r))

/-! ### How a request goes on -/
structure How where
  kind : Int
  len : Int
  close : Bool
  expect : Bool
deriving DecidableEq
def how0 : How := ⟨0, 0, false, false⟩
abbrev howV (h : How) : Value := .agg #[.int .i64 h.kind, .int .i64 h.len, .bool h.close, .bool h.expect]
def howR (r : How × Int) : Value := .tuple #[howV r.1, .int .i64 r.2]
theorem howR_mk (h : How) (s : Int) : howR (h, s) = .tuple #[howV h, .int .i64 s] := rfl
def hostN : Bs := [72, 111, 115, 116]
def teN : Bs := [84, 114, 97, 110, 115, 102, 101, 114, 45, 69, 110, 99, 111, 100, 105, 110, 103]
def clN : Bs := [67, 111, 110, 116, 101, 110, 116, 45, 76, 101, 110, 103, 116, 104]
def coN : Bs := [67, 111, 110, 110, 101, 99, 116, 105, 111, 110]
def exN : Bs := [69, 120, 112, 101, 99, 116]
def chunkedB : Bs := [99, 104, 117, 110, 107, 101, 100]
def closeB : Bs := [99, 108, 111, 115, 101]
def keepB : Bs := [107, 101, 101, 112, 45, 97, 108, 105, 118, 101]
def contB : Bs := [49, 48, 48, 45, 99, 111, 110, 116, 105, 110, 117, 101]
def hostOk (first : Bool) : List Bs → Bool
  | [] => !first
  | [h] => decide (h = []) || hostL h
  | _ => false
/-- A row of codings: a status. -/
def codT (t : List Bs) : Int :=
  if t.getLast? = some chunkedB then (if chunkedB ∈ t.dropLast then 400 else if t.length = 1 then 0 else 501) else 400
def codL (first : Bool) (te cl : List Bs) : Int :=
  if first && cl.isEmpty then (match toksL te with | none => 400 | some t => codT t) else 400
/-- Numbers that are one. -/
def sameN : List Bs → Option Int
  | [] => none
  | s :: r => (numR 10 15 s).bind fun n => if r.all (fun x => decide (numR 10 15 x = some n)) then some n else none
def lenT (t : List Bs) : Int × Int :=
  match sameN t with
  | none => (0, 400)
  | some n => if n ≤ 2048 then (n, 0) else (0, 413)
def lenL (cl : List Bs) : Int × Int :=
  match toksL cl with
  | none => (0, 400)
  | some t => lenT t
/-- The kind of body, its length, a status. -/
def bodyL (first : Bool) (te cl : List Bs) : Int × Int × Int :=
  if te = [] then (if cl = [] then (0, 0, 0) else (1, (lenL cl).1, (lenL cl).2)) else (2, 0, codL first te cl)
def restL (first : Bool) (kind len : Int) (l : List Fd) : How × Int :=
  match toksL (valsL coN l) with
  | none => (how0, 400)
  | some t =>
    let close := t.contains closeB || (!first && !t.contains keepB)
    if first && !(valsL exN l).isEmpty then
      (if lowL (joinC (valsL exN l)) = contB then (⟨kind, len, close, decide (kind = 2) || decide (0 < len)⟩, 0) else (how0, 417))
    else (⟨kind, len, close, false⟩, 0)
/-- How a request with some fields goes on: a status. -/
def frmL (first : Bool) (l : List Fd) : How × Int :=
  if hostOk first (valsL hostN l) then
    (let b := bodyL first (valsL teN l) (valsL clN l)
     if b.2.2 = 0 then restL first b.1 b.2.1 l else (how0, b.2.2))
  else (how0, 400)
end Go.Proofs.YtmnnbfaaaifcoaaGreatDoor

/- Fields, lists of tokens and framing in plain words. Bodies in chunks in plain words: parameters, sizes, one byte after another. append on rows of fields; an object that holds such a row. field: isOne, Add, Of. field.Add, field.Of. field: Values, Has, Get, Len. An object with two rows of bytes and one of fields. An object with two rows of bytes and one of fields: what a call made of it, step by step. Blocks that stand behind the library's bound. Two rows of fields: whether they are one. field.Parse. -/
import Derived.Test.YtmjekdnfkgalbaaGreatDoorStatus
import Derived.Test.YtmjekdnfkgalbaaGreatDoorTPlain
import Derived.Test.YtmjekdnfkgalbaaGreatDoorApp
import Derived.Deep.RegionLaw
import Derived.Deep.QuietTactic
import Derived.BigQuiet
import Derived.Deep.RegionWith
import Derived.Laws.StructEq
import Derived.Lib.SmallJoins
import Derived.BigRegion
import Derived.ChangeAlike
namespace Go.Proofs.YtmjekdnfkgalbaaGreatDoor
open Go.RowKit
set_option maxRecDepth 100000

def tkL (l : Bs) : Bool := allT l && decide (0 < l.length)
/-- Is it a field? -/
def isF (f : Fd) : Bool := tkL f.1 && (allV f.2 && decide (trimL f.2 = f.2))
/-- Fields added: the fields, how many were taken, an error. -/
def addL (acc : List Fd) : List Fd → Nat → List Fd × Nat × Int
  | [], i => (acc, i, 0)
  | f :: l, i => if isF f then (if 24 ≤ acc.length then (acc, i, 3) else addL (acc ++ [f]) l (i + 1)) else (acc, i, 8)
theorem addL_nil (acc : List Fd) (i : Nat) : addL acc [] i = (acc, i, 0) := rfl
theorem addL_bad (acc : List Fd) (f : Fd) (l : List Fd) (i : Nat) (h : isF f = false) : addL acc (f :: l) i = (acc, i, 8) := by rw [addL, h]; rfl
theorem addL_full (acc : List Fd) (f : Fd) (l : List Fd) (i : Nat) (h : isF f = true) (h2 : 24 ≤ acc.length) : addL acc (f :: l) i = (acc, i, 3) := by rw [addL, h, if_pos rfl, if_pos h2]
theorem addL_one (acc : List Fd) (f : Fd) (l : List Fd) (i : Nat) (h : isF f = true) (h2 : acc.length < 24) : addL acc (f :: l) i = addL (acc ++ [f]) l (i + 1) := by rw [addL, h, if_pos rfl, if_neg (by omega)]
theorem addL_len : ∀ (l acc : List Fd) (i : Nat), acc.length ≤ 24 → (addL acc l i).1.length ≤ 24 ∧ (addL acc l i).2.1 ≤ i + l.length ∧ i ≤ (addL acc l i).2.1
  | [], acc, i, h => ⟨h, by simp [addL], by simp [addL]⟩
  | f :: l, acc, i, h => by
    rw [addL]
    split
    · split
      · exact ⟨h, by simp, by simp⟩
      · have := addL_len l (acc ++ [f]) (i + 1) (by simp; omega)
        exact ⟨this.1, by simp; omega, by omega⟩
    · exact ⟨h, by simp, by simp⟩
/-- Are two names one? -/
def nmEq (a b : Bs) : Bool := lowL a == lowL b
def valsL (n : Bs) (l : List Fd) : List Bs := (l.filter fun f => nmEq f.1 n).map (·.2)
theorem valsL_nil (n : Bs) : valsL n [] = [] := rfl
theorem valsL_yes (n : Bs) (f : Fd) (l : List Fd) (h : nmEq f.1 n = true) : valsL n (f :: l) = f.2 :: valsL n l := by simp [valsL, h]
theorem valsL_no (n : Bs) (f : Fd) (l : List Fd) (h : nmEq f.1 n = false) : valsL n (f :: l) = valsL n l := by simp [valsL, h]
theorem valsL_app (n : Bs) (a b : List Fd) : valsL n (a ++ b) = valsL n a ++ valsL n b := by simp [valsL]
theorem valsL_len (n : Bs) (l : List Fd) : (valsL n l).length ≤ l.length := by simp only [valsL, List.length_map]; exact List.length_filter_le _ _
theorem valsL_mem (n : Bs) (l : List Fd) : ∀ v ∈ valsL n l, ∃ f ∈ l, f.2 = v := by
  intro v hv
  simp only [valsL, List.mem_map, List.mem_filter] at hv
  obtain ⟨f, ⟨h1, -⟩, h2⟩ := hv
  exact ⟨f, h1, h2⟩

/-! ### Tokens -/
def tokF (st : Option (List Bs)) (s : Bs) : Option (List Bs) :=
  st.bind fun l => if trimL s = [] then some l else if tkL (trimL s) then some (l ++ [lowL (trimL s)]) else none
theorem tokF_none (l : List Bs) : l.foldl tokF none = none := by
  induction l with
  | nil => rfl
  | cons a l ih => exact ih
theorem tokF_skip (l : List Bs) (s : Bs) (h : trimL s = []) : tokF (some l) s = some l := by simp [tokF, h]
theorem tokF_one (l : List Bs) (s : Bs) (h : trimL s ≠ []) (h2 : tkL (trimL s) = true) : tokF (some l) s = some (l ++ [lowL (trimL s)]) := by simp [tokF, h, h2]
theorem tokF_bad (l : List Bs) (s : Bs) (h : trimL s ≠ []) (h2 : tkL (trimL s) = false) : tokF (some l) s = none := by simp [tokF, h, h2]
/-- The tokens of some values. -/
def toksL (vs : List Bs) : Option (List Bs) := (vs.flatMap (splitL 44)).foldl tokF (some [])
theorem toksL_nil : toksL [] = some [] := rfl
/-- From what has been collected on. -/
def toksA (st : Option (List Bs)) (vs : List Bs) : Option (List Bs) := (vs.flatMap (splitL 44)).foldl tokF st
theorem toksA_cons (st : Option (List Bs)) (v : Bs) (vs : List Bs) : toksA st (v :: vs) = toksA ((splitL 44 v).foldl tokF st) vs := by
  simp [toksA, List.foldl_append]
theorem toksA_none (vs : List Bs) : toksA none vs = none := tokF_none _
def hasL (t : Bs) (vs : List Bs) : Bool :=
  match toksL vs with
  | some l => l.contains (lowL t)
  | none => false
def joinC : List Bs → Bs
  | [] => []
  | [a] => a
  | a :: b :: r => a ++ ([44, 32] ++ joinC (b :: r))

/-! ### How a request goes on -/
structure How where
  kind : Int
  len : Int
  close : Bool
  expect : Bool
deriving DecidableEq
def how0 : How := ⟨0, 0, false, false⟩
abbrev howV (h : How) : Value := .agg #[.int .i64 h.kind, .int .i64 h.len, .bool h.close, .bool h.expect]
def howR (r : How × Int) : Value := .tuple #[howV r.1, .int .i64 r.2]
theorem howR_mk (h : How) (s : Int) : howR (h, s) = .tuple #[howV h, .int .i64 s] := rfl
def hostN : Bs := [72, 111, 115, 116]
def teN : Bs := [84, 114, 97, 110, 115, 102, 101, 114, 45, 69, 110, 99, 111, 100, 105, 110, 103]
def clN : Bs := [67, 111, 110, 116, 101, 110, 116, 45, 76, 101, 110, 103, 116, 104]
def coN : Bs := [67, 111, 110, 110, 101, 99, 116, 105, 111, 110]
def exN : Bs := [69, 120, 112, 101, 99, 116]
def chunkedB : Bs := [99, 104, 117, 110, 107, 101, 100]
def closeB : Bs := [99, 108, 111, 115, 101]
def keepB : Bs := [107, 101, 101, 112, 45, 97, 108, 105, 118, 101]
def contB : Bs := [49, 48, 48, 45, 99, 111, 110, 116, 105, 110, 117, 101]
def hostOk (first : Bool) : List Bs → Bool
  | [] => !first
  | [h] => decide (h = []) || hostL h
  | _ => false
/-- A row of codings: a status. -/
def codT (t : List Bs) : Int :=
  if t.getLast? = some chunkedB then (if chunkedB ∈ t.dropLast then 400 else if t.length = 1 then 0 else 501) else 400
def codL (first : Bool) (te cl : List Bs) : Int :=
  if first && cl.isEmpty then (match toksL te with | none => 400 | some t => codT t) else 400
/-- Numbers that are one. -/
def sameN : List Bs → Option Int
  | [] => none
  | s :: r => (numR 10 15 s).bind fun n => if r.all (fun x => decide (numR 10 15 x = some n)) then some n else none
def lenT (t : List Bs) : Int × Int :=
  match sameN t with
  | none => (0, 400)
  | some n => if n ≤ 2048 then (n, 0) else (0, 413)
def lenL (cl : List Bs) : Int × Int :=
  match toksL cl with
  | none => (0, 400)
  | some t => lenT t
/-- The kind of body, its length, a status. -/
def bodyL (first : Bool) (te cl : List Bs) : Int × Int × Int :=
  if te = [] then (if cl = [] then (0, 0, 0) else (1, (lenL cl).1, (lenL cl).2)) else (2, 0, codL first te cl)
def restL (first : Bool) (kind len : Int) (l : List Fd) : How × Int :=
  match toksL (valsL coN l) with
  | none => (how0, 400)
  | some t =>
    let close := t.contains closeB || (!first && !t.contains keepB)
    if first && !(valsL exN l).isEmpty then
      (if lowL (joinC (valsL exN l)) = contB then (⟨kind, len, close, decide (kind = 2) || decide (0 < len)⟩, 0) else (how0, 417))
    else (⟨kind, len, close, false⟩, 0)
/-- How a request with some fields goes on: a status. -/
def frmL (first : Bool) (l : List Fd) : How × Int :=
  if hostOk first (valsL hostN l) then
    (let b := bodyL first (valsL teN l) (valsL clN l)
     if b.2.2 = 0 then restL first b.1 b.2.1 l else (how0, b.2.2))
  else (how0, 400)
end Go.Proofs.YtmjekdnfkgalbaaGreatDoor
namespace Go.Proofs.YtmjekdnfkgalbaaGreatDoor
open Go.RowKit
set_option maxRecDepth 100000

/-! ### Parameters -/
/-- How many bytes a quoted text has behind its first sign. -/
def quoF : Bs → Option Nat
  | [] => none
  | c :: r => if c = 34 then some 1 else if c = 92 then (match r with | [] => none | d :: r' => if valueB d.toNat then (quoF r').map (· + 2) else none) else if valueB c.toNat then (quoF r).map (· + 1) else none
/-- How many bytes a quoted text has; 0: it is none. -/
def quoN : Bs → Nat
  | [] => 0
  | c :: r => if c = 34 then ((quoF r).map (· + 1)).getD 0 else 0
def tokN (s : Bs) : Nat := (s.takeWhile fun b => tokB b.toNat).length
/-- What stands behind a parameter's name. -/
def parV (s : Bs) : Option Bs :=
  match s with
  | [] => some []
  | c :: r => if c = 61 then (if quoN r = 0 then (if tokN r = 0 then none else some (r.drop (tokN r))) else some (r.drop (quoN r))) else some (c :: r)
/-- What stands behind a parameter. -/
def parS (s : Bs) : Option Bs :=
  match s with
  | [] => none
  | c :: r => if c = 59 then (if tokN (trimF r) = 0 then none else parV ((trimF r).drop (tokN (trimF r)))) else none
def parF : Nat → Bs → Nat → Bool
  | 0, _, _ => false
  | f + 1, s, n => if trimF s = [] then true else match parS (trimF s) with | none => false | some r => if n = 16 then false else parF f r (n + 1)
def parOk (s : Bs) : Bool := parF (s.length + 1) s 0
theorem quoF_le : ∀ (s : Bs) (n : Nat), quoF s = some n → 1 ≤ n ∧ n ≤ s.length
  | [], n, h => by simp [quoF] at h
  | c :: r, n, h => by
    rw [quoF.eq_def] at h; simp only at h
    split at h
    · injection h with h; simp; omega
    · split at h
      · split at h
        · cases h
        · rename_i d r'
          split at h
          · rw [Option.map_eq_some_iff] at h
            obtain ⟨m, hm, rfl⟩ := h
            have := quoF_le r' m hm
            simp; omega
          · cases h
      · split at h
        · rw [Option.map_eq_some_iff] at h
          obtain ⟨m, hm, rfl⟩ := h
          have := quoF_le r m hm
          simp; omega
        · cases h
theorem quoN_le (s : Bs) : quoN s ≤ s.length := by
  cases s with
  | nil => simp [quoN]
  | cons c r =>
    rw [quoN]
    split
    · cases h : quoF r with
      | none => simp
      | some m => have := quoF_le r m h; simp; omega
    · simp
theorem tokN_le (s : Bs) : tokN s ≤ s.length := by
  unfold tokN
  exact (List.takeWhile_sublist _).length_le
theorem trimF_le (s : Bs) : (trimF s).length ≤ s.length := (List.dropWhile_sublist _).length_le
theorem parV_le (s r : Bs) (h : parV s = some r) : r.length ≤ s.length := by
  cases s with
  | nil => simp [parV] at h; simp [h]
  | cons c t =>
    rw [parV] at h
    split at h
    · split at h
      · split at h
        · cases h
        · injection h with h; subst h; simp; omega
      · injection h with h; subst h; simp; omega
    · injection h with h; subst h; simp
theorem parS_lt (s r : Bs) (h : parS s = some r) : r.length < s.length := by
  cases s with
  | nil => simp [parS] at h
  | cons c t =>
    rw [parS] at h
    split at h
    · split at h
      · cases h
      · have h1 := parV_le _ _ h
        have h2 := trimF_le t
        rw [List.length_drop] at h1
        simp; omega
    · cases h
theorem parF_fuel : ∀ (f g : Nat) (s : Bs) (n : Nat), s.length < f → s.length < g → parF f s n = parF g s n
  | 0, _, _, _, h, _ => by omega
  | _ + 1, 0, _, _, _, h => by omega
  | f + 1, g + 1, s, n, h1, h2 => by
    rw [parF, parF]
    split
    · rfl
    · cases hp : parS (trimF s) with
      | none => rfl
      | some r =>
        have h3 := parS_lt _ _ hp
        have h4 := trimF_le s
        simp only
        rw [parF_fuel f g r (n + 1) (by omega) (by omega)]
/-- From what is left on, with so many parameters taken. -/
def parG (s : Bs) (n : Nat) : Bool := parF (s.length + 1) s n
theorem parG_end (s : Bs) (n : Nat) (h : trimF s = []) : parG s n = true := by rw [parG, parF, if_pos h]
theorem parG_bad (s : Bs) (n : Nat) (h : trimF s ≠ []) (h2 : parS (trimF s) = none) : parG s n = false := by rw [parG, parF, if_neg h, h2]
theorem parG_full (s r : Bs) (h : trimF s ≠ []) (h2 : parS (trimF s) = some r) : parG s 16 = false := by rw [parG, parF, if_neg h, h2]; rfl
theorem parG_one (s r : Bs) (n : Nat) (h : trimF s ≠ []) (h2 : parS (trimF s) = some r) (hn : n ≠ 16) : parG s n = parG r (n + 1) := by
  have h3 := parS_lt _ _ h2
  have h4 := trimF_le s
  rw [parG, parF, if_neg h, h2]
  simp only
  rw [if_neg hn, parG]
  exact parF_fuel _ _ r (n + 1) (by omega) (by omega)
theorem parG_not (s : Bs) (n : Nat) (h : trimF s ≠ []) (hn : n = 16) : parG s n = false := by
  subst hn
  cases h2 : parS (trimF s) with
  | none => exact parG_bad s 16 h h2
  | some r => exact parG_full s r h h2

/-! ### Sizes -/
def hexN (s : Bs) : Nat := (s.takeWhile fun b => decide (0 ≤ digB b.toNat)).length
/-- The size that a line says. -/
def sizeL (s : Bs) : Option Int := if hexN s < 1 ∨ 6 < hexN s then none else if parOk (s.drop (hexN s)) then numR 16 12 (s.take (hexN s)) else none

/-! ### A line as a field -/
def parseF (s : Bs) : Option Fd :=
  if 256 < s.length then none
  else if (58 : UInt8) ∈ s then (let f : Fd := (s.takeWhile (· != 58), trimL (s.dropWhile (· != 58)).tail); if isF f then some f else none) else none

/-! ### A body in chunks -/
structure CS where
  place : Nat
  line : Bs
  left : Nat
  body : Bs
  trs : List Fd
  ends : Nat
  whole : Bool
  status : Int
deriving DecidableEq
def cs0 : CS := ⟨0, [], 0, [], [], 0, false, 0⟩
def cSize (r : CS) (s : Bs) : CS :=
  match sizeL s with
  | none => { r with status := 400 }
  | some v => if 2048 - (r.body.length : Int) < v then { r with status := 413 } else if v = 0 then { r with place := 3 } else { r with place := 1, left := v.toNat }
def cTrailer (r : CS) (s : Bs) : CS :=
  match parseF s with
  | none => { r with ends := r.ends + s.length + 2, status := 400 }
  | some f => if 512 < r.ends + s.length + 2 ∨ r.trs.length = 8 then { r with ends := r.ends + s.length + 2, status := 431 } else { r with ends := r.ends + s.length + 2, trs := r.trs ++ [f] }
/-- A byte of a line. -/
def cLine (r : CS) (c : UInt8) : CS :=
  if c = 10 then
    (if r.line.getLast? = some 13 then
      (let s := r.line.dropLast
       if r.place = 0 then cSize { r with line := [] } s
       else if s = [] then { r with line := [], whole := true }
       else cTrailer { r with line := [] } s)
     else { r with status := 400 })
  else
    (let l := r.line ++ [c]
     let k := if c = 13 then r.line.length else r.line.length + 1
     if r.place = 0 ∧ 64 < k then { r with line := l, status := 400 }
     else if r.place = 3 ∧ (256 < k ∨ 512 < r.ends + k) then { r with line := l, status := 431 }
     else { r with line := l })
/-- A byte. -/
def cByte (r : CS) (c : UInt8) : CS :=
  if r.place = 1 then (if r.left = 1 then { r with body := r.body ++ [c], place := 2, left := 2 } else { r with body := r.body ++ [c], left := r.left - 1 })
  else if r.place = 2 then
    (if c = (if r.left = 2 then 13 else 10) then (if r.left = 1 then { r with place := 0, left := 0 } else { r with left := 1 }) else { r with status := 400 })
  else cLine r c
/-- Bytes: how many were taken, and where it is. -/
def cFeed : CS → Bs → Nat × CS
  | r, [] => (0, r)
  | r, c :: p => if r.whole = true ∨ r.status ≠ 0 then (0, r) else ((cFeed (cByte r c) p).1 + 1, (cFeed (cByte r c) p).2)
end Go.Proofs.YtmjekdnfkgalbaaGreatDoor
namespace Go.Proofs.YtmjekdnfkgalbaaGreatDoor
open Go.RowKit
set_option maxRecDepth 100000
set_option maxHeartbeats 2000000

theorem quiet_lf {P : Program} {f : FuncId} {args : Array Value} {w : World} {n : Nat} {v : Value}
    (h : Calls P f args (w.drewN n) fun e w' => e = .returned v ∧ w.drewN n = w') : Calls P f args (w.drewN n) fun e w'' => e = .returned v ∧ ∃ m, w'' = w.drewN m :=
  h.mono fun _ _ ⟨he, hm⟩ => ⟨he, n, hm.symm⟩
/-- A row of fields that the call owns. -/
def OF (w : World) (base : Nat) (v : Value) (l : List Fd) : Prop := Own w base 58 2 v l.length (fcells l)
theorem OF.nil (w : World) (base : Nat) : OF w base (.slice none 0 0) [] := Own.nil w base _ 2
theorem OF.belowW {w w' : World} {base : Nat} {v : Value} {l : List Fd} (h : OF w base v l) (hb : Below w.heap.size w w') : OF w' base v l := Own.belowW h hb
theorem OF.form {w : World} {base : Nat} {v : Value} {l : List Fd} (h : OF w base v l) : ∃ A c, v = .slice A l.length c ∧ l.length ≤ c ∧ c ≤ maxLen ∧ Rd w w.heap.size 2 A l.length (fcells l) := by
  obtain ⟨A, c, h1, h2, h3, h4, _⟩ := Own.rd h
  exact ⟨A, c, h1, h2, h3, h4⟩
/-- append(l, f..) in a region that draws its order. -/
theorem step_appF {ops : Array Oper} {o : Oper} {a : Act} {w0 w : World} {K : Act → World → Prop} {Q : Exit → Act → World → Prop} {E : Prop} (hgd : o.guard = none) (s x : Operand)
    (ho : o.op = .call { callee := .builtin .append, args := #[s, x], argTypes := #[36, 36] })
    (base : Nat) (v : Value) (l : List Fd) (hs : a.eval s = v) (hown : OF w0 base v l) (hw : Below w0.heap.size w0 w) (A : Option Addr) (n c B : Nat) (hx : a.eval x = .slice A n c) (m : List Fd) (hm : m.length = n) (hr : Rd w B 2 A n (fcells m))
    (hlen : l.length + m.length ≤ 1000000) (hbase : base ≤ w0.heap.size)
    (hK : ∀ v' w', OF w' base v' (l ++ m) → Ext w0 w' v v' → K (a.put o.dst v') w') :
    if Region.wanted o (yielded ops a.tmps) = true then Oper.wp Tryz.prog o a w K Q else E := by
  have hwt : Region.wanted o (yielded ops a.tmps) = true := by simp [Region.wanted, hgd]
  rw [if_pos hwt]
  subst hm
  obtain ⟨i0, hi, hz0, hz1, hz2⟩ := info_parts info_fd
  obtain ⟨v', w', hrun, h2, h3, h4⟩ := run_append_Own (P := Tryz.prog) w base 36 36 o.type 58 i0 _ 2 32 Tryz.underlying36 (.inl Tryz.underlying36) hi hz0 hz1 hz2 rfl (by decide) v l.length _ (hown.belowW hw) (.slice A m.length c) m.length _ (Src.of_rd hr (fcells_one m)) (by unfold maxLen; omega) (by omega) (Nat.le_trans hbase hw.size)
  rw [← fcells_app] at h2
  have key := hK v' w' (by unfold OF; rw [List.length_append]; exact h2) (ext_of hw h3 h4)
  unfold Oper.wp
  simp [execOp, ho, resolve, invoke, builtin, hs, hx, hrun, Result.andThen]
  exact key
/-- The same in a statement whose order is fixed. -/
theorem wp_appF {ops : Array Oper} {rest : List Oper} {o : Oper} {a : Act} {Q : Exit → Act → World → Prop} {w0 w : World} (hgd : o.guard = none) (s x : Operand)
    (ho : o.op = .call { callee := .builtin .append, args := #[s, x], argTypes := #[36, 36] })
    (base : Nat) (v : Value) (l : List Fd) (hs : a.eval s = v) (hown : OF w0 base v l) (hw : Below w0.heap.size w0 w) (A : Option Addr) (n c B : Nat) (hx : a.eval x = .slice A n c) (m : List Fd) (hm : m.length = n) (hr : Rd w B 2 A n (fcells m))
    (hlen : l.length + m.length ≤ 1000000) (hbase : base ≤ w0.heap.size)
    (h : ∀ v' w', OF w' base v' (l ++ m) → Ext w0 w' v v' → wpList Tryz.prog ops Q rest (a.put o.dst v') w') : wpList Tryz.prog ops Q (o :: rest) a w := by
  obtain ⟨i0, hi, hz0, hz1, hz2⟩ := info_parts info_fd
  subst hm
  refine wpList_append_Own w hgd s x 36 36 ho base 58 i0 _ 2 32 Tryz.underlying36 (.inl Tryz.underlying36) hi hz0 hz1 hz2 rfl (by decide) v l.length _ hs (hown.belowW hw) _ m.length _ hx (Src.of_rd hr (fcells_one m)) (by unfold maxLen; omega) (by omega) (Nat.le_trans hbase hw.size) ?_
  intro v' w' ho' hg ha
  refine h v' w' ?_ (ext_of hw hg ha)
  rw [← fcells_app] at ho'
  unfold OF
  rw [List.length_append]
  exact ho'

/-! ### An object with one row -/
/-- At block g stands a row of fields of the call's own. -/
structure FA (w : World) (T : TypeId) (g base : Nat) (v : Value) (l : List Fd) : Prop where
  blk : Blk w g T #[v]
  own : OF w base v l
  lo : base ≤ g
  ne : v.ownBlock ≠ some g
theorem FA.fr {w w' : World} {T : TypeId} {g base : Nat} {v : Value} {l : List Fd} {S : Nat → Prop} (h : FA w T g base v l) (hf : Fr S w w') (h1 : ¬ S g) (h2 : ∀ k, v.ownBlock = some k → ¬ S k) : FA w' T g base v l :=
  ⟨h.blk.fr hf h1, Own.fr h.own hf h2, h.lo, h.ne⟩
theorem FA.belowW {w w' : World} {T : TypeId} {g base : Nat} {v : Value} {l : List Fd} (h : FA w T g base v l) (hb : Below w.heap.size w w') : FA w' T g base v l :=
  ⟨h.blk.belowW hb, h.own.belowW hb, h.lo, h.ne⟩
theorem FA.alloc {w : World} {T : TypeId} {g base : Nat} {v : Value} {l : List Fd} (h : FA w T g base v l) (o : Obj) : FA (w.alloc o) T g base v l :=
  ⟨h.blk.alloc o, Own.alloc h.own o, h.lo, h.ne⟩
/-- What may turn when fields are added. -/
def FS (g : Nat) (v : Value) : Nat → Prop := fun k => k = g ∨ v.ownBlock = some k
theorem FA.app {w1 w3 : World} {T : TypeId} {g base : Nat} {v v' : Value} {l l' : List Fd} (h : FA w1 T g base v l) (hx : Ext w1 w3 v v') (ho : OF w3 base v' l') : FA (w3.setCell ⟨g, 0, none⟩ v') T g base v' l' := by
  have hne : ∀ k, v'.ownBlock = some k → k ≠ g := by
    intro k hk hg
    subst hg
    rcases hx.own k hk with h1 | h1
    · exact h.ne h1
    · have := h.blk.lt; omega
  exact ⟨(h.blk.fr hx.fr h.ne).set_ 0 v', Own.far ho (p := ⟨g, 0, none⟩) hne v', h.lo, fun e => hne g e rfl⟩
theorem FA.app_fr {w1 w3 : World} {g : Nat} {v v' : Value} (hx : Ext w1 w3 v v') (u : Value) : Fr (FS g v) w1 (w3.setCell ⟨g, 0, none⟩ u) :=
  (hx.fr.mono fun _ hi => .inl (.inr hi)).setCell (.inl (.inl rfl)) u
theorem FS.trans {w w1 w3 : World} {g : Nat} {v v1 : Value} (h : Fr (FS g v) w w1) (k : Fr (FS g v1) w1 w3) (hv : ∀ j, v1.ownBlock = some j → v.ownBlock = some j ∨ w.heap.size ≤ j) : Fr (FS g v) w w3 :=
  h.trans k fun i hi => by
    rcases hi with h1 | h1
    · exact .inl (.inl h1)
    · rcases hv i h1 with h2 | h2
      · exact .inl (.inr h2)
      · exact .inr h2
theorem FS.own {w w1 : World} {v v1 v2 : Value} (hv : ∀ j, v1.ownBlock = some j → v.ownBlock = some j ∨ w.heap.size ≤ j) (hs : w.heap.size ≤ w1.heap.size) (hx : ∀ j, v2.ownBlock = some j → v1.ownBlock = some j ∨ w1.heap.size ≤ j) : ∀ j, v2.ownBlock = some j → v.ownBlock = some j ∨ w.heap.size ≤ j := by
  intro j hj
  rcases hx j hj with h | h
  · exact hv j h
  · exact .inr (Nat.le_trans hs h)
theorem Fr.belowW {S : Nat → Prop} {w0 w w' : World} (h : Fr S w0 w) (hb : Below w.heap.size w w') : Fr S w0 w' :=
  h.trans (Fr.ofBelow hb) fun _ hi => .inr (Nat.le_trans h.size hi)
theorem Rd.frm {S : Nat → Prop} {w w' : World} {B size n : Nat} {A : Option Addr} {xs : List Value} (h : Rd w B size A n xs) (hB : B ≤ w.heap.size) (hf : Fr S w w') (hs : 0 < n → ∀ a, A = some a → ¬ S a.block) : Rd w' B size A n xs := by
  refine ⟨h.1, fun hn => ?_⟩
  obtain ⟨b, o, e, hb, hc⟩ := h.2 hn
  exact ⟨b, o, e, hb, fun j u hu => (hf.cell (p := ⟨b, o + j, none⟩) (by show b < _; omega) (hs hn ⟨b, o, none⟩ e)).trans (hc j u hu)⟩
theorem Rd.off {S : Nat → Prop} {w : World} {B size n : Nat} {A : Option Addr} {xs : List Value} (h : Rd w B size A n xs) (hS : ∀ i, S i → B ≤ i) : 0 < n → ∀ a, A = some a → ¬ S a.block := by
  intro hn a ha hs
  obtain ⟨b, o, e, hb, -⟩ := h.2 hn
  rw [e] at ha
  injection ha with ha
  subst ha
  have := hS _ hs
  simp at this
  omega
/-- A field of a row. -/
theorem Rd.fd {w : World} {B n : Nat} {A : Option Addr} {l : List Fd} (h : Rd w B 2 A n (fcells l)) (hn : l.length = n) (k : Nat) (f : Fd) (hf : l[k]? = some f) :
    ∃ b o, A = some ⟨b, o, none⟩ ∧ b < B ∧ w.cell? ⟨b, o + k * 2, none⟩ = some (sv f.1) ∧ w.cell? ⟨b, o + k * 2 + 1, none⟩ = some (sv f.2) := by
  have hk : k < l.length := (List.getElem?_eq_some_iff.1 hf).1
  obtain ⟨b, o, e, hb, hc⟩ := h.2 (by omega)
  have key : ∀ (l : List Fd) (k : Nat) (f : Fd), l[k]? = some f → (fcells l)[k * 2]? = some (sv f.1) ∧ (fcells l)[k * 2 + 1]? = some (sv f.2) := by
    intro l
    induction l with
    | nil => intro k f h; simp at h
    | cons g l ih =>
      intro k f h
      cases k with
      | zero => simp at h; subst h; simp [fcells]
      | succ k =>
        have := ih k f (by simpa using h)
        rw [show (k + 1) * 2 = k * 2 + 2 by omega]
        simpa [fcells] using this
  obtain ⟨h1, h2⟩ := key l k f hf
  exact ⟨b, o, e, hb, hc _ _ h1, by have := hc _ _ h2; rwa [← Nat.add_assoc] at this⟩
/-- The first cell of block g. -/
def Cel (w : World) (g : Nat) (u : Value) : Prop := ∃ T cs, Blk w g T cs ∧ cs[0]? = some u
theorem Cel.of {w : World} {g : Nat} {T : TypeId} {cs : Array Value} {u : Value} (h : Blk w g T cs) (hc : cs[0]? = some u) : Cel w g u := ⟨T, cs, h, hc⟩
theorem Cel.c1 {w : World} {g : Nat} {u : Value} (h : Cel w g u) : w.cell? ⟨g, 0, none⟩ = some u ∧ w.frozen? ⟨g, 0, none⟩ = false := by
  obtain ⟨T, cs, h, hc⟩ := h
  exact ⟨(h.cell 0).trans hc, h.frozen 0⟩
theorem Cel.belowW {w w' : World} {g : Nat} {u : Value} (h : Cel w g u) (hb : Below w.heap.size w w') : Cel w' g u := by
  obtain ⟨T, cs, h, hc⟩ := h
  exact ⟨T, cs, h.belowW hb, hc⟩
theorem Cel.drewN {w : World} {g : Nat} {u : Value} (h : Cel w g u) (n : Nat) : Cel (w.drewN n) g u := h
theorem Cel.alloc {w : World} {g : Nat} {u : Value} (h : Cel w g u) (o : Obj) : Cel (w.alloc o) g u := by
  obtain ⟨T, cs, h, hc⟩ := h
  exact ⟨T, cs, h.alloc o, hc⟩
/-- At block g stands, ahead of whatever else, a row of fields that may be read. -/
def FR (w : World) (_ : TypeId) (g : Nat) (l : List Fd) : Prop := ∃ A c, Cel w g (.slice A l.length c) ∧ l.length ≤ c ∧ Rd w w.heap.size 2 A l.length (fcells l)
theorem FA.rd {w : World} {T : TypeId} {g base : Nat} {v : Value} {l : List Fd} (h : FA w T g base v l) : FR w T g l := by
  obtain ⟨A, c, e, h1, -, h3⟩ := h.own.form
  exact ⟨A, c, Cel.of h.blk (by rw [e]; rfl), h1, h3⟩
theorem FR.belowW {w w' : World} {T : TypeId} {g : Nat} {l : List Fd} (h : FR w T g l) (hb : Below w.heap.size w w') : FR w' T g l := by
  obtain ⟨A, c, h1, h2, h3⟩ := h
  exact ⟨A, c, h1.belowW hb, h2, (h3.belowW (Nat.le_refl _) hb).more hb.size⟩
/-- A row of texts handed back. -/
def ValPost (w : World) (vs : List Bs) (e : Ending) (w' : World) : Prop :=
  (∃ A c, e = .returned (.slice A vs.length c) ∧ vs.length ≤ c ∧ c ≤ maxLen ∧ Rd w' w'.heap.size 1 A vs.length (vs.map tv)) ∧ Below w.heap.size w w'
theorem val_ret {w wr : World} {base : Nat} {v : Value} {l : List Bs} {vs : List Bs} (ho : OS wr base v l) (e : l = vs) (L : Below w.heap.size w wr) : ValPost w vs (.returned v) wr := by
  subst e
  obtain ⟨A, c, hv, h1, h2, h3⟩ := ho.form
  exact ⟨⟨A, c, by rw [hv], h1, h2, h3⟩, L⟩
theorem Rd.tx {w : World} {B n : Nat} {A : Option Addr} {l : List Bs} (h : Rd w B 1 A n (l.map tv)) (k : Nat) (s : Bs) (hs : l[k]? = some s) :
    ∃ b o, A = some ⟨b, o, none⟩ ∧ b < B ∧ w.cell? ⟨b, o + k, none⟩ = some (sv s) := by
  have hk : k < l.length := (List.getElem?_eq_some_iff.1 hs).1
  have hn : l.length = n := by simpa using h.1
  obtain ⟨b, o, e, hb, hc⟩ := h.2 (by omega)
  exact ⟨b, o, e, hb, hc k _ (by rw [List.getElem?_map, hs]; rfl)⟩
end Go.Proofs.YtmjekdnfkgalbaaGreatDoor
namespace Go.Proofs.YtmjekdnfkgalbaaGreatDoor
open Go.RowKit
set_option maxRecDepth 100000
set_option maxHeartbeats 2000000

theorem fsz_max {n : Nat} (h : n ≤ 1000000) : n ≤ maxLen := by unfold maxLen; omega
theorem fld_isOne (f : Fd) (w : World) (h1 : f.1.length ≤ 1000000) (h2 : f.2.length ≤ 1000000) :
    Calls Tryz.prog 98 #[.agg #[sv f.1, sv f.2]] w fun e w' => e = .returned (.bool (isF f)) ∧ Below w.heap.size w w' := by
  have e1 : (⟨f.1.toArray⟩ : ByteArray).data.toList = f.1 := rfl
  have e2 : (⟨f.2.toArray⟩ : ByteArray).data.toList = f.2 := rfl
  have hT := fun w => asc_IsToken ⟨f.1.toArray⟩ w (fsz_max h1)
  have hV := fun w => asc_IsValue ⟨f.2.toArray⟩ w (fsz_max h2)
  have hM := fun w => asc_Trim ⟨f.2.toArray⟩ w (fsz_max h2)
  rw [e1, show (allT f.1 && decide (0 < f.1.length)) = tkL f.1 from rfl] at hT
  rw [e2] at hV hM
  have LW : Below w.heap.size w (w.alloc (.cells #[sv f.1, sv f.2] 58)) := allocW (Below.refl _ _) _
  have B1 : Blk (w.alloc (.cells #[sv f.1, sv f.2] 58)) w.heap.size 58 #[sv f.1, sv f.2] := Blk.new' _ _ rfl _ _
  cases t1 : tkL f.1
  · have HR := Lib.hid (show isF f = false by rw [isF, t1]; rfl)
    rw [t1] at hT
    go_enter Tryz.func98, Tryz.ntmps98
    go_wp2_with fail
    obtain ⟨V, hV'⟩ : ∃ V, V = w.alloc (.cells #[sv f.1, sv f.2] 58) := ⟨_, rfl⟩
    rw [← hV'] at B1 LW ⊢
    obtain ⟨j0, j1, i0, i1⟩ := B1.c2
    clear hV'
    go_quiet ((go_at_call 119; exact quiet_lf (hT _)))
    go_wp2
    go_ret
    exact ⟨by rw [HR.out]; rfl, below_drewN' LW _⟩
  · rw [t1] at hT
    cases t2 : allV f.2
    · have HR := Lib.hid (show isF f = false by rw [isF, t1, t2]; rfl)
      rw [t2] at hV
      clear t1 t2
      go_enter Tryz.func98, Tryz.ntmps98
      go_wp2_with fail
      obtain ⟨V, hV'⟩ : ∃ V, V = w.alloc (.cells #[sv f.1, sv f.2] 58) := ⟨_, rfl⟩
      rw [← hV'] at B1 LW ⊢
      obtain ⟨j0, j1, i0, i1⟩ := B1.c2
      clear hV'
      go_quiet ((first | (go_at_call 119; exact quiet_lf (hT _)) | (go_at_call 120; exact quiet_lf (hV _))))
      go_wp2
      go_ret
      exact ⟨by rw [HR.out]; rfl, below_drewN' LW _⟩
    · have HR := Lib.hid (show isF f = decide (trimL f.2 = f.2) by rw [isF, t1, t2]; rfl)
      rw [t2] at hV
      clear t1 t2
      go_enter Tryz.func98, Tryz.ntmps98
      go_wp2_with fail
      obtain ⟨V, hV'⟩ : ∃ V, V = w.alloc (.cells #[sv f.1, sv f.2] 58) := ⟨_, rfl⟩
      rw [← hV'] at B1 LW ⊢
      obtain ⟨j0, j1, i0, i1⟩ := B1.c2
      clear hV'
      go_region_with (first | (go_at_call 119; refine (hT _).mono ?_; rintro e w' ⟨rfl, rfl⟩) | (go_at_call 120; refine (hV _).mono ?_; rintro e w' ⟨rfl, rfl⟩) | (go_at_call 111; refine (hM _).mono ?_; rintro e w5 ⟨rfl, L5⟩; obtain ⟨k0, k1, g0, g1⟩ := (Blk.belowW B1.drew L5).c2; have L6 := stepW (below_drewN' LW 1) L5))
      all_goals
        go_wp2
        refine bodyPost_ret (v := .bool (decide (trimL f.2 = f.2))) ?_ rfl ⟨by rw [HR.out], L6⟩
        simp [results, Tryz.results98, go_sem]
        rw [Bool.eq_iff_iff, beq_iff_eq, decide_eq_true_eq]
end Go.Proofs.YtmjekdnfkgalbaaGreatDoor
namespace Go.Proofs.YtmjekdnfkgalbaaGreatDoor
open Go.RowKit
set_option maxRecDepth 100000
set_option maxHeartbeats 2000000

def FdSz (l : List Fd) : Prop := ∀ f ∈ l, f.1.length ≤ 1000000 ∧ f.2.length ≤ 1000000
theorem FdSz.at {l : List Fd} (h : FdSz l) {k : Nat} {f : Fd} (hf : l[k]? = some f) : f.1.length ≤ 1000000 ∧ f.2.length ≤ 1000000 := h f (List.mem_of_getElem? hf)
theorem fcells_n {w : World} {B n : Nat} {A : Option Addr} {l : List Fd} (h : Rd w B 2 A n (fcells l)) : l.length = n := by
  have := h.1; rw [fcells_len] at this; omega
def addV (r : List Fd × Nat × Int) : Value := .tuple #[.int .i64 (r.2.1 : Int), .int .i64 r.2.2]
def AddPost (T : TypeId) (w : World) (g base : Nat) (v : Value) (r : List Fd × Nat × Int) (e : Ending) (w' : World) : Prop :=
  e = .returned (addV r) ∧ (∃ v', FA w' T g base v' r.1 ∧ ∀ k, v'.ownBlock = some k → v.ownBlock = some k ∨ w.heap.size ≤ k) ∧ Fr (FS g v) w w'
theorem drop_fd {l : List Fd} {k : Nat} (h : k < l.length) : ∃ f, l[k]? = some f ∧ l.drop k = f :: l.drop (k + 1) :=
  ⟨l[k], List.getElem?_eq_getElem h, List.drop_eq_getElem_cons h⟩

theorem fld_Add (g base n c B : Nat) (A : Option Addr) (v : Value) (acc l : List Fd) (w : World) (hF : FA w 109 g base v acc) (hA : Rd w B 2 A n (fcells l)) (hB : B ≤ w.heap.size)
    (hne : 0 < n → ∀ a, A = some a → ¬ FS g v a.block) (hsz : FdSz l) (hacc : acc.length ≤ 24) (hb : base ≤ w.heap.size) (hn : n ≤ 140737488355328) :
    Calls Tryz.prog 76 #[.pointer (some ⟨g, 0, none⟩), .slice A n c] w (AddPost 109 w g base v (addL acc l 0)) := by
  have hln := fcells_n hA
  go_enter Tryz.func76, Tryz.ntmps76
  go_wp2
  go_loopw [12] (fun i wr => ∃ (k : Nat) (vk : Value) (ak : List Fd), k ≤ n ∧ i = .int .i64 k ∧ FA wr 109 g base vk ak ∧ ak.length ≤ 24 ∧ Hid (addL acc l 0 = addL ak (l.drop k) k) ∧ Fr (FS g v) w wr ∧ (∀ j, vk.ownBlock = some j → v.ownBlock = some j ∨ w.heap.size ≤ j)) (fun i _ => n - (intOf i).toNat)
  case atStart => exact ⟨0, v, acc, Nat.zero_le _, rfl, hF, hacc, rfl, Fr.refl _ _, fun j h => .inl h⟩
  case round =>
    obtain ⟨k, vk, ak, hk, rfl, hFk, hak, H, hfr, hown⟩ := hrel
    by_cases hlt : k < n
    · obtain ⟨f, hf, hd⟩ := drop_fd (by omega : k < l.length)
      obtain ⟨s1, s2⟩ := hsz.at hf
      have hAk := hA.frm hB hfr hne
      obtain ⟨b, o, rfl, hbB, x0, x1⟩ := hAk.fd hln k f hf
      obtain ⟨Ak, ck, rfl, hc1, hc2, hc3⟩ := hFk.own.form
      have hS := hfr.size
      have H2 := Lib.hid (show addL acc l 0 = addL ak (f :: l.drop (k + 1)) k by rw [H.out, hd])
      have Hf := Lib.hid hf
      clear hf hd H
      go_wp2_with fail
      obtain ⟨V, hV⟩ : ∃ V, V = wr.alloc (.cells #[sv f.1, sv f.2] 58) := ⟨_, rfl⟩
      rw [← hV]
      have LV : Below wr.heap.size wr V := by rw [hV]; exact allocW (Below.refl _ _) _
      have BV : Blk V wr.heap.size 58 #[sv f.1, sv f.2] := by rw [hV]; exact Blk.new' _ _ rfl _ _
      clear hV
      refine (fld_isOne f V s1 s2).mono ?_
      rintro e w1 ⟨rfl, L1⟩
      have LW := stepW LV L1
      have hF1 := hFk.belowW LW
      have hA1 := hAk.belowW (by omega) LW
      obtain ⟨y0, y1⟩ := hF1.blk.c1
      obtain ⟨z0, z1, z2, z3⟩ := (BV.belowW L1).c2
      have hfr1 := hfr.belowW LW
      have hS1 := LW.size
      clear x0 x1 BV LV L1 hc3 hFk hfr
      cases hI : isF f
      · have HR := Lib.hid (H2.out.trans (addL_bad _ _ _ _ hI))
        clear hI
        go_wp2
        go_ret2
        exact ⟨by rw [HR.out]; rfl, by rw [HR.out]; exact ⟨_, hF1, hown⟩, hfr1⟩
      · by_cases h24 : 24 ≤ ak.length
        · have HR := Lib.hid (H2.out.trans (addL_full _ _ _ _ hI h24))
          clear hI
          go_wp2
          go_ret2
          exact ⟨by rw [HR.out]; rfl, by rw [HR.out]; exact ⟨_, hF1, hown⟩, hfr1⟩
        · have HR := Lib.hid (H2.out.trans (addL_one _ _ _ _ hI (by omega)))
          obtain ⟨y2, y3⟩ := (hF1.blk.alloc (.cells #[sv f.1, sv f.2] 58)).c1
          clear hI H2
          go_wp2
          go_region_law (refine step_appF rfl (.tmp 34) (.tmp 36) rfl base (.slice Ak ak.length ck) ak rfl hF1.own (allocW ((Below.refl _ _).drew) _) _ 1 1 (w1.heap.size + 1) rfl [f] rfl (Rd.new w1.drew _ rfl [sv f.1, sv f.2] _ 1 2 rfl) (by simp; omega) (by omega) ?_; intro v' w3 ho3 hx3; obtain ⟨A3, c3, hv3, hc31, hc32, hc33⟩ := ho3.form; rw [show (ak ++ [f]).length = ak.length + 1 by simp] at hv3; subst hv3; have BB := hF1.blk.fr hx3.fr hF1.ne; obtain ⟨q0, q1⟩ := BB.c1)
          all_goals
            go_wp2
            go_roundw
            case rel => exact ⟨k + 1, _, ak ++ [f], by omega, by go_num, hF1.app hx3 ho3, by simp; omega, HR, FS.trans hfr1 (FA.app_fr hx3 _) hown, FS.own hown (by omega) hx3.own⟩
            case measure => simp [intOf]; omega
    · have HR := Lib.hid (H.out.trans (show addL ak (l.drop k) k = (ak, k, 0) by rw [List.drop_of_length_le (by omega)]; rfl))
      obtain rfl : k = n := by omega
      go_wp2
      go_ret2
      exact ⟨by rw [HR.out]; rfl, by rw [HR.out]; exact ⟨_, hFk, hown⟩, hfr⟩
theorem fld_Of (n c : Nat) (A : Option Addr) (l : List Fd) (w : World) (hA : Rd w w.heap.size 2 A n (fcells l)) (hsz : FdSz l) (hn : n ≤ 140737488355328) :
    Calls Tryz.prog 75 #[.slice A n c] w fun e w' => (∃ g v, e = .returned (.pointer (some ⟨g, 0, none⟩)) ∧ FA w' 109 g w.heap.size v (addL [] l 0).1) ∧ Below w.heap.size w w' := by
  go_enter Tryz.func75, Tryz.ntmps75
  go_wp2_with fail
  obtain ⟨V, hV⟩ : ∃ V, V = w.alloc (.cells #[.slice none 0 0] 109) := ⟨_, rfl⟩
  rw [← hV]
  have LV : Below w.heap.size w V := by rw [hV]; exact allocW (Below.refl _ _) _
  have BV : Blk V w.heap.size 109 #[.slice none 0 0] := by rw [hV]; exact Blk.new' _ _ rfl _ _
  clear hV
  have hF : FA V 109 w.heap.size w.heap.size (.slice none 0 0) [] := ⟨BV, OF.nil _ _, Nat.le_refl _, by simp [Value.ownBlock]⟩
  have hA1 := hA.belowW (Nat.le_refl _) LV
  have hS : ∀ i, FS w.heap.size (.slice none 0 0) i → w.heap.size ≤ i := by
    intro i hi
    rcases hi with h | h
    · omega
    · simp [Value.ownBlock] at h
  refine (fld_Add w.heap.size w.heap.size n c w.heap.size A (.slice none 0 0) [] l V hF hA1 LV.size (hA1.off hS) hsz (Nat.zero_le _) LV.size hn).mono ?_
  rintro e w1 ⟨rfl, ⟨v', hF1, hv'⟩, hfr⟩
  have L1 : Below w.heap.size w w1 := LV.trans (hfr.toBelow LV.size hS)
  unfold addV
  go_wp2
  go_ret
  exact ⟨⟨_, _, rfl, hF1⟩, L1⟩
end Go.Proofs.YtmjekdnfkgalbaaGreatDoor
namespace Go.Proofs.YtmjekdnfkgalbaaGreatDoor
open Go.RowKit
set_option maxRecDepth 100000
set_option maxHeartbeats 2000000

theorem valsL_one (n : Bs) (l : List Fd) (k : Nat) (f : Fd) (h : l[k]? = some f) : valsL n (l.take (k + 1)) = valsL n (l.take k) ++ if nmEq f.1 n then [f.2] else [] := by
  rw [List.take_add_one, h, Option.toList_some, valsL_app]
  congr 1
  cases hn : nmEq f.1 n
  · rw [valsL_no _ _ _ hn]; rfl
  · rw [valsL_yes _ _ _ hn]; rfl
theorem joinC_lib : ∀ l : List Bs, Lib.join l [44, 32] = joinC l
  | [] => rfl
  | [a] => Lib.join_one _ _
  | a :: b :: r => by
    have := joinC_lib (b :: r)
    rw [Lib.join_cons] at this ⊢
    rw [joinC, ← this]
    simp [Lib.joinTail]
theorem joinC_len (M : Nat) : ∀ l : List Bs, (∀ v ∈ l, v.length ≤ M) → (joinC l).length ≤ l.length * (M + 2)
  | [], _ => by simp [joinC]
  | [a], h => by have := h a (by simp); simp [joinC]; omega
  | a :: b :: r, h => by
    have h1 := h a (by simp)
    have h2 := joinC_len M (b :: r) (fun v hv => h v (by simp [List.mem_cons.1 hv]))
    rw [joinC]
    simp only [List.length_append, List.length_cons, List.length_nil] at h2 ⊢
    rw [Nat.add_mul (r.length + 1) 1]
    omega
theorem lib_Join (A : Option Addr) (c B : Nat) (vs : List Bs) (w : World) (hA : Rd w B 1 A vs.length (vs.map tv)) (hB : B ≤ w.heap.size) (hc : vs.length ≤ c) (hl : (joinC vs).length ≤ 140737488355328) (hn : vs.length ≤ 140737488355328) :
    Calls Tryz.prog 78 #[.slice A vs.length c, .string ⟨#[44, 32]⟩] w fun e w' => e = .returned (sv (joinC vs)) ∧ Below w.heap.size w w' := by
  rcases Nat.eq_zero_or_pos vs.length with h0 | h0
  · obtain rfl : vs = [] := List.eq_nil_of_length_eq_zero h0
    refine (Tryz.strings_Join_none A c ⟨#[44, 32]⟩ w).mono ?_
    rintro e w' ⟨rfl, rfl⟩
    exact ⟨rfl, Below.refl _ _⟩
  · obtain ⟨b, o, rfl, hb, hcell⟩ := hA.2 h0
    have e1 : (vs.map fun l => (⟨l.toArray⟩ : ByteArray)).map (·.data.toList) = vs := by rw [List.map_map]; exact (List.map_congr_left (g := id) fun x _ => rfl).trans (List.map_id vs)
    have hx := Tryz.strings_Join b o c (vs.map fun l => (⟨l.toArray⟩ : ByteArray)) ⟨#[44, 32]⟩ w (fun j x hj => ?_) (by omega) (by rw [List.length_map]; exact hn) (by rw [List.length_map]; exact hc) (by rw [e1]; rw [show (⟨#[44, 32]⟩ : ByteArray).data.toList = [44, 32] from rfl, joinC_lib]; exact hl)
    · rw [e1, show (⟨#[44, 32]⟩ : ByteArray).data.toList = [44, 32] from rfl, joinC_lib, List.length_map] at hx
      exact hx
    · rw [List.getElem?_map, Option.map_eq_some_iff] at hj
      obtain ⟨l, hl1, rfl⟩ := hj
      exact hcell j _ (by rw [List.getElem?_map, hl1]; rfl)
end Go.Proofs.YtmjekdnfkgalbaaGreatDoor
namespace Go.Proofs.YtmjekdnfkgalbaaGreatDoor
open Go.RowKit
set_option maxRecDepth 100000
set_option maxHeartbeats 2000000

/-- append(b, s..) in a region that draws its order. -/
theorem step_appB {ops : Array Oper} {o : Oper} {a : Act} {w0 w : World} {K : Act → World → Prop} {Q : Exit → Act → World → Prop} {E : Prop} (hgd : o.guard = none) (s x : Operand)
    (ho : o.op = .call { callee := .builtin .append, args := #[s, x], argTypes := #[22, 22] })
    (base : Nat) (v : Value) (l : Bs) (hs : a.eval s = v) (hown : OB w0 base v l) (hw : Below w0.heap.size w0 w) (A : Option Addr) (n c B : Nat) (hx : a.eval x = .slice A n c) (m : Bs) (hr : Rd w B 1 A n (m.map bv))
    (hlen : l.length + m.length ≤ 140737488355328) (hbase : base ≤ w0.heap.size)
    (hK : ∀ v' w', OB w' base v' (l ++ m) → Ext w0 w' v v' → K (a.put o.dst v') w') :
    if Region.wanted o (yielded ops a.tmps) = true then Oper.wp Tryz.prog o a w K Q else E := by
  have hwt : Region.wanted o (yielded ops a.tmps) = true := by simp [Region.wanted, hgd]
  rw [if_pos hwt]
  have hn : m.length = n := by simpa using hr.1
  subst hn
  obtain ⟨i0, hi, hz0, hz1, hz2⟩ := info_parts info_b8
  obtain ⟨v', w', hrun, h2, h3, h4⟩ := run_append_Own (P := Tryz.prog) w base 22 22 o.type 5 i0 _ 1 1 Tryz.underlying22 (.inl Tryz.underlying22) hi hz0 hz1 hz2 rfl (by decide) v l.length _ (hown.belowW hw) (.slice A m.length c) m.length _ (Src.of_rd hr (bv_one m)) (by unfold maxLen; omega) (by omega) (Nat.le_trans hbase hw.size)
  have e : (l.map bv ++ m.map bv) = (l ++ m).map bv := by simp
  rw [e] at h2
  have key := hK v' w' (by unfold OB; rw [List.length_append]; exact h2) (ext_of hw h3 h4)
  unfold Oper.wp
  simp [execOp, ho, resolve, invoke, builtin, hs, hx, hrun, Result.andThen]
  exact key
theorem Own.lt2 {w : World} {base e size n : Nat} {v : Value} {xs : List Value} (h : Own w base e size v n xs) {k : Nat} (hk : v.ownBlock = some k) : k < w.heap.size := (h.lt k hk).2
/-- At block g stands an object with the cells cs; of the rows that it holds (vl, vb: bytes; vt: fields) each is its own. -/
structure O3 (w : World) (T : TypeId) (g : Nat) (cs : Array Value) (vl vb vt : Value) (L B : Bs) (F : List Fd) : Prop where
  blk : Blk w g T cs
  ol : OB w 0 vl L
  ob : OB w 0 vb B
  ot : OF w 0 vt F
  nl : vl.ownBlock ≠ some g
  nb : vb.ownBlock ≠ some g
  nt : vt.ownBlock ≠ some g
  lb : ∀ k, vl.ownBlock = some k → vb.ownBlock ≠ some k
  lt : ∀ k, vl.ownBlock = some k → vt.ownBlock ≠ some k
  bt : ∀ k, vb.ownBlock = some k → vt.ownBlock ≠ some k
/-- The blocks of such an object. -/
def foot (g : Nat) (vl vb vt : Value) : Nat → Prop := fun k => k = g ∨ vl.ownBlock = some k ∨ vb.ownBlock = some k ∨ vt.ownBlock = some k
namespace O3
variable {w w' : World} {T : TypeId} {g : Nat} {cs : Array Value} {vl vb vt vl' vb' vt' : Value} {L B L' B' : Bs} {F F' : List Fd}
theorem foot_lt (h : O3 w T g cs vl vb vt L B F) {k : Nat} (hk : foot g vl vb vt k) : k < w.heap.size := by
  rcases hk with rfl | hk | hk | hk
  · exact h.blk.lt
  · exact Own.lt2 h.ol hk
  · exact Own.lt2 h.ob hk
  · exact Own.lt2 h.ot hk
theorem fr {S : Nat → Prop} (h : O3 w T g cs vl vb vt L B F) (hf : Fr S w w') (hs : ∀ k, foot g vl vb vt k → ¬ S k) : O3 w' T g cs vl vb vt L B F :=
  ⟨h.blk.fr hf (hs g (.inl rfl)), Own.fr h.ol hf fun k hk => hs k (.inr (.inl hk)), Own.fr h.ob hf fun k hk => hs k (.inr (.inr (.inl hk))), Own.fr h.ot hf fun k hk => hs k (.inr (.inr (.inr hk))), h.nl, h.nb, h.nt, h.lb, h.lt, h.bt⟩
theorem belowW (h : O3 w T g cs vl vb vt L B F) (hb : Below w.heap.size w w') : O3 w' T g cs vl vb vt L B F :=
  ⟨h.blk.belowW hb, h.ol.belowW hb, h.ob.belowW hb, h.ot.belowW hb, h.nl, h.nb, h.nt, h.lb, h.lt, h.bt⟩
theorem drewN (h : O3 w T g cs vl vb vt L B F) (n : Nat) : O3 (w.drewN n) T g cs vl vb vt L B F :=
  ⟨h.blk.drewN n, h.ol.drewN n, h.ob.drewN n, Own.drewN h.ot n, h.nl, h.nb, h.nt, h.lb, h.lt, h.bt⟩
theorem set_ (h : O3 w T g cs vl vb vt L B F) (i : Nat) (u : Value) : O3 (w.setCell ⟨g, i, none⟩ u) T g (cs.setIfInBounds i u) vl vb vt L B F :=
  ⟨h.blk.set_ i u, Own.far h.ol (p := ⟨g, i, none⟩) (fun k hk e => h.nl (by rw [hk]; exact congrArg some e)) u, Own.far h.ob (p := ⟨g, i, none⟩) (fun k hk e => h.nb (by rw [hk]; exact congrArg some e)) u, Own.far h.ot (p := ⟨g, i, none⟩) (fun k hk e => h.nt (by rw [hk]; exact congrArg some e)) u, h.nl, h.nb, h.nt, h.lb, h.lt, h.bt⟩
theorem extL (h : O3 w T g cs vl vb vt L B F) (hx : Ext w w' vl vl') (ho : OB w' 0 vl' L') : O3 w' T g cs vl' vb vt L' B F := by
  refine ⟨h.blk.fr hx.fr h.nl, ho, hx.keep h.ob h.lb, hx.keep h.ot h.lt, ?_, h.nb, h.nt, ?_, ?_, h.bt⟩
  · intro hg
    rcases hx.own g hg with h1 | h1
    · exact h.nl h1
    · have := h.blk.lt; omega
  · intro k hk hv
    rcases hx.own k hk with h1 | h1
    · exact h.lb k h1 hv
    · have := Own.lt2 h.ob hv; omega
  · intro k hk hv
    rcases hx.own k hk with h1 | h1
    · exact h.lt k h1 hv
    · have := Own.lt2 h.ot hv; omega
theorem extB (h : O3 w T g cs vl vb vt L B F) (hx : Ext w w' vb vb') (ho : OB w' 0 vb' B') : O3 w' T g cs vl vb' vt L B' F := by
  refine ⟨h.blk.fr hx.fr h.nb, hx.keep h.ol (fun k h1 h2 => h.lb k h2 h1), ho, hx.keep h.ot h.bt, h.nl, ?_, h.nt, ?_, h.lt, ?_⟩
  · intro hg
    rcases hx.own g hg with h1 | h1
    · exact h.nb h1
    · have := h.blk.lt; omega
  · intro k hk hv
    rcases hx.own k hv with h1 | h1
    · exact h.lb k hk h1
    · have := Own.lt2 h.ol hk; omega
  · intro k hk hv
    rcases hx.own k hk with h1 | h1
    · exact h.bt k h1 hv
    · have := Own.lt2 h.ot hv; omega
theorem extT (h : O3 w T g cs vl vb vt L B F) (hx : Ext w w' vt vt') (ho : OF w' 0 vt' F') : O3 w' T g cs vl vb vt' L B F' := by
  refine ⟨h.blk.fr hx.fr h.nt, hx.keep h.ol (fun k h1 h2 => h.lt k h2 h1), hx.keep h.ob (fun k h1 h2 => h.bt k h2 h1), ho, h.nl, h.nb, ?_, h.lb, ?_, ?_⟩
  · intro hg
    rcases hx.own g hg with h1 | h1
    · exact h.nt h1
    · have := h.blk.lt; omega
  · intro k hk hv
    rcases hx.own k hv with h1 | h1
    · exact h.lt k hk h1
    · have := Own.lt2 h.ol hk; omega
  · intro k hk hv
    rcases hx.own k hv with h1 | h1
    · exact h.bt k hk h1
    · have := Own.lt2 h.ob hk; omega
theorem nilL (h : O3 w T g cs vl vb vt L B F) : O3 w T g cs (.slice none 0 0) vb vt [] B F :=
  ⟨h.blk, OB.nil _ _, h.ob, h.ot, by simp [Value.ownBlock], h.nb, h.nt, by simp [Value.ownBlock], by simp [Value.ownBlock], h.bt⟩
/-- The line, cut to nothing. -/
theorem cutL (h : O3 w T g cs vl vb vt L B F) (hL : 0 < L.length) : ∃ b c, vl = .slice (some ⟨b, 0, none⟩) L.length c ∧ O3 w T g cs (.slice (some ⟨b, 0, none⟩) 0 c) vb vt [] B F := by
  obtain ⟨b, c, e, ho⟩ := Own.cut h.ol (k := 0) (Nat.zero_le _) hL
  subst e
  refine ⟨b, c, rfl, h.blk, ?_, h.ob, h.ot, ?_, h.nb, h.nt, ?_, ?_, h.bt⟩
  · unfold OB; simpa using ho
  · have := h.nl; simpa [Value.ownBlock] using this
  · have := h.lb; simpa [Value.ownBlock] using this
  · have := h.lt; simpa [Value.ownBlock] using this
end O3
/-- What may be said of an object behind a call: its blocks are its own or new, and no other has turned. -/
structure Moved (S S' : Nat → Prop) (w w' : World) : Prop where
  fr : Fr S w w'
  foot : ∀ k, S' k → S k ∨ w.heap.size ≤ k
theorem Moved.refl (S : Nat → Prop) (w : World) : Moved S S w w := ⟨Fr.refl _ _, fun _ h => .inl h⟩
theorem Moved.trans {S S' S'' : Nat → Prop} {w w' w'' : World} (h : Moved S S' w w') (k : Moved S' S'' w' w'') : Moved S S'' w w'' :=
  ⟨h.fr.trans k.fr h.foot, fun i hi => by
    rcases k.foot i hi with h1 | h1
    · exact h.foot i h1
    · exact .inr (Nat.le_trans h.fr.size h1)⟩
theorem Moved.belowW {S S' : Nat → Prop} {w w' w'' : World} (h : Moved S S' w w') (hb : Below w'.heap.size w' w'') : Moved S S' w w'' := ⟨h.fr.belowW hb, h.foot⟩
theorem Moved.set_ {S S' : Nat → Prop} {w w' : World} (h : Moved S S' w w') {p : Addr} (hp : S p.block) (u : Value) : Moved S S' w (w'.setCell p u) := ⟨h.fr.setCell (.inl hp) u, h.foot⟩
theorem Moved.toBelow {S S' : Nat → Prop} {w0 w w' : World} (h : Moved S S' w w') (L : Below w0.heap.size w0 w) (hS : ∀ k, S k → w0.heap.size ≤ k) : Below w0.heap.size w0 w' := L.trans (h.fr.toBelow L.size hS)
end Go.Proofs.YtmjekdnfkgalbaaGreatDoor
namespace Go.Proofs.YtmjekdnfkgalbaaGreatDoor
open Go.RowKit
set_option maxRecDepth 100000
set_option maxHeartbeats 2000000

theorem Moved.drewN {S S' : Nat → Prop} {w w' : World} (h : Moved S S' w w') (n : Nat) : Moved S S' w (w'.drewN n) := ⟨h.fr.drewN n, h.foot⟩
theorem Moved.drew {S S' : Nat → Prop} {w w' : World} (h : Moved S S' w w') : Moved S S' w w'.drew := ⟨h.fr.drew, h.foot⟩
theorem Moved.alloc {S S' : Nat → Prop} {w w' : World} (h : Moved S S' w w') (o : Obj) : Moved S S' w (w'.alloc o) := ⟨h.fr.alloc o, h.foot⟩
/-- From w0, where the object had the blocks S, to w, where it is as said. -/
structure KW (w0 : World) (S : Nat → Prop) (w : World) (T : TypeId) (g : Nat) (cs : Array Value) (vl vb vt : Value) (L B : Bs) (F : List Fd) : Prop where
  o : O3 w T g cs vl vb vt L B F
  m : Moved S (foot g vl vb vt) w0 w
namespace KW
variable {w0 w w' : World} {S : Nat → Prop} {T : TypeId} {g : Nat} {cs : Array Value} {vl vb vt vl' vb' vt' : Value} {L B L' B' : Bs} {F F' : List Fd}
theorem refl (h : O3 w T g cs vl vb vt L B F) : KW w (foot g vl vb vt) w T g cs vl vb vt L B F := ⟨h, Moved.refl _ _⟩
theorem set_ (h : KW w0 S w T g cs vl vb vt L B F) {i : Nat} {u : Value} : KW w0 S (w.setCell ⟨g, i, none⟩ u) T g (cs.setIfInBounds i u) vl vb vt L B F := ⟨h.o.set_ i u, by
  have h1 : Moved (foot g vl vb vt) (foot g vl vb vt) w (w.setCell ⟨g, i, none⟩ u) := (Moved.refl _ _).set_ (.inl rfl) u
  exact h.m.trans h1⟩
theorem drewN (h : KW w0 S w T g cs vl vb vt L B F) {n : Nat} : KW w0 S (w.drewN n) T g cs vl vb vt L B F := ⟨h.o.drewN n, h.m.drewN n⟩
theorem drew (h : KW w0 S w T g cs vl vb vt L B F) : KW w0 S w.drew T g cs vl vb vt L B F := ⟨h.o.drewN 1, h.m.drew⟩
theorem belowW (h : KW w0 S w T g cs vl vb vt L B F) (hb : Below w.heap.size w w') : KW w0 S w' T g cs vl vb vt L B F := ⟨h.o.belowW hb, h.m.belowW hb⟩
theorem alloc (h : KW w0 S w T g cs vl vb vt L B F) {o : Obj} : KW w0 S (w.alloc o) T g cs vl vb vt L B F := h.belowW (allocW (Below.refl _ _) o)
theorem moved {S' : Nat → Prop} (h : KW w0 S w T g cs vl vb vt L B F) {cs' : Array Value} (hm : Moved (foot g vl vb vt) S' w w') (ho : O3 w' T g cs' vl' vb' vt' L' B' F') (hS : S' = foot g vl' vb' vt') : KW w0 S w' T g cs' vl' vb' vt' L' B' F' := ⟨ho, hS ▸ h.m.trans hm⟩
theorem extL (h : KW w0 S w T g cs vl vb vt L B F) (hx : Ext w w' vl vl') (ho : OB w' 0 vl' L') : KW w0 S w' T g cs vl' vb vt L' B F :=
  ⟨h.o.extL hx ho, h.m.trans ⟨hx.fr.mono fun k hk => .inl (.inr (.inl hk)), fun k hk => by
    rcases hk with hk | hk | hk | hk
    · exact .inl (.inl hk)
    · rcases hx.own k hk with h1 | h1
      · exact .inl (.inr (.inl h1))
      · exact .inr h1
    · exact .inl (.inr (.inr (.inl hk)))
    · exact .inl (.inr (.inr (.inr hk)))⟩⟩
theorem extB (h : KW w0 S w T g cs vl vb vt L B F) (hx : Ext w w' vb vb') (ho : OB w' 0 vb' B') : KW w0 S w' T g cs vl vb' vt L B' F :=
  ⟨h.o.extB hx ho, h.m.trans ⟨hx.fr.mono fun k hk => .inl (.inr (.inr (.inl hk))), fun k hk => by
    rcases hk with hk | hk | hk | hk
    · exact .inl (.inl hk)
    · exact .inl (.inr (.inl hk))
    · rcases hx.own k hk with h1 | h1
      · exact .inl (.inr (.inr (.inl h1)))
      · exact .inr h1
    · exact .inl (.inr (.inr (.inr hk)))⟩⟩
theorem extT (h : KW w0 S w T g cs vl vb vt L B F) (hx : Ext w w' vt vt') (ho : OF w' 0 vt' F') : KW w0 S w' T g cs vl vb vt' L B F' :=
  ⟨h.o.extT hx ho, h.m.trans ⟨hx.fr.mono fun k hk => .inl (.inr (.inr (.inr hk))), fun k hk => by
    rcases hk with hk | hk | hk | hk
    · exact .inl (.inl hk)
    · exact .inl (.inr (.inl hk))
    · exact .inl (.inr (.inr (.inl hk)))
    · rcases hx.own k hk with h1 | h1
      · exact .inl (.inr (.inr (.inr h1)))
      · exact .inr h1⟩⟩
theorem nilL (h : KW w0 S w T g cs vl vb vt L B F) : KW w0 S w T g cs (.slice none 0 0) vb vt [] B F :=
  ⟨h.o.nilL, ⟨h.m.fr, fun k hk => by
    rcases hk with hk | hk | hk | hk
    · exact h.m.foot k (.inl hk)
    · simp [Value.ownBlock] at hk
    · exact h.m.foot k (.inr (.inr (.inl hk)))
    · exact h.m.foot k (.inr (.inr (.inr hk)))⟩⟩
/-- The line, cut to nothing. -/
theorem cutL (h : KW w0 S w T g cs vl vb vt L B F) (hL : 0 < L.length) : ∃ b c, vl = .slice (some ⟨b, 0, none⟩) L.length c ∧ KW w0 S w T g cs (.slice (some ⟨b, 0, none⟩) 0 c) vb vt [] B F := by
  obtain ⟨b, c, e, ho⟩ := h.o.cutL hL
  subst e
  exact ⟨b, c, rfl, ho, ⟨h.m.fr, h.m.foot⟩⟩
end KW
end Go.Proofs.YtmjekdnfkgalbaaGreatDoor
namespace Go.Proofs.YtmjekdnfkgalbaaGreatDoor
open Go.RowKit
set_option maxRecDepth 100000
set_option maxHeartbeats 4000000

/-- Blocks that stand behind the library's bound. -/
def Hi (S : Nat → Prop) : Prop := ∀ k, S k → 2 < k
theorem ML.lt {w : World} (h : ML w) : 2 < w.heap.size := by
  obtain ⟨m, hm⟩ := h
  rcases Nat.lt_or_ge 2 w.heap.size with h1 | h1
  · exact h1
  · simp [World.cell?, Array.getElem?_eq_none h1] at hm
theorem ML.fr {w w' : World} {S : Nat → Prop} (h : ML w) (hf : Fr S w w') (hh : Hi S) : ML w' := by
  have h1 := h.lt
  obtain ⟨m, hm⟩ := h
  exact ⟨m, (hf.cell (p := ⟨2, 0, none⟩) h1 (fun hs => Nat.lt_irrefl _ (hh _ hs))).trans hm⟩
theorem ML.set_ {w : World} (h : ML w) {p : Addr} (hp : 2 < p.block) (u : Value) : ML (w.setCell p u) :=
  h.fr ((Fr.refl (fun k => k = p.block) w).setCell (.inl rfl) u) fun k hk => by rw [hk]; exact hp
theorem Hi.moved {S S' : Nat → Prop} {w w' : World} (h : Hi S) (hm : ML w) (m : Moved S S' w w') : Hi S' := by
  intro k hk
  rcases m.foot k hk with h1 | h1
  · exact h k h1
  · exact Nat.lt_of_lt_of_le hm.lt h1
theorem hi_of {S : Nat → Prop} {w : World} (hm : ML w) (hS : ∀ k, S k → w.heap.size ≤ k) : Hi S := fun k hk => Nat.lt_of_lt_of_le hm.lt (hS k hk)
theorem moved_below {S S' : Nat → Prop} {w w' : World} (m : Moved S S' w w') {w0 : World} (L : Below w0.heap.size w0 w) (hS : ∀ k, S k → w0.heap.size ≤ k) : Below w0.heap.size w0 w' := m.toBelow L hS
theorem moved_hs {S S' : Nat → Prop} {w w' : World} (m : Moved S S' w w') {B : Nat} (hB : B ≤ w.heap.size) (hS : ∀ k, S k → B ≤ k) : ∀ k, S' k → B ≤ k := fun k hk => by
  rcases m.foot k hk with h | h
  · exact hS k h
  · omega
end Go.Proofs.YtmjekdnfkgalbaaGreatDoor
namespace Go.Proofs.YtmjekdnfkgalbaaGreatDoor
open Go.RowKit
set_option maxRecDepth 100000
set_option maxHeartbeats 2000000

theorem Own.lit (w : World) (g : Nat) (hg : g = w.heap.size) (base : Nat) (hb : base ≤ g) (e : TypeId) (size n : Nat) (cs : List Value) (hs : cs.length = n * size) (hn : n ≤ maxLen) : Own (w.alloc (.cells cs.toArray e)) base e size (.slice (some ⟨g, 0, none⟩) n n) n cs :=
  ⟨hs, .inr ⟨g, n, cs.toArray, (0, 0), rfl, hb, by rw [hg]; exact heap_alloc_new w _, .inl (Nat.le_refl _), Nat.le_refl _, hn, by simpa using hs, by rw [List.take_of_length_le (by simp; omega)]⟩⟩

theorem neT {a b : Int} (h : (a != b) = true) : a ≠ b := by simpa using h
theorem neF {a b : Int} (h : (a != b) = false) : a = b := by simpa using h
theorem drop_list {α : Type} (l : List α) (k : Nat) (h : k < l.length) : ∃ x, l[k]? = some x ∧ l.drop k = x :: l.drop (k + 1) := ⟨l[k], List.getElem?_eq_getElem h, List.drop_eq_getElem_cons h⟩
theorem map_get {α β : Type} (f : α → β) (l : List α) (k : Nat) (x : α) (h : l[k]? = some x) : (l.map f)[k]? = some (f x) := by simp [h]

theorem fd_u : Tryz.prog.underlying 58 = some (.struct (Tryz.prog.fieldsOf 58)) := by kernel_rfl
theorem fd_p : Tryz.prog.stoodInHeld 58 = false := by kernel_rfl
theorem fd_g : Tryz.prog.eqGuardType Tryz.prog.depth 58 = false := by kernel_rfl
theorem fd_f : (Tryz.prog.fieldsOf 58).toList.map (fun f => (f.name, f.type, f.offset)) = [("Name", 9, 0), ("Value", 9, 1)] := by kernel_rfl
theorem fd_ff : ∃ f g, (Tryz.prog.fieldsOf 58).toList = [f, g] ∧ f.type = 9 ∧ f.offset = 0 ∧ f.name = "Name" ∧ g.type = 9 ∧ g.offset = 1 ∧ g.name = "Value" := by
  have h := fd_f
  generalize (Tryz.prog.fieldsOf 58).toList = l at h
  rcases l with _ | ⟨f, _ | ⟨g, _ | ⟨x, l⟩⟩⟩
  · simp at h
  · simp at h
  · simp at h; exact ⟨f, g, rfl, h.1.2.1, h.1.2.2, h.1.1, h.2.2.1, h.2.2.2, h.2.1⟩
  · simp at h
def fdEq (a b c d : Bs) : Bool := decide ((a, b) = (c, d))
theorem run_neq_fd (a b c d : Bs) (w : World) : (binOp .neq 58 (.agg #[sv a, sv b]) (.agg #[sv c, sv d])).run Tryz.prog w = .ok (.bool (!fdEq a b c d)) w := by
  obtain ⟨f, g, hl, h1, h2, h3, h4, h5, h6⟩ := fd_ff
  rw [run_neq_struct, show (10000 : Nat) = 9999 + 1 from rfl, run_equalIn_agg w 9999 _ _ _ fd_u fd_p, hl]
  simp [Op.eqFields, h1, h2, h3, h4, h5, h6, go_sem, sv]
  by_cases e1 : a = c <;> by_cases e2 : b = d <;> simp [e1, e2, fdEq]
theorem run_guard_fd (op : BinOp) (x y : Operand) (xs ys : Array Value) (w : World) : (eqGuard op 58 x y (.agg xs) (.agg ys)).run Tryz.prog w = .ok () w := run_eqGuard_agg w op _ x y xs ys fd_g

theorem fcells_at : ∀ (l : List Fd) (k : Nat) (f : Fd), l[k]? = some f → (fcells l)[k * 2]? = some (sv f.1) ∧ (fcells l)[k * 2 + 1]? = some (sv f.2)
  | [], k, f, h => by simp at h
  | g :: l, 0, f, h => by
    obtain rfl : g = f := by simpa using h
    simp [fcells]
  | g :: l, k + 1, f, h => by
    have := fcells_at l k f (by simpa using h)
    have e : (k + 1) * 2 = k * 2 + 1 + 1 := by omega
    simpa [fcells, e] using this
theorem Rd.newM (w : World) (g : Nat) (hg : g = w.heap.size) (cs : List Value) (t : TypeId) (fr : Nat × Nat) (n size : Nat) (h : cs.length = n * size) : Rd (w.alloc (.cells cs.toArray t fr)) (g + 1) size (some ⟨g, 0, none⟩) n cs :=
  ⟨h, fun _ => ⟨g, 0, rfl, by omega, fun j u hu => by rw [Nat.zero_add, Go.Joins.cell_alloc_mark_at w _ t fr g j hg]; simpa using hu⟩⟩
end Go.Proofs.YtmjekdnfkgalbaaGreatDoor
namespace Go.Proofs.YtmjekdnfkgalbaaGreatDoor
open Go.RowKit
set_option maxRecDepth 100000
set_option maxHeartbeats 2000000

def FParsePost (w : World) (s : Bs) (e : Ending) (w' : World) : Prop :=
  (∃ (f : Fd) (er : Int), e = .returned (.tuple #[.agg #[sv f.1, sv f.2], .int .i64 er]) ∧ ((parseF s = some f ∧ er = 0) ∨ (parseF s = none ∧ (er = 8 ∨ er = 9)))) ∧ Below w.heap.size w w'
theorem trimL_le (l : Bs) : (trimL l).length ≤ l.length := by
  refine Nat.le_trans ?_ (trimF_le l)
  unfold trimL trimE
  rw [List.length_reverse]
  refine Nat.le_trans (List.dropWhile_sublist _).length_le ?_
  rw [List.length_reverse]; exact Nat.le_refl _
theorem hasB_mem (c : UInt8) (l : Bs) : hasB c l = true ↔ c ∈ l := by
  unfold hasB
  induction l with
  | nil => simp
  | cons b l ih =>
    by_cases h : b = c
    · subst h; simp
    · have h1 : (b != c) = true := by simpa using h
      rw [List.dropWhile_cons, h1, if_pos rfl, ih]
      simp [Ne.symm h]
theorem parseF_no (s : Bs) (h : hasB 58 s = false) : parseF s = none := by
  rw [parseF]; split
  · rfl
  · rw [if_neg]; intro h2; rw [(hasB_mem 58 s).2 h2] at h; cases h
theorem parseF_yes (s : Bs) (h : hasB 58 s = true) (hl : s.length ≤ 256) (f : Fd) (hf : f = (fstB 58 s, trimL (sndB 58 s))) : parseF s = if isF f then some f else none := by
  subst hf
  rw [parseF, if_neg (by omega), if_pos ((hasB_mem 58 s).1 h)]
  rfl
theorem fcells_1 (N M : ByteArray) : fcells [((N.data.toList, M.data.toList) : Fd)] = [.string N, .string M] := by
  show [sv N.data.toList, sv M.data.toList] = _
  rw [sv, sv, ← str_eta, ← str_eta]
end Go.Proofs.YtmjekdnfkgalbaaGreatDoor

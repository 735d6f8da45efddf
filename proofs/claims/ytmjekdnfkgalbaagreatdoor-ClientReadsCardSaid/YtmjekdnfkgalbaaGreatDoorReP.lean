/- reply: how a response is read, in plain words: byte by byte, and line by line. -/
import Derived.Test.YtmjekdnfkgalbaaGreatDoorFPl
import Derived.Test.YtmjekdnfkgalbaaGreatDoorStatus
namespace Go.Proofs.YtmjekdnfkgalbaaGreatDoor
open Go.RowKit
set_option maxRecDepth 100000
set_option maxHeartbeats 4000000

/-- What is read of some bytes: they end too early, they are none, or it, and what stands behind it. -/
inductive R3 (α : Type) where
  | short
  | bad
  | ok (a : α) (r : Bs)
def R3.bind {α β : Type} (x : R3 α) (f : α → Bs → R3 β) : R3 β :=
  match x with
  | .short => .short
  | .bad => .bad
  | .ok a r => f a r
theorem R3.bind_short {α β : Type} (f : α → Bs → R3 β) : R3.bind .short f = .short := rfl
theorem R3.bind_bad {α β : Type} (f : α → Bs → R3 β) : R3.bind .bad f = .bad := rfl
theorem R3.bind_ok {α β : Type} (a : α) (r : Bs) (f : α → Bs → R3 β) : R3.bind (.ok a r) f = f a r := rfl
theorem R3.bind_bind {α β γ : Type} (x : R3 α) (f : α → Bs → R3 β) (g : β → Bs → R3 γ) : (x.bind f).bind g = x.bind fun a r => (f a r).bind g := by
  cases x <;> rfl
theorem R3.bind_if {α β : Type} (c : Prop) [Decidable c] (x y : R3 α) (f : α → Bs → R3 β) : (if c then x else y).bind f = if c then x.bind f else y.bind f := by
  split <;> rfl

def crlf : Bs := [13, 10]
def begB : Bs := [72, 84, 84, 80, 47, 49, 46, 49, 32]
def csB : Bs := [58, 32]
def chB : Bs := csB ++ chunkedB
def tkB (b : UInt8) : Bool := tokB b.toNat
def vlB (b : UInt8) : Bool := valueB b.toNat
def dgB (b : UInt8) : Bool := decide (48 ≤ b.toNat ∧ b.toNat ≤ 57)
def hxB (b : UInt8) : Bool := dgB b || decide (97 ≤ b.toNat ∧ b.toNat ≤ 102)
/-- A name of a field that Encode lays. -/
def ownN (n : Bs) : Bool := nmEq n teN || nmEq n clN || nmEq n coN
/-- A response. -/
structure Rs where
  st : Int
  f : List Fd
  b : Bs
  p : List Int
deriving DecidableEq
def rs0 : Rs := ⟨0, [], [], []⟩

/-- Some text. -/
def textL : Bs → Bs → R3 Unit
  | [], r => .ok () r
  | _ :: _, [] => .short
  | c :: s, d :: r => if d = c then textL s r else .bad
def digL (i : Nat) (st : Int) : Bs → R3 Int
  | [] => .short
  | c :: r => if dgB c && !(decide (i = 0) && (decide (c.toNat < 50) || decide (53 < c.toNat))) then .ok (10 * st + ((c.toNat : Int) - 48)) r else .bad
def phrL (st : Int) : Bs := 32 :: (phraseL st ++ crlf)
def statusL (r : Bs) : R3 Int :=
  (textL begB r).bind fun _ r => (digL 0 0 r).bind fun a r => (digL 1 a r).bind fun b r => (digL 2 b r).bind fun c r => (textL (phrL c) r).bind fun _ r => .ok c r
/-- The names of what Encode lays behind the fields. -/
def oursL (nb : Bool) : List Bs := if nb then [coN] else [teN, clN]
def fullL (ours : List Bs) (nf : Nat) (s : Bs) : Bool := decide (24 ≤ nf) && ours.all fun o => !s.isPrefixOf o
def nameL (ours : List Bs) (nf : Nat) (r : Bs) : R3 Bs :=
  if r.dropWhile tkB = [] then (if fullL ours nf (r.takeWhile tkB) then .bad else .short)
  else if ours.contains (r.takeWhile tkB) then .ok (r.takeWhile tkB) r
  else if decide (r.takeWhile tkB = []) || ownN (r.takeWhile tkB) || decide (24 ≤ nf) then .bad
  else (textL csB (r.dropWhile tkB)).bind fun _ t => .ok (r.takeWhile tkB) t
def valL (r : Bs) : R3 Bs :=
  if trimF (r.takeWhile vlB) ≠ r.takeWhile vlB then .bad
  else if r.dropWhile vlB = [] then .short
  else if trimL (r.takeWhile vlB) ≠ r.takeWhile vlB then .bad
  else (textL crlf (r.dropWhile vlB)).bind fun _ t => .ok (r.takeWhile vlB) t
def fldsL (nb : Bool) : Nat → List Fd → Bs → R3 (List Fd × Bs)
  | 0, _, _ => .bad
  | n + 1, fs, r =>
    if nb = true ∧ r = [] then .short
    else if nb = true ∧ r.head? = some 13 then .ok (fs, []) r
    else (nameL (oursL nb) fs.length r).bind fun s t => if ownN s then .ok (fs, s) t else (valL t).bind fun v t => fldsL nb n (fs ++ [(s, v)]) t
def numbL (most : Nat) (p : UInt8 → Bool) : Bs → R3 Bs
  | [] => .short
  | c :: r => if c = 48 then .ok [48] r else if ((c :: r).take most).takeWhile p = [] then .bad else .ok (((c :: r).take most).takeWhile p) ((c :: r).drop (((c :: r).take most).takeWhile p).length)
def keepL : Bs := keepB ++ crlf
def closL : Bs := closeB ++ crlf
def connT {α : Type} (chunked : Bool) (k : Bool → Bs → R3 α) : Bs → R3 α
  | [] => .short
  | d :: u => if d = 107 ∧ chunked = false then (textL keepL (d :: u)).bind fun _ t => k false t else (textL closL (d :: u)).bind fun _ t => k true t
def endsL (chunked : Bool) : Bs → R3 Bool
  | [] => .short
  | c :: r =>
    if c = 13 then (textL crlf (c :: r)).bind fun _ t => .ok false t
    else (textL (coN ++ csB) (c :: r)).bind fun _ t => connT chunked (fun b t => (textL crlf t).bind fun _ t => .ok b t) t
def dataL (n : Nat) (r : Bs) : R3 Bs := if r.length < n then .short else .ok (r.take n) (r.drop n)
def hexV (s : Bs) : Nat := ((numR 16 12 s).getD 0).toNat
def decV (s : Bs) : Nat := ((numR 10 15 s).getD 0).toNat
def chksL : Nat → Bs → List Int → Bs → R3 (Bs × List Int)
  | 0, _, _, _ => .bad
  | n + 1, b, p, r => (numbL 12 hxB r).bind fun s t =>
    if s = [48] ∧ p = [] then .bad
    else (textL crlf t).bind fun _ t =>
      if s = [48] then (textL crlf t).bind fun _ t => .ok (b, p) t
      else (dataL (hexV s) t).bind fun d t => (textL crlf t).bind fun _ t => chksL n (b ++ d) (p ++ [((b ++ d).length : Int)]) t
/-- What stands behind the fields. -/
def tailL (head : Bool) (st : Int) (fs : List Fd) (which : Bs) (r : Bs) : R3 (Rs × Bool) :=
  if which = teN then (textL (teN ++ (chB ++ crlf)) r).bind fun _ t => (endsL true t).bind fun e t =>
    if head then .ok (⟨st, fs, [], []⟩, e) t else (chksL (t.length + 1) [] [] t).bind fun x t => .ok (⟨st, fs, x.1, x.2⟩, e) t
  else if which = clN then (textL (clN ++ csB) r).bind fun _ t => (numbL 15 dgB t).bind fun s t => (textL crlf t).bind fun _ t => (endsL false t).bind fun e t =>
    if head then .ok (⟨st, fs, [], []⟩, e) t else (dataL (decV s) t).bind fun d t => .ok (⟨st, fs, d, []⟩, e) t
  else (endsL false r).bind fun e t => .ok (⟨st, fs, [], []⟩, e) t
def wholL (head : Bool) (r : Bs) : R3 (Rs × Bool) :=
  (statusL r).bind fun st t => (fldsL (noBody st) (t.length + 1) [] t).bind fun x t => tailL head st x.1 x.2 t
/-- The response, whether it closes, how many bytes it has, an error. -/
def readOf (b : Bs) (x : R3 (Rs × Bool)) : Rs × Bool × Nat × Int :=
  match x with
  | .short => (rs0, false, 0, 12)
  | .bad => (rs0, false, 0, 8)
  | .ok a t => (a.1, a.2, b.length - t.length, 0)
def readL (head : Bool) (b : Bs) : Rs × Bool × Nat × Int := readOf b (wholL head b)

/-! ## Line by line -/
/-- The first line, without the byte that ends it, and what stands behind it. -/
def lineOf : Bs → Option (Bs × Bs)
  | [] => none
  | c :: r => if c = 10 then some ([], r) else (lineOf r).map fun x => (c :: x.1, x.2)
/-- A response that is read: its row of lines. -/
structure RL where
  st : Int
  f : List Fd
  row : Int
  close : Bool
  keep : Bool
  chunked : Bool
  len : Nat
def rl0 : RL := ⟨0, [], 0, false, false, false, 0⟩
def firstL (s : Bs) : Int × Bool × Bool :=
  if s.length < 12 then (0, false, if 9 < s.length then begB.isPrefixOf s && (decide (50 ≤ (s.getD 9 0).toNat) && decide ((s.getD 9 0).toNat ≤ 53)) && (s.drop 9).all dgB else s.isPrefixOf begB)
  else match numR 10 15 ((s.drop 9).take 3) with
    | none => (0, false, false)
    | some c => if !begB.isPrefixOf s || decide (c < 200) || decide (599 < c) then (0, false, false)
      else (c, decide (s = begB ++ digs 10 c.toNat ++ [32] ++ phraseL c), s.isPrefixOf (begB ++ digs 10 c.toNat ++ [32] ++ phraseL c ++ [13]))
def rightL (s : Bs) : Bool := (numR 10 15 s).isSome && (decide (s = [48]) || decide (s.head? ≠ some 48))
def numbrL (s : Bs) : Bool := if s.getLast? = some 13 then rightL s.dropLast else (decide (s = []) || rightL s)
/-- What may stand behind a field's colon. -/
def partV : Bs → Bool
  | [] => true
  | c :: v => if c = 32 then (if v.getLast? = some 13 then allV v.dropLast && decide (trimL v.dropLast = v.dropLast) else allV v && (decide (v = []) || (decide (v.head? ≠ some 32) && decide (v.head? ≠ some 9)))) else false
def partL (s : Bs) : Bool :=
  match s.dropWhile tkB with
  | [] => decide (s ≠ [])
  | c :: v => if s.takeWhile tkB = [] ∨ c ≠ 58 ∨ ownN (s.takeWhile tkB) = true then false else partV v
def clS : Bs := clN ++ csB
def teS : Bs := teN ++ chB
def ccS : Bs := coN ++ csB ++ closeB
def ckS : Bs := coN ++ csB ++ keepB
def RL.ends (x : RL) : Bool := decide (2 ≤ x.row) || (decide (x.row = 1) && noBody x.st)
def mayL (x : RL) (s : Bs) : Bool :=
  if x.row = 0 then (firstL s).2.2
  else if s.isPrefixOf [13] then x.ends || decide (s = [])
  else if decide (x.row = 1) && decide (x.f.length < 24) && partL s then true
  else if decide (x.row = 1) && !noBody x.st && (s.isPrefixOf clS || (clS.isPrefixOf s && numbrL (s.drop 16)) || s.isPrefixOf (teS ++ [13])) then true
  else if (decide (x.row = 1) && noBody x.st) || decide (x.row = 2) then s.isPrefixOf (ccS ++ [13]) || (!x.chunked && s.isPrefixOf (ckS ++ [13]))
  else false
/-- A line as a field. -/
def fldOf (s : Bs) : Fd := (s.takeWhile (· ≠ 58), (s.dropWhile (· ≠ 58)).drop 2)
def lineL (x : RL) (s : Bs) : RL × Bool :=
  if !mayL x (s ++ [13]) then (x, false)
  else if x.row = 0 then ({ x with st := (firstL s).1, row := 1 }, (firstL s).2.1)
  else if clS.isPrefixOf s then ({ x with len := decV (s.drop 16), row := 2 }, true)
  else if s = teS then ({ x with chunked := true, row := 2 }, true)
  else if s = ccS then ({ x with close := true, row := 3 }, true)
  else if s = ckS then ({ x with keep := true, row := 3 }, true)
  else ({ x with f := x.f ++ [fldOf s] }, true)
def goL : Nat → RL → Bs → R3 RL
  | 0, _, _ => .bad
  | n + 1, x, r => match lineOf r with
    | none => if mayL x r then .short else .bad
    | some (s, t) =>
      if s.getLast? ≠ some 13 then .bad
      else if s.dropLast = [] then (if x.ends then .ok x t else .bad)
      else if (lineL x s.dropLast).2 then goL n (lineL x s.dropLast).1 t else .bad
/-- A chunk's size: how many bytes its line has, or -1: it goes on, or -2: it is none; the size. -/
def sizL (b : Bs) : Int × Int :=
  let n := ((b.take 12).takeWhile hxB).length
  if 1 < n ∧ b.head? = some 48 then (0, -2)
  else match b.drop n with
    | [] => (0, -1)
    | c :: r => if n = 0 ∨ c ≠ 13 then (0, -2) else match r with
      | [] => (0, -1)
      | d :: _ => if d ≠ 10 then (0, -2) else ((n : Int) + 2, hexV (b.take n))
def chkR : Nat → Bs → List Int → Bs → R3 (Bs × List Int)
  | 0, _, _, _ => .bad
  | k + 1, B, P, b =>
    if P = [] ∧ b.head? = some 48 then .bad
    else if (sizL b).2 = -1 then .short
    else if (sizL b).2 = -2 then .bad
    else if (b.drop (sizL b).1.toNat).length < (sizL b).2.toNat then .short
    else
      let t := b.drop (sizL b).1.toNat
      let u := t.drop (sizL b).2.toNat
      if !(u.take 2).isPrefixOf crlf then .bad
      else if u.length < 2 then .short
      else if (sizL b).2 = 0 then .ok (B ++ t.take (sizL b).2.toNat, P) (u.drop 2)
      else chkR k (B ++ t.take (sizL b).2.toNat) (P ++ [((B ++ t.take (sizL b).2.toNat).length : Int)]) (u.drop 2)
def bodR (head : Bool) (x : RL) (t : Bs) : R3 (Rs × Bool) :=
  if head then .ok (⟨x.st, x.f, [], []⟩, x.close) t
  else if x.chunked then (chkR (t.length + 1) [] [] t).bind fun y t => .ok (⟨x.st, x.f, y.1, y.2⟩, x.close) t
  else if t.length < x.len then .short
  else .ok (⟨x.st, x.f, t.take x.len, []⟩, x.close) (t.drop x.len)
def readR (head : Bool) (b : Bs) : Rs × Bool × Nat × Int := readOf b ((goL (b.length + 1) rl0 b).bind (bodR head))
end Go.Proofs.YtmjekdnfkgalbaaGreatDoor

/- The lines of a head in plain words. -/
import Derived.Test.YtmnnbfaaaifcoaaGreatDoorKPl
import Derived.Test.YtmnnbfaaaifcoaaGreatDoorTgt5
namespace Go.Proofs.YtmnnbfaaaifcoaaGreatDoor
open Go.RowKit
set_option maxRecDepth 100000

def digC (b : UInt8) : Bool := decide (48 ≤ b.toNat ∧ b.toNat ≤ 57)
def httpV : Bs := [72, 84, 84, 80, 47]
/-- The two digits of a version. -/
def verL (v : Bs) : Option (UInt8 × UInt8) :=
  match v.drop 5 with
  | [a, d, b] => if v.take 5 = httpV ∧ d = 46 ∧ digC a = true ∧ digC b = true then some (a, b) else none
  | _ => none
/-- A start line: its status; method, target, minor version. -/
def startL (s : Bs) : Int × Bs × Tgt × Int :=
  match splitL 32 s with
  | [m, t, v] =>
    if tkL m then
      (match verL v with
       | none => (400, [], tgt0, 0)
       | some (a, b) =>
         if a = 49 then
           (if (parseL m t).2 = 0 then (0, m, (parseL m t).1, if b = 48 then 0 else 1)
            else if (parseL m t).2 = 9 then (414, [], tgt0, 0) else (400, [], tgt0, 0))
         else (505, [], tgt0, 0))
    else (400, [], tgt0, 0)
  | _ => (400, [], tgt0, 0)
structure HS where
  flds : List Fd
  method : Bs
  tgt : Tgt
  minor : Int
  begun : Bool
  empty : Nat
  bytes : Nat
  how : How
  whole : Bool
  status : Int
deriving DecidableEq
def hs0 : HS := ⟨[], [], tgt0, 0, false, 0, 0, how0, false, 0⟩
/-- A line of a head. -/
def hLine (h : HS) (s : Bs) : HS :=
  if h.whole = true ∨ h.status ≠ 0 then h
  else
    let b := h.bytes + min s.length 257 + 2
    if 256 < s.length ∨ 1024 < b then { h with bytes := b, status := if h.begun then 431 else 414 }
    else if h.begun = false then
      (if s = [] then { h with bytes := b, empty := h.empty + 1, status := if 4 < h.empty + 1 then 400 else 0 }
       else if (startL s).1 = 0 then { h with bytes := b, begun := true, method := (startL s).2.1, tgt := (startL s).2.2.1, minor := (startL s).2.2.2 }
       else { h with bytes := b, status := (startL s).1 })
    else if s = [] then
      { h with bytes := b, how := (frmL (decide (1 ≤ h.minor)) h.flds).1, status := (frmL (decide (1 ≤ h.minor)) h.flds).2, whole := decide ((frmL (decide (1 ≤ h.minor)) h.flds).2 = 0) }
    else
      match parseF s with
      | none => { h with bytes := b, status := 400 }
      | some f => if 24 ≤ h.flds.length then { h with bytes := b, status := 431 } else { h with bytes := b, flds := h.flds ++ [f] }
def hLines (h : HS) (l : List Bs) : HS := l.foldl hLine h
end Go.Proofs.YtmnnbfaaaifcoaaGreatDoor

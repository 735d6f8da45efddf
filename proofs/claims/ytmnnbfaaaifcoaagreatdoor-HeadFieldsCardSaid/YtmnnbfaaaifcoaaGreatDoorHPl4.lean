/- Fields as lines of a head, in plain words. -/
import Derived.Test.YtmnnbfaaaifcoaaGreatDoorHPl3
namespace Go.Proofs.YtmnnbfaaaifcoaaGreatDoor
open Go.RowKit
set_option maxRecDepth 100000

def sumF (l : List Fd) : Nat := (l.map fun f => f.1.length + f.2.length + 4).sum
theorem sumF_take (l : List Fd) (k : Nat) (f : Fd) (hf : l[k]? = some f) : sumF (l.take (k + 1)) = sumF (l.take k) + (f.1.length + f.2.length + 4) := by
  have hk := (List.getElem?_eq_some_iff.1 hf).1
  have e : l[k] = f := by have := List.getElem?_eq_getElem hk; rw [hf] at this; exact (Option.some.inj this).symm
  rw [List.take_succ_eq_append_getElem hk, sumF, sumF, List.map_append, List.sum_append, e]
  simp
theorem sumF_le (l : List Fd) (k : Nat) : sumF (l.take k) ≤ sumF l := by
  conv => rhs; rw [← List.take_append_drop k l]
  rw [sumF, sumF, List.map_append, List.sum_append]
  omega
/-- A field's line. -/
def fLine (f : Fd) : Bs := f.1 ++ [58, 32] ++ f.2
theorem fLine_len (f : Fd) : (fLine f).length = f.1.length + f.2.length + 2 := by simp [fLine]; omega
def kh0 : Bs := [71, 69, 84, 32, 47, 32, 72, 84, 84, 80, 47, 49, 46, 48]
def khM (b : Bool) : Bs := if b then kh1 else kh0
def mI' (b : Bool) : Int := if b then 1 else 0
/-- The head behind a start line and some fields. -/
def fH (b : Bool) (l : List Fd) : HS := { flds := l, method := [71, 69, 84], tgt := kH1.tgt, minor := mI' b, begun := true, empty := 0, bytes := 16 + sumF l, how := how0, whole := false, status := 0 }
theorem fH_start (b : Bool) : hLine hs0 (khM b) = fH b [] := by cases b <;> decide +kernel
theorem fH_on (b : Bool) (l : List Fd) : (fH b l).on = true := by simp [HS.on, fH]
theorem fH_step (b : Bool) (l : List Fd) (f : Fd) (hi : isF f = true) (h1 : f.1.length + f.2.length ≤ 254) (h2 : 18 + sumF l + (f.1.length + f.2.length + 4) ≤ 1024) (h3 : l.length < 24) : hLine (fH b l) (fLine f) = fH b (l ++ [f]) := by
  have hs : sumF (l ++ [f]) = sumF l + (f.1.length + f.2.length + 4) := by simp [sumF]
  have hb : hB (fH b l) (fLine f) = 16 + sumF (l ++ [f]) := by
    unfold hB
    rw [fLine_len, hs]
    show 16 + sumF l + min _ 257 + 2 = _
    omega
  have hne : fLine f ≠ [] := by simp [fLine]
  rw [hLine_on _ _ (fH_on b l), if_neg (by rw [fLine_len, hb, hs]; omega), if_neg (by simp [fH]), if_neg hne, hb, adL, fLine, parseF_of f hi (by omega)]
  simp only
  rw [if_neg (by simp [fH]; omega)]
  rfl
theorem fH_end (b : Bool) (l : List Fd) (h : 18 + sumF l ≤ 1024) : hLine (fH b l) [] = { fH b l with bytes := 18 + sumF l, how := (frmL b l).1, status := (frmL b l).2, whole := decide ((frmL b l).2 = 0) } := by
  have hb : hB (fH b l) [] = 18 + sumF l := by
    unfold hB
    show 16 + sumF l + min 0 257 + 2 = _
    omega
  rw [hLine_on _ _ (fH_on b l), if_neg (by rw [hb]; simp; omega), if_neg (by simp [fH]), if_pos rfl, hb]
  rw [show decide (1 ≤ (fH b l).minor) = b by cases b <;> rfl]
  rfl
end Go.Proofs.YtmnnbfaaaifcoaaGreatDoor

/- parse, usherref15: Take, whatever the phase is. -/
import Derived.Test.YtlambdccmfnloaaGreatDoorLwR15
namespace Go.Proofs.YtlambdccmfnloaaGreatDoor
open Go.RowKit
set_option maxRecDepth 100000
set_option maxHeartbeats 4000000

def rq0 : RQ := ⟨[], tgt0, 0, [], [], false, false⟩
theorem rq0_r (w : World) : RQR w rq0 none none := ⟨Rd.nil _ _ _ _, Rd.nil _ _ _ _⟩
/-- The request that Take tells, whether it does, and where it is then. -/
def rT (p : PS) : RQ := if p.phase = 3 then rqOf p else rq0
def eT (p : PS) : Int := if p.phase = 3 then 0 else 4
def pT (p : PS) : PS := if p.phase = 3 then p0 else p
theorem pT_inv (p : PS) (h : PInv p) : PInv (pT p) := by
  unfold pT
  split
  · exact p0_inv
  · exact h
theorem pT_pb (p : PS) (h : PB p) : PB (pT p) := by
  unfold pT
  split
  · exact p0_pb
  · exact h
theorem rT_len (p : PS) (h : PInv p) : (rT p).f.length ≤ 100000 ∧ (rT p).b.length ≤ 100000 := by
  unfold rT
  split
  · have := h.body
    exact ⟨Nat.le_trans h.hd.len (by decide), by show p.body.length ≤ 100000; omega⟩
  · exact ⟨by decide, by decide⟩
/-- Its rows lie outside of X. -/
def RQO (r : RQ) (AF AB : Option Addr) (X : Nat → Prop) : Prop := (0 < r.f.length → ∀ a, AF = some a → ¬ X a.block) ∧ (0 < r.b.length → ∀ a, AB = some a → ¬ X a.block)
theorem rqo0 (X : Nat → Prop) : RQO rq0 none none X := ⟨fun _ a ha => (by cases ha), fun _ a ha => (by cases ha)⟩
theorem RQR.fr {w w' : World} {r : RQ} {AF AB : Option Addr} {X : Nat → Prop} (h : RQR w r AF AB) (ho : RQO r AF AB X) (hf : Fr X w w') : RQR w' r AF AB :=
  ⟨(h.f.frm (Nat.le_refl _) hf ho.1).more hf.size, (h.b.frm (Nat.le_refl _) hf ho.2).more hf.size⟩
def TakeA (w : World) (g : Nat) (S : Nat → Prop) (p : PS) (e : Ending) (w' : World) : Prop :=
  ∃ (AF : Option Addr) (cF : Nat) (AB : Option Addr) (cB : Nat), e = .returned (.tuple #[rqV (rT p) AF cF AB cB, .int .i64 (eT p)]) ∧ RQR w' (rT p) AF AB ∧ (∀ X : Nat → Prop, (∀ k, X k → k < w.heap.size ∧ ¬ S k) → RQO (rT p) AF AB X) ∧ ∃ S', PR w' g S' (pT p) ∧ Moved S S' w w'
theorem prs_TakeA (g : Nat) (S : Nat → Prop) (p : PS) (w : World) (q : PR w g S p) (hi : PInv p) :
    Calls Tryz.prog 19 #[.pointer (some ⟨g, 0, none⟩)] w (TakeA w g S p) := by
  by_cases hp : p.phase = 3
  · refine (prs_Take_yes g S p w q hp hi).mono ?_
    rintro e w3 ⟨AF, cF, AB, cB, rfl, hr1, hn1, hr2, hn2, S3, q3, m3, hS3⟩
    have e1 : rT p = rqOf p := if_pos hp
    have e2 : eT p = 0 := if_pos hp
    have e3 : pT p = p0 := if_pos hp
    unfold TakeA
    rw [e1, e2, e3]
    exact ⟨AF, cF, AB, cB, rfl, ⟨hr1, hr2⟩, fun X hX => ⟨fun h0 a ha hx => by have := hn1 h0 a ha; have := (hX _ hx).1; omega, fun h0 a ha hx => (hX _ hx).2 (hn2 h0 a ha).1⟩, S3, q3, m3⟩
  · refine (prs_Take_not g S p w q hp).mono ?_
    rintro e w3 ⟨rfl, L3⟩
    have e1 : rT p = rq0 := if_neg hp
    have e2 : eT p = 4 := if_neg hp
    have e3 : pT p = p := if_neg hp
    unfold TakeA
    rw [e1, e2, e3]
    exact ⟨none, 0, none, 0, rfl, rq0_r _, fun X _ => rqo0 X, S, q.belowW L3, (Moved.refl _ _).belowW L3⟩
def XTakeA (w : World) (g : Nat) (S : Nat → Prop) (p : PS) (e : Ending) (w' : World) : Prop :=
  ∃ (AF : Option Addr) (cF : Nat) (AB : Option Addr) (cB : Nat), e = .returned (.tuple #[rqV (rT p) AF cF AB cB, .int .i64 (eT p)]) ∧ RQR w' (rT p) AF AB ∧ (∀ X : Nat → Prop, (∀ k, X k → k < w.heap.size) → RQO (rT p) AF AB X) ∧ ∃ S', XQ w' g S' (pT p) ∧ Moved S S' w w'
theorem xp_TakeA (g : Nat) (S : Nat → Prop) (p : PS) (w : World) (q : XQ w g S p) (hi : PInv p) :
    Calls Tryz.prog 47 #[.pointer (some ⟨g, 0, none⟩)] w (XTakeA w g S p) := by
  by_cases hp : p.phase = 3
  · refine (xp_Take_yes g S p w q hp hi).mono ?_
    rintro e w3 ⟨AF, cF, AB, cB, rfl, hr1, hn1, hr2, hn2, q3, m3⟩
    have e1 : rT p = rqOf p := if_pos hp
    have e2 : eT p = 0 := if_pos hp
    have e3 : pT p = p0 := if_pos hp
    unfold XTakeA
    rw [e1, e2, e3]
    exact ⟨AF, cF, AB, cB, rfl, ⟨hr1, hr2⟩, fun X hX => ⟨fun h0 a ha hx => by have := hn1 h0 a ha; have := hX _ hx; omega, fun h0 a ha hx => by have := hn2 h0 a ha; have := hX _ hx; omega⟩, _, q3, m3⟩
  · refine (xp_Take_not g S p w q hp).mono ?_
    rintro e w3 ⟨rfl, L3⟩
    have e1 : rT p = rq0 := if_neg hp
    have e2 : eT p = 4 := if_neg hp
    have e3 : pT p = p := if_neg hp
    unfold XTakeA
    rw [e1, e2, e3]
    exact ⟨none, 0, none, 0, rfl, rq0_r _, fun X _ => rqo0 X, S, q.belowW L3, (Moved.refl _ _).belowW L3⟩
end Go.Proofs.YtlambdccmfnloaaGreatDoor

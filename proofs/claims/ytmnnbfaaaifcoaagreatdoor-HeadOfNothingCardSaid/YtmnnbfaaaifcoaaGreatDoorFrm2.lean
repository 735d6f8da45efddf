/- framing: tokens, coded, length. -/
import Derived.Test.YtmnnbfaaaifcoaaGreatDoorFrm
import Derived.Test.YtmnnbfaaaifcoaaGreatDoorTgt5
namespace Go.Proofs.YtmnnbfaaaifcoaaGreatDoor
open Go.RowKit
set_option maxRecDepth 100000
set_option maxHeartbeats 2000000

/-- A receiver that may be nil. -/
def FP (w : World) (p : Option Addr) (l : List Fd) : Prop := (p = none ∧ l = []) ∨ ∃ g, p = some ⟨g, 0, none⟩ ∧ FR w 104 g l
theorem FP.belowW {w w' : World} {p : Option Addr} {l : List Fd} (h : FP w p l) (hb : Below w.heap.size w w') : FP w' p l := by
  rcases h with ⟨rfl, rfl⟩ | ⟨g, rfl, h⟩
  · exact .inl ⟨rfl, rfl⟩
  · exact .inr ⟨g, rfl, h.belowW hb⟩
theorem fp_Values (p : Option Addr) (l : List Fd) (name : ByteArray) (w : World) (hF : FP w p l) (hl : l.length ≤ 24) (hsz : FdSz l) (hnm : name.size ≤ 1000000) :
    Calls Tryz.prog 74 #[.pointer p, .string name] w (ValPost w (valsL name.data.toList l)) := by
  rcases hF with ⟨rfl, rfl⟩ | ⟨g, rfl, h⟩
  · exact fld_Values_nil name w
  · exact fld_Values g l name w h (by omega) hsz (fsz_max hnm)
theorem fp_Has (p : Option Addr) (l : List Fd) (name : ByteArray) (w : World) (hF : FP w p l) (hl : l.length ≤ 24) (hsz : FdSz l) (hnm : name.size ≤ 1000000) :
    Calls Tryz.prog 46 #[.pointer p, .string name] w fun e w' => e = .returned (.bool (!(valsL name.data.toList l).isEmpty)) ∧ Below w.heap.size w w' := by
  rcases hF with ⟨rfl, rfl⟩ | ⟨g, rfl, h⟩
  · exact fld_Has_nil name w
  · exact fld_Has g l name w h (by omega) hsz (fsz_max hnm)
theorem fp_Get (p : Option Addr) (l : List Fd) (name : ByteArray) (w : World) (hF : FP w p l) (hl : l.length ≤ 24) (hsz : FdSz l) (hnm : name.size ≤ 1000000) :
    Calls Tryz.prog 82 #[.pointer p, .string name] w fun e w' => e = .returned (sv (joinC (valsL name.data.toList l))) ∧ Below w.heap.size w w' := by
  rcases hF with ⟨rfl, rfl⟩ | ⟨g, rfl, h⟩
  · go_enter Tryz.func82, Tryz.ntmps82
    go_wp2_with fail
    refine (fld_Values_nil name w).mono ?_
    rintro e w1 ⟨⟨A, c, rfl, h1, h2, h3⟩, L⟩
    go_wp2_with fail
    refine (lib_Join A c _ [] w1 h3 (Nat.le_refl _) h1 (by decide) (by decide)).mono ?_
    rintro e w2 ⟨rfl, L2⟩
    go_wp2
    go_ret
    exact ⟨rfl, stepW L L2⟩
  · exact fld_Get g l name w h (by omega) hsz (fsz_max hnm)
theorem valsL_sz (n : Bs) (l : List Fd) (h : FdSz l) : TxSz (valsL n l) := by
  intro v hv
  obtain ⟨f, h1, rfl⟩ := valsL_mem _ _ v hv
  exact (h f h1).2
/-- The tokens, or the refusal. -/
def RfPost (w : World) (o : Option (List Bs)) (e : Ending) (w' : World) : Prop :=
  ((o = none ∧ e = .panicked (refusal 400)) ∨ ∃ t A c, o = some t ∧ e = .returned (.slice A t.length c) ∧ t.length ≤ c ∧ c ≤ maxLen ∧ Rd w' w'.heap.size 1 A t.length (t.map tv)) ∧ Below w.heap.size w w'
theorem frm_tokens (p : Option Addr) (l : List Fd) (name : ByteArray) (w : World) (hF : FP w p l) (hl : l.length ≤ 24) (hsz : FdSz l) (hnm : name.size ≤ 1000000) (hm : ML w) :
    Calls Tryz.prog 78 #[.pointer p, .string name] w (RfPost w (toksL (valsL name.data.toList l))) := by
  have hvl := valsL_len name.data.toList l
  go_enter Tryz.func78, Tryz.ntmps78
  go_wp2_with fail
  refine (fp_Values p l name w hF hl hsz hnm).mono ?_
  rintro e w1 ⟨⟨A, c, rfl, h1, h2, h3⟩, L⟩
  go_wp2_with fail
  refine (lst_Tokens A c _ (valsL name.data.toList l) w1 h3 (Nat.le_refl _) (by omega) (valsL_sz _ _ hsz) (hm.below L (Nat.le_refl _))).mono ?_
  rintro e w2 ⟨⟨A2, c2, rfl, k1, k2, k3⟩, L2⟩
  have LL := stepW L L2
  generalize toksL (valsL name.data.toList l) = o at *
  cases o with
  | none =>
    rw [show ((none : Option (List Bs)).getD []) = [] from rfl, show (none : Option (List Bs)).isSome = false from rfl]
    go_wp2_with fail
    refine (frm_must0 400 w2).mono ?_
    rintro e w3 ⟨rfl, rfl⟩
    exact ⟨rfl, .inl ⟨rfl, rfl⟩, LL⟩
  | some t =>
    rw [show ((some t : Option (List Bs)).getD []) = t from rfl] at k1 k3
    rw [show ((some t : Option (List Bs)).getD []) = t from rfl, show (some t : Option (List Bs)).isSome = true from rfl]
    go_wp2_with fail
    refine (frm_must1 400 w2).mono ?_
    rintro e w3 ⟨rfl, rfl⟩
    go_wp2
    go_ret
    exact ⟨.inr ⟨t, A2, c2, rfl, rfl, k1, k2, k3⟩, LL⟩
end Go.Proofs.YtmnnbfaaaifcoaaGreatDoor

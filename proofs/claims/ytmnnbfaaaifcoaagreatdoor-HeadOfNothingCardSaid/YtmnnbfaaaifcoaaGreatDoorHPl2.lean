/- A head's invariant; its lines, case by case. -/
import Derived.Test.YtmnnbfaaaifcoaaGreatDoorHd3b
namespace Go.Proofs.YtmnnbfaaaifcoaaGreatDoor
open Go.RowKit
set_option maxRecDepth 100000

structure HInv (h : HS) : Prop where
  len : h.flds.length ≤ 24
  sz : FdSz h.flds
  m0 : 0 ≤ h.minor
  m1 : h.minor ≤ 1
  bytes : h.bytes ≤ 1300
  empty : h.empty ≤ 5
  on : h.whole = false → h.status = 0 → h.bytes ≤ 1024 ∧ h.empty ≤ 4
  fr : h.begun = false → h.minor = 0
theorem hs0_inv : HInv hs0 := ⟨by decide, (by intro f hf; cases hf), by decide, by decide, by decide, by decide, fun _ _ => ⟨by decide, by decide⟩, fun _ => rfl⟩
/-- A head that goes on. -/
def HS.on (h : HS) : Bool := !h.whole && decide (h.status = 0)
theorem HS.on_parts (h : HS) (ho : h.on = true) : h.whole = false ∧ h.status = 0 := by simpa [HS.on] using ho
theorem HS.off_parts (h : HS) (ho : h.on = false) : h.whole = true ∨ (h.whole = false ∧ h.status ≠ 0) := by
  unfold HS.on at ho
  cases hw : h.whole
  · rw [hw] at ho; simp at ho; exact .inr ⟨rfl, ho⟩
  · exact .inl rfl
theorem hLine_off (h : HS) (s : Bs) (ho : h.on = false) : hLine h s = h := by
  rw [hLine, if_pos]
  rcases h.off_parts ho with h1 | ⟨-, h1⟩
  · exact .inl h1
  · exact .inr h1
def hB (h : HS) (s : Bs) : Nat := h.bytes + min s.length 257 + 2
theorem hLine_on (h : HS) (s : Bs) (ho : h.on = true) : hLine h s = (if 256 < s.length ∨ 1024 < hB h s then { h with bytes := hB h s, status := if h.begun then 431 else 414 }
    else if h.begun = false then
      (if s = [] then { h with bytes := hB h s, empty := h.empty + 1, status := if 4 < h.empty + 1 then 400 else 0 }
       else if (startL s).1 = 0 then { h with bytes := hB h s, begun := true, method := (startL s).2.1, tgt := (startL s).2.2.1, minor := (startL s).2.2.2 }
       else { h with bytes := hB h s, status := (startL s).1 })
    else if s = [] then
      { h with bytes := hB h s, how := (frmL (decide (1 ≤ h.minor)) h.flds).1, status := (frmL (decide (1 ≤ h.minor)) h.flds).2, whole := decide ((frmL (decide (1 ≤ h.minor)) h.flds).2 = 0) }
    else { h with bytes := hB h s, status := (adL h.flds s).1, flds := (adL h.flds s).2 }) := by
  obtain ⟨h1, h2⟩ := h.on_parts ho
  rw [hLine, if_neg (by rw [h1, h2]; simp)]
  show (if 256 < s.length ∨ 1024 < hB h s then _ else _) = _
  by_cases c1 : 256 < s.length ∨ 1024 < hB h s
  · rw [if_pos c1, if_pos c1]; rfl
  rw [if_neg c1, if_neg c1]
  by_cases c3 : h.begun = false
  · rw [if_pos c3, if_pos c3]; rfl
  rw [if_neg c3, if_neg c3]
  by_cases c4 : s = []
  · rw [if_pos c4, if_pos c4]; rfl
  rw [if_neg c4, if_neg c4]
  unfold adL
  cases parseF s with
  | none => rfl
  | some f =>
    simp only
    by_cases c5 : 24 ≤ h.flds.length
    · rw [if_pos c5, if_pos c5]; rfl
    · rw [if_neg c5, if_neg c5, h2]; rfl
theorem startL_minor (s : Bs) : 0 ≤ (startL s).2.2.2 ∧ (startL s).2.2.2 ≤ 1 := by
  unfold startL
  split
  · split
    · split
      · simp
      · split
        · split
          · simp only; split <;> simp
          · split <;> simp
        · simp
    · simp
  · simp
theorem adL_inv (l : List Fd) (s : Bs) (hl : l.length ≤ 24) (hz : FdSz l) : (adL l s).2.length ≤ 24 ∧ FdSz (adL l s).2 := by
  unfold adL
  split
  · exact ⟨hl, hz⟩
  · rename_i f hf
    obtain ⟨-, z1, z2⟩ := parseF_sz _ _ hf
    split
    · exact ⟨hl, hz⟩
    · refine ⟨by simp; omega, fun g hg => ?_⟩
      rcases List.mem_append.1 hg with hg | hg
      · exact hz g hg
      · rw [List.mem_singleton] at hg
        subst hg
        exact ⟨Nat.le_trans z1 (by decide), Nat.le_trans z2 (by decide)⟩
theorem hLine_inv (h : HS) (s : Bs) (hi : HInv h) : HInv (hLine h s) := by
  cases ho : h.on
  · rw [hLine_off h s ho]; exact hi
  obtain ⟨h1, h2⟩ := h.on_parts ho
  obtain ⟨b1, b2⟩ := hi.on h1 h2
  have hb : hB h s ≤ 1300 := by unfold hB; omega
  rw [hLine_on h s ho]
  by_cases c1 : 256 < s.length ∨ 1024 < hB h s
  · rw [if_pos c1]
    refine ⟨hi.len, hi.sz, hi.m0, hi.m1, hb, by show h.empty ≤ 5; omega, fun _ hs => ?_, hi.fr⟩
    exfalso
    revert hs
    show (if h.begun = true then (431 : Int) else 414) = 0 → False
    split <;> decide
  rw [if_neg c1]
  have c2 : hB h s ≤ 1024 := by omega
  by_cases c3 : h.begun = false
  · rw [if_pos c3]
    by_cases c4 : s = []
    · rw [if_pos c4]
      refine ⟨hi.len, hi.sz, hi.m0, hi.m1, hb, by show h.empty + 1 ≤ 5; omega, fun _ hs => ⟨c2, ?_⟩, hi.fr⟩
      show h.empty + 1 ≤ 4
      by_cases c5 : 4 < h.empty + 1
      · exfalso
        simp only [if_pos c5] at hs
        revert hs; decide
      · omega
    · rw [if_neg c4]
      split
      · exact ⟨hi.len, hi.sz, (startL_minor s).1, (startL_minor s).2, hb, by show h.empty ≤ 5; omega, fun _ _ => ⟨c2, b2⟩, fun h0 => by cases h0⟩
      · rename_i c5
        exact ⟨hi.len, hi.sz, hi.m0, hi.m1, hb, by show h.empty ≤ 5; omega, fun _ hs => absurd hs c5, hi.fr⟩
  · rw [if_neg c3]
    by_cases c4 : s = []
    · rw [if_pos c4]
      exact ⟨hi.len, hi.sz, hi.m0, hi.m1, hb, by show h.empty ≤ 5; omega, fun _ _ => ⟨c2, b2⟩, hi.fr⟩
    · rw [if_neg c4]
      obtain ⟨a1, a2⟩ := adL_inv h.flds s hi.len hi.sz
      exact ⟨a1, a2, hi.m0, hi.m1, hb, by show h.empty ≤ 5; omega, fun _ _ => ⟨c2, b2⟩, hi.fr⟩
theorem hLines_inv : ∀ (l : List Bs) (h : HS), HInv h → HInv (hLines h l)
  | [], _, hi => hi
  | s :: l, h, hi => hLines_inv l (hLine h s) (hLine_inv h s hi)
theorem stH_yes (h : HS) (s : Bs) (h0 : (startL s).1 = 0) : stH h s = { h with begun := true, method := (startL s).2.1, tgt := (startL s).2.2.1, minor := (startL s).2.2.2 } := if_pos h0
theorem stH_no (h : HS) (s : Bs) (h0 : ¬ (startL s).1 = 0) : stH h s = h := if_neg h0
end Go.Proofs.YtmnnbfaaaifcoaaGreatDoor

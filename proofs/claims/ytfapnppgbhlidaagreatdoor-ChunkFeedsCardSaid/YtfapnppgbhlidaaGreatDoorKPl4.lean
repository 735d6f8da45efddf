/- Bodies in chunks in plain words, on: what holds of every Reader. -/
import Derived.Test.YtfapnppgbhlidaaGreatDoorKPl3
namespace Go.Proofs.YtfapnppgbhlidaaGreatDoor
open Go.RowKit
set_option maxRecDepth 100000

structure CInv (r : CS) : Prop where
  place : r.place ≤ 3
  data : r.place = 1 → 1 ≤ r.left ∧ r.left ≤ 16777216
  fin : r.place = 2 → r.left = 1 ∨ r.left = 2
  line : (r.place = 1 ∨ r.place = 2) → r.line = []
  left : (r.place = 0 ∨ r.place = 3) → r.left = 0
  body : r.body.length + (if r.place = 1 then r.left else 0) ≤ 2048
  trs : r.trs.length ≤ 8
  len : r.line.length ≤ 258
  lenOn : r.on = true → r.line.length ≤ 257
  ends : r.on = true → r.ends ≤ 512
  ends2 : r.ends ≤ 1000
theorem cs0_inv : CInv cs0 := ⟨by decide, by decide, by decide, by decide, by decide, by decide, by decide, by decide, by decide, by decide, by decide⟩
theorem CS.on_parts (r : CS) (h : r.on = true) : r.whole = false ∧ r.status = 0 := by
  unfold CS.on at h; simpa using h
theorem numF_nonneg (base : Int) (hb : 0 ≤ base) : ∀ (l : Bs) (n v : Int), 0 ≤ n → numF base l n = some v → 0 ≤ v
  | [], n, v, hn, h => by simp [numF] at h; omega
  | c :: l, n, v, hn, h => by
    rw [numF] at h
    split at h
    · cases h
    · rename_i hc
      exact numF_nonneg base hb l _ v (Int.add_nonneg (Int.mul_nonneg hn hb) (by omega)) h
theorem sizeL_nonneg (s : Bs) (v : Int) (h : sizeL s = some v) : 0 ≤ v := by
  rw [sizeL] at h
  split at h
  · cases h
  · split at h
    · rw [numR] at h
      split at h
      · cases h
      · exact numF_nonneg 16 (by decide) _ 0 v (Int.le_refl _) h
    · cases h
theorem cSize_inv (r : CS) (s : Bs) (h : CInv r) (hp : r.place = 0) : CInv (cSize { r with line := [] } s) := by
  have hb := h.body
  have hlf := h.left (.inl hp)
  rw [if_neg (by omega)] at hb
  rw [cSize]
  cases hs : sizeL s with
  | none => exact ⟨h.place, h.data, h.fin, fun _ => rfl, h.left, by simp only; rw [if_neg (by omega)]; omega, h.trs, by simp, by simp, fun ho => by simp [CS.on] at ho, h.ends2⟩
  | some v =>
    have hv := sizeL_nonneg s v hs
    simp only
    split
    · exact ⟨h.place, h.data, h.fin, fun _ => rfl, h.left, by simp only; rw [if_neg (by omega)]; omega, h.trs, by simp, by simp, fun ho => by simp [CS.on] at ho, h.ends2⟩
    · split
      · exact ⟨by simp, by simp, by simp, fun _ => rfl, fun _ => hlf, by simp only; rw [if_neg (by omega)]; omega, h.trs, by simp, by simp, h.ends, h.ends2⟩
      · rename_i h1 h2
        exact ⟨by simp, fun _ => ⟨by simp only; omega, by simp only; omega⟩, by simp, fun _ => rfl, by simp, by simp only [if_true]; omega, h.trs, by simp, by simp, h.ends, h.ends2⟩
theorem off_st (r : CS) (e : Int) (h : r.status = e) (h2 : e ≠ 0) : ¬ r.on = true := by
  intro ho
  have := (CS.on_parts r ho).2
  omega
theorem cTrailer_inv (r : CS) (s : Bs) (h : CInv r) (hp : r.place = 3) (ho : r.on = true) (hs : s.length ≤ 257) : CInv (cTrailer { r with line := [] } s) := by
  have hb := h.body
  have hlf := h.left (.inr hp)
  have he := h.ends ho
  rw [if_neg (by omega)] at hb
  rw [cTrailer]
  cases hf : parseF s with
  | none => exact ⟨h.place, h.data, h.fin, fun _ => rfl, h.left, by simp only; rw [if_neg (by omega)]; omega, h.trs, by simp, by simp, fun ho => by simp [CS.on] at ho, by simp only; omega⟩
  | some f =>
    simp only
    split
    · exact ⟨h.place, h.data, h.fin, fun _ => rfl, h.left, by simp only; rw [if_neg (by omega)]; omega, h.trs, by simp, by simp, fun ho => by simp [CS.on] at ho, by simp only; omega⟩
    · rename_i h1
      have ht := h.trs
      exact ⟨h.place, h.data, h.fin, fun _ => rfl, h.left, by simp only; rw [if_neg (by omega)]; omega, by simp only [List.length_append, List.length_cons, List.length_nil]; omega, by simp, by simp, fun _ => by simp only; omega, by simp only; omega⟩
theorem cLine_inv (r : CS) (c : UInt8) (h : CInv r) (hp : r.place = 0 ∨ r.place = 3) (ho : r.on = true) : CInv (cLine r c) := by
  have hb := h.body
  have hlf := h.left hp
  have he := h.ends ho
  have hl := h.lenOn ho
  have hn1 : r.place ≠ 1 := by omega
  have hn2 : r.place ≠ 2 := by omega
  rw [if_neg hn1] at hb
  rw [cLine]
  split
  · split
    · split
      · rename_i h1 h2 h3
        exact cSize_inv r _ h h3
      · simp only
        split
        · exact ⟨h.place, h.data, h.fin, fun _ => rfl, h.left, by simp only; rw [if_neg hn1]; omega, h.trs, by simp, by simp, fun _ => he, h.ends2⟩
        · exact cTrailer_inv r _ h (by omega) ho (by rw [List.length_dropLast]; omega)
    · exact ⟨h.place, h.data, h.fin, h.line, h.left, by simp only; rw [if_neg hn1]; omega, h.trs, h.len, fun ho => absurd ho (off_st _ 400 rfl (by decide)), fun ho => absurd ho (off_st _ 400 rfl (by decide)), h.ends2⟩
  · simp only
    obtain ⟨k, hk⟩ : ∃ k, k = (if c = 13 then r.line.length else r.line.length + 1) := ⟨_, rfl⟩
    have hk2 : r.line.length ≤ k := by rw [hk]; split <;> omega
    rw [← hk]
    split
    · exact ⟨h.place, h.data, h.fin, fun hx => by simp only at hx; omega, h.left, by simp only; rw [if_neg hn1]; omega, h.trs, by simp; omega, fun ho => absurd ho (off_st _ 400 rfl (by decide)), fun ho => absurd ho (off_st _ 400 rfl (by decide)), h.ends2⟩
    · split
      · exact ⟨h.place, h.data, h.fin, fun hx => by simp only at hx; omega, h.left, by simp only; rw [if_neg hn1]; omega, h.trs, by simp; omega, fun ho => absurd ho (off_st _ 431 rfl (by decide)), fun ho => absurd ho (off_st _ 431 rfl (by decide)), h.ends2⟩
      · rename_i h1 h2
        refine ⟨h.place, h.data, h.fin, fun hx => by simp only at hx; omega, h.left, by simp only; rw [if_neg hn1]; omega, h.trs, by simp; omega, fun _ => ?_, fun _ => he, h.ends2⟩
        simp only [List.length_append, List.length_cons, List.length_nil]
        rcases hp with hp | hp
        · have : ¬ (64 < k) := fun hx => h1 ⟨hp, hx⟩
          omega
        · have : ¬ (256 < k) := fun hx => h2 ⟨hp, .inl hx⟩
          omega
theorem cByte_inv (r : CS) (c : UInt8) (h : CInv r) (ho : r.on = true) : CInv (cByte r c) := by
  have hb := h.body
  have hpl := h.place
  rw [cByte]
  split
  · rename_i hp
    have hd := h.data hp
    have hl := h.line (.inl hp)
    rw [if_pos hp] at hb
    split
    · exact ⟨by simp, by simp, fun _ => .inr rfl, fun _ => hl, by simp, by simp only [List.length_append, List.length_cons, List.length_nil]; rw [if_neg (by decide)]; omega, h.trs, h.len, h.lenOn, h.ends, h.ends2⟩
    · exact ⟨h.place, fun _ => by simp only; omega, fun hx => by simp only at hx; omega, fun _ => hl, fun hx => by simp only at hx; omega, by simp only [List.length_append, List.length_cons, List.length_nil]; rw [if_pos hp]; omega, h.trs, h.len, h.lenOn, h.ends, h.ends2⟩
  · rename_i hn1
    rw [if_neg hn1] at hb
    split
    · rename_i hp
      have hl := h.line (.inr hp)
      have hf := h.fin hp
      obtain ⟨x, hx⟩ : ∃ x : UInt8, x = (if r.left = 2 then 13 else 10) := ⟨_, rfl⟩
      rw [← hx]
      clear hx
      split
      · split
        · exact ⟨by simp, by simp, by simp, fun _ => hl, fun _ => rfl, by simp only; rw [if_neg (by decide)]; omega, h.trs, h.len, h.lenOn, h.ends, h.ends2⟩
        · exact ⟨h.place, fun hx => by simp only at hx; omega, fun _ => .inl rfl, fun _ => hl, fun hx => by simp only at hx; omega, by simp only; rw [if_neg hn1]; omega, h.trs, h.len, h.lenOn, h.ends, h.ends2⟩
      · exact ⟨h.place, h.data, h.fin, h.line, h.left, by simp only; rw [if_neg hn1]; omega, h.trs, h.len, fun ho => absurd ho (off_st _ 400 rfl (by decide)), fun ho => absurd ho (off_st _ 400 rfl (by decide)), h.ends2⟩
    · rename_i hn2
      exact cLine_inv r c h (by omega) ho
end Go.Proofs.YtfapnppgbhlidaaGreatDoor

/- Targets in plain words, on: percents, whole targets. -/
import Derived.Test.YtfpojnijjpojlaaDoorTPl2
import Derived.Test.YtfpojnijjpojlaaDoorTKnown
namespace Go.Proofs.YtfpojnijjpojlaaDoor
open Go.RowKit
set_option maxRecDepth 100000

def pctE (b : UInt8) : Bs := [37, hexs.getD (b.toNat / 16) 0, ([48, 49, 50, 51, 52, 53, 54, 55, 56, 57, 65, 66, 67, 68, 69, 70] : Bs).getD (b.toNat % 16) 0]
theorem byte_all (p : UInt8 → Prop) [DecidablePred p] (h : ∀ x : Fin 256, p (UInt8.ofNat x.val)) (b : UInt8) : p b := by
  have := h ⟨b.toNat, b.toNat_lt⟩
  simpa using this
theorem pctE_dec (b : UInt8) : b ≠ 0 → pctL (hexs.getD (b.toNat / 16) 0) (([48, 49, 50, 51, 52, 53, 54, 55, 56, 57, 65, 66, 67, 68, 69, 70] : Bs).getD (b.toNat % 16) 0) = some b := by
  refine byte_all (fun b => b ≠ 0 → pctL (hexs.getD (b.toNat / 16) 0) (([48, 49, 50, 51, 52, 53, 54, 55, 56, 57, 65, 66, 67, 68, 69, 70] : Bs).getD (b.toNat % 16) 0) = some b) ?_ b
  decide +kernel
theorem pctE_of (b : UInt8) : allOf orgS (pctE b) = true := by
  refine byte_all (fun b => allOf orgS (pctE b) = true) ?_ b
  decide +kernel
theorem pctE_63 (b : UInt8) : (pctE b).all (· != 63) = true := by
  refine byte_all (fun b => (pctE b).all (· != 63) = true) ?_ b
  decide +kernel
theorem pct_len (l : Bs) : (l.flatMap pctE).length = 3 * l.length := by
  induction l with
  | nil => rfl
  | cons b l ih => rw [List.flatMap_cons, List.length_append, ih, List.length_cons]; simp [pctE]; omega
theorem pct_decode : ∀ (l : Bs), (∀ b ∈ l, b ≠ 0) → decodeL (l.flatMap pctE) = some l
  | [], _ => by simp [decodeL]
  | b :: l, h => by
    show decodeL (37 :: _ :: _ :: (l.flatMap pctE)) = _
    rw [decodeL_pct, pctE_dec b (h b (by simp)), Option.bind_some, pct_decode l (fun x hx => h x (by simp [hx]))]
    rfl
theorem fstB_free (c : UInt8) : ∀ (l : Bs), (∀ b ∈ l, b ≠ c) → fstB c l = l ∧ sndB c l = []
  | [], _ => ⟨rfl, rfl⟩
  | b :: l, h => by
    have hb : (b != c) = true := by simpa using h b (by simp)
    have ih := fstB_free c l (fun x hx => h x (by simp [hx]))
    unfold fstB sndB at ih ⊢
    rw [List.takeWhile_cons, List.dropWhile_cons, hb, if_pos rfl, if_pos rfl, ih.1]
    exact ⟨rfl, ih.2⟩
theorem fstB_app (c : UInt8) : ∀ (t r : Bs), (∀ b ∈ t, b ≠ c) → fstB c (t ++ c :: r) = t
  | [], r, _ => by simp [fstB]
  | b :: t, r, h => by
    have hb : (b != c) = true := by simpa using h b (by simp)
    have ih := fstB_app c t r (fun x hx => h x (by simp [hx]))
    unfold fstB at ih ⊢
    rw [List.cons_append, List.takeWhile_cons, hb, if_pos rfl, ih]
theorem allOf_app (o a b : Bs) : allOf o (a ++ b) = (allOf o a && allOf o b) := by rw [allOf, allOf, allOf, List.all_append]
theorem pct_of : ∀ (l : Bs), allOf orgS (l.flatMap pctE) = true
  | [] => rfl
  | b :: l => by rw [List.flatMap_cons, allOf_app, pctE_of, pct_of l]; rfl
theorem pct_63 (l : Bs) : ∀ x ∈ l.flatMap pctE, x ≠ 63 := by
  intro x hx
  obtain ⟨b, _, hb⟩ := List.mem_flatMap.1 hx
  have := List.all_eq_true.1 (pctE_63 b) x hb
  simpa using this
theorem org_pct (l : Bs) (h : ∀ b ∈ l, b ≠ 0) (t : Tgt) : orgR t (47 :: l.flatMap pctE) = match cleanL (47 :: l) with | none => (tgt0, 8) | some p => ({ t with path := p, query := [] }, 0) := by
  have h63 : ∀ x ∈ 47 :: l.flatMap pctE, x ≠ 63 := by
    intro x hx
    rcases List.mem_cons.1 hx with rfl | hx
    · decide
    · exact pct_63 l x hx
  have hf := fstB_free 63 _ h63
  have hall : allOf orgS (47 :: l.flatMap pctE) = true := by rw [allOf_cons, pct_of]; decide
  rw [orgR, originL, hall, if_pos rfl, hf.1, hf.2, decodeL_plain 47 _ (by decide), pct_decode l h]
  simp only [Option.map_some, Option.bind_some]
  rfl
theorem parse_get (s : Bs) (hl : s.length ≤ 200) (h : preB [47] s = true) : parseL getB s = orgR ⟨1, [], [], []⟩ s := by
  rw [parseL, if_neg (by omega), if_neg (by decide), if_neg (fun hh => absurd hh.1 (by decide)), if_pos h]
theorem pre_drop (X r : Bs) (hX : X.length = 7) : (X ++ r).drop 7 = r := by
  rw [show 7 = X.length from hX.symm, List.drop_left]
theorem parse_abs (X r : Bs) (hX : lowL X = httpB) (hl : (X ++ r).length ≤ 200) : parseL getB (X ++ r) = absL r := by
  have h7 : X.length = 7 := by have := congrArg List.length hX; rw [lowL_len] at this; exact this
  have h47 : preB [47] (X ++ r) = false := by
    match X, hX with
    | [], h => simp [lowL, httpB] at h
    | b :: X, h =>
      have hb : low b = 104 := by simpa [lowL, httpB] using (List.cons.inj h).1
      have : b ≠ 47 := by rintro rfl; revert hb; decide
      show ((47 : UInt8) == b && ([] : Bs).isPrefixOf (X ++ r)) = false
      rw [show ((47 : UInt8) == b) = false by simpa using fun e => this e.symm]; rfl
  have hp : preB httpB (lowL (X ++ r)) = true := by
    rw [show lowL (X ++ r) = lowL X ++ lowL r by simp [lowL], hX]
    exact List.isPrefixOf_iff_prefix.2 (List.prefix_append _ _)
  rw [parseL, if_neg (by omega), if_neg (by decide), if_neg (fun hh => absurd hh.1 (by decide)), h47, hp, pre_drop X r h7]
  rfl
theorem abs_host (host r : Bs) (h47 : ∀ b ∈ host, b ≠ 47) (h63 : ∀ b ∈ host, b ≠ 63) : absL (host ++ 47 :: r) = if hostL host then orgR ⟨2, lowL host, [], []⟩ (47 :: r) else (tgt0, 8) := by
  have hH : absH (host ++ 47 :: r) = host := by rw [absH, fstB_app 47 host r h47, (fstB_free 63 host h63).1]
  have hR : absR (host ++ 47 :: r) = 47 :: r := by rw [absR, hH, List.drop_left]; rfl
  rw [absL, hH, hR]
end Go.Proofs.YtfpojnijjpojlaaDoor

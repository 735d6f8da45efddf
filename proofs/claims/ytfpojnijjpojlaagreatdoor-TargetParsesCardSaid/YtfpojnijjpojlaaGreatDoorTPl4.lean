/- Targets in plain words, on: a target printed. -/
import Derived.Test.YtfpojnijjpojlaaGreatDoorTPl2
import Derived.Test.YtfpojnijjpojlaaGreatDoorTgt5
namespace Go.Proofs.YtfpojnijjpojlaaGreatDoor
open Go.RowKit
set_option maxRecDepth 100000

/-- A clean path is no longer. -/
theorem clean_len2 (l a : Bs) (h : cleanL l = some a) : a.length ≤ l.length := by
  have h47 : l.head? = some 47 := by
    rw [cleanL] at h
    split at h
    · assumption
    · cases h
  obtain ⟨l', rfl⟩ : ∃ l', l = 47 :: l' := by
    cases l with
    | nil => cases h47
    | cons x l' => injection h47 with e; exact ⟨l', by rw [e]⟩
  rw [cleanL_cons, cleanP] at h
  have hJ : joinP (splitL 47 l') = 47 :: l' := joinP_split l'
  have hne := splitL_ne 47 l'
  generalize splitL 47 l' = P at h hJ hne
  cases hf : P.foldl stepP (some []) with
  | none => rw [hf] at h; cases h
  | some ps =>
    rw [hf] at h
    simp only [Option.map_some, Option.some.injEq] at h
    have hJl := congrArg List.length hJ
    have h0 := fold_len _ _ _ hf
    have hz : (joinP ([] : List Bs)).length = 0 := rfl
    rw [← h, endP, List.length_append]
    split
    · rename_i hd
      have hdec := List.dropLast_concat_getLast hne
      have hlast : P.getLastD [] = P.getLast hne := by rw [List.getLastD_eq_getLast?, List.getLast?_eq_some_getLast hne]; rfl
      rw [hlast] at hd
      generalize P.getLast hne = last at hdec hd
      rw [← hdec, List.foldl_append] at hf
      rw [← hdec, joinP_app, List.length_append] at hJl
      have hl1 : (joinP [last]).length = last.length + 1 := by simp [joinP]
      cases hs : P.dropLast.foldl stepP (some []) with
      | none => rw [hs] at hf; cases hf
      | some q =>
        rw [hs] at hf
        have h2 := fold_len _ _ _ hs
        have h3 := stepP_len q last ps hf
        have h1 : ([47] : Bs).length = 1 := rfl
        rw [Bool.or_eq_true] at hd
        rcases hd with hd | hd
        · have := h3.2 hd
          rw [h1]; omega
        · have : ps = [] := by cases ps with | nil => rfl | cons => simp at hd
          subst this
          rw [h1, hz]; simp
    · simp only [List.length_nil]; omega
def okT (t : Tgt) : Prop := (t.form = 1 ∨ t.form = 2 ∨ t.form = 3 ∨ t.form = 4) ∧ t.host.length ≤ 200 ∧ t.path.length ≤ 200 ∧ t.query.length ≤ 200
theorem orgR_ok (u t : Tgt) (s : Bs) (h : orgR u s = (t, 0)) (hu : u.form = 1 ∨ u.form = 2) (hh : u.host.length ≤ 200) (hs : s.length ≤ 200) : okT t := by
  unfold orgR originL at h
  split at h
  · rename_i h1; cases h
  · rename_i p h1
    injection h with h _
    subst h
    split at h1
    · cases hd : decodeL (fstB 63 s) with
      | none => rw [hd] at h1; cases h1
      | some d =>
        rw [hd, Option.bind_some] at h1
        have a1 := clean_len2 d p h1
        have a2 := decodeL_len _ _ (Nat.le_refl _) d hd
        have a3 := fstB_len 63 s
        have a4 := sndB_len 63 s
        exact ⟨by rcases hu with e | e <;> simp [e], hh, by show p.length ≤ 200; omega, by show (sndB 63 s).length ≤ 200; omega⟩
    · cases h1
theorem parse_ok (m s : Bs) (t : Tgt) (h : parseL m s = (t, 0)) : okT t := by
  unfold parseL at h
  split at h
  · cases h
  · rename_i hl
    split at h
    · split at h
      · injection h with h _
        subst h
        exact ⟨.inr (.inr (.inl rfl)), by show (lowL s).length ≤ 200; rw [lowL_len]; omega, by simp, by simp⟩
      · cases h
    · split at h
      · injection h with h _
        subst h
        exact ⟨.inr (.inr (.inr rfl)), by simp, by simp, by simp⟩
      · split at h
        · exact orgR_ok _ t s h (.inl rfl) (by simp) (by omega)
        · split at h
          · unfold absL at h
            have b1 := fstB_len 63 (fstB 47 (s.drop 7))
            have b2 := fstB_len 47 (s.drop 7)
            have b3 : (s.drop 7).length ≤ s.length - 7 := by rw [List.length_drop]; omega
            rename_i hp
            have b4 := pre_len _ _ hp
            rw [lowL_len] at b4
            have b5 : 7 ≤ s.length := b4
            split at h
            · refine orgR_ok _ t _ h (.inr rfl) ?_ ?_
              · show (lowL (absH (s.drop 7))).length ≤ 200
                rw [lowL_len]; unfold absH; omega
              · unfold absR
                simp only
                split
                · rw [List.length_drop]; omega
                · rw [List.length_cons, List.length_drop]; omega
            · cases h
          · cases h

/-! ### Print -/
def encB (b : UInt8) : Bs := if ofB plainS b then [b] else [37, ([48, 49, 50, 51, 52, 53, 54, 55, 56, 57, 65, 66, 67, 68, 69, 70] : Bs).getD (b.toNat / 16) 0, ([48, 49, 50, 51, 52, 53, 54, 55, 56, 57, 65, 66, 67, 68, 69, 70] : Bs).getD (b.toNat % 16) 0]
def pathL (l : Bs) : Bs := l.flatMap encB
def baseL (t : Tgt) : Bs := pathL t.path ++ if t.query = [] then [] else 63 :: t.query
/-- The method and the text by which a target is tried. -/
def prS (t : Tgt) : Bs × Bs :=
  if t.form = 3 then (connB, t.host) else if t.form = 4 then (optB, [42]) else if t.form = 2 then ([71, 69, 84], httpB ++ t.host ++ baseL t) else ([71, 69, 84], baseL t)
def printL (t : Tgt) : Bs × Int := if parseL (prS t).1 (prS t).2 = (t, 0) then ((prS t).2, 0) else ([], 1)
def printV (r : Bs × Int) : Value := .tuple #[sv r.1, .int .i64 r.2]
theorem print_bad (t : Tgt) (h : ¬ okT t) : printL t = ([], 1) := by
  unfold printL
  rw [if_neg]
  intro hp
  exact h (parse_ok _ _ t hp)
theorem pathL_len (l : Bs) : (pathL l).length ≤ 3 * l.length := by
  induction l with
  | nil => simp [pathL]
  | cons b l ih =>
    have : (encB b).length ≤ 3 := by unfold encB; split <;> simp
    simp only [pathL, List.flatMap_cons, List.length_append, List.length_cons] at ih ⊢
    omega
theorem parse_dec (m s : Bs) (t : Tgt) : (parseL m s = (t, 0)) ∨ (parseL m s ≠ (t, 0)) := by
  by_cases h : parseL m s = (t, 0)
  · exact .inl h
  · exact .inr h
end Go.Proofs.YtfpojnijjpojlaaGreatDoor

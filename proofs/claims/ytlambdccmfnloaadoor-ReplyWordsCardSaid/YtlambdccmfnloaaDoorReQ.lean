/- reply: both readers of heads tell the same (plain). -/
import Derived.Test.YtlambdccmfnloaaDoorReP
namespace Go.Proofs.YtlambdccmfnloaaDoor
open Go.RowKit
set_option maxRecDepth 100000
set_option maxHeartbeats 4000000

theorem text_app : ∀ (a b r : Bs), textL (a ++ b) r = (textL a r).bind fun _ r => textL b r
  | [], _, _ => rfl
  | _ :: _, _, [] => rfl
  | c :: a, b, d :: r => by
    rw [List.cons_append, textL, textL]
    split
    · exact text_app a b r
    · rfl
theorem text_self : ∀ (a r : Bs), textL a (a ++ r) = .ok () r
  | [], _ => rfl
  | c :: a, r => by rw [List.cons_append, textL, if_pos rfl]; exact text_self a r
theorem text_none (a : Bs) (h : a ≠ []) : textL a [] = .short := by
  cases a with
  | nil => exact absurd rfl h
  | cons c a => rfl
theorem text_cons (c d : UInt8) (a r : Bs) : textL (c :: a) (d :: r) = if d = c then textL a r else .bad := by rw [textL]

/-! ## Lines -/
theorem line_none : ∀ (r : Bs), lineOf r = none → (10 : UInt8) ∉ r
  | [], _ => by simp
  | c :: r, h => by
    rw [lineOf] at h
    split at h
    · cases h
    · rename_i hc
      rw [Option.map_eq_none_iff] at h
      have := line_none r h
      simp only [List.mem_cons, not_or]
      exact ⟨fun e => hc e.symm, this⟩
theorem line_some : ∀ (r s t : Bs), lineOf r = some (s, t) → r = s ++ 10 :: t ∧ (10 : UInt8) ∉ s
  | [], s, t, h => by cases h
  | c :: r, s, t, h => by
    rw [lineOf] at h
    split at h
    · rename_i hc
      cases h
      subst hc
      exact ⟨rfl, by simp⟩
    · rename_i hc
      rw [Option.map_eq_some_iff] at h
      obtain ⟨⟨a, b⟩, h1, h2⟩ := h
      cases h2
      obtain ⟨h3, h4⟩ := line_some r a b h1
      refine ⟨by rw [h3]; rfl, ?_⟩
      simp only [List.mem_cons, not_or]
      exact ⟨fun e => hc e.symm, h4⟩
theorem line_app : ∀ (u r : Bs), (10 : UInt8) ∉ u → lineOf (u ++ r) = (lineOf r).map fun x => (u ++ x.1, x.2)
  | [], r, _ => by cases h : lineOf r <;> simp [h]
  | c :: u, r, h => by
    simp only [List.mem_cons, not_or] at h
    rw [List.cons_append, lineOf, if_neg (fun e => h.1 e.symm), line_app u r h.2]
    cases lineOf r <;> simp
theorem line_lf (r : Bs) : lineOf (10 :: r) = some ([], r) := rfl
theorem line_no (r : Bs) (h : (10 : UInt8) ∉ r) : lineOf r = none := by
  have := line_app r [] h
  rw [List.append_nil] at this
  rw [this]; rfl

/-- Line by line: what may be a beginning of the line, what a whole line tells. -/
def byL {α : Type} (m : Bs → Bool) (k : Bs → Bs → R3 α) (r : Bs) : R3 α :=
  match lineOf r with
  | none => if m r then .short else .bad
  | some (s, t) => if s.getLast? = some 13 then k s.dropLast t else .bad
theorem byL_none {α : Type} (m : Bs → Bool) (k : Bs → Bs → R3 α) (r : Bs) (h : lineOf r = none) : byL m k r = if m r then .short else .bad := by rw [byL, h]
theorem byL_some {α : Type} (m : Bs → Bool) (k : Bs → Bs → R3 α) (r s t : Bs) (h : lineOf r = some (s, t)) : byL m k r = if s.getLast? = some 13 then k s.dropLast t else .bad := by rw [byL, h]
theorem byL_whole {α : Type} (m : Bs → Bool) (k : Bs → Bs → R3 α) (r s t : Bs) (h : lineOf r = some (s ++ [13], t)) : byL m k r = k s t := by
  rw [byL, h]; simp
theorem last_snoc (s : Bs) (c : UInt8) (h : s.getLast? = some c) : s = s.dropLast ++ [c] := by
  rw [List.getLast?_eq_some_iff] at h
  obtain ⟨t, rfl⟩ := h
  simp
theorem byL_congr {α : Type} {m m' : Bs → Bool} {k k' : Bs → Bs → R3 α} {r : Bs} (hm : (10 : UInt8) ∉ r → m r = m' r) (hk : ∀ l t, r = l ++ 13 :: 10 :: t → (10 : UInt8) ∉ l → k l t = k' l t) : byL m k r = byL m' k' r := by
  unfold byL
  cases h : lineOf r with
  | none => simp only [hm (line_none r h)]
  | some x =>
    obtain ⟨s, t⟩ := x
    obtain ⟨h1, h2⟩ := line_some r s t h
    simp only
    split
    · rename_i hl
      have hs := last_snoc s 13 hl
      refine hk _ _ ?_ ?_
      · rw [h1]
        conv => lhs; rw [hs]
        simp
      · intro hmem
        exact h2 (List.dropLast_subset s hmem)
    · rfl
theorem byL_bind {α β : Type} (m : Bs → Bool) (k : Bs → Bs → R3 α) (g : α → Bs → R3 β) (r : Bs) : (byL m k r).bind g = byL m (fun l t => (k l t).bind g) r := by
  unfold byL
  cases lineOf r with
  | none => simp only; split <;> rfl
  | some x => simp only; split <;> rfl
theorem byL_app {α : Type} (m : Bs → Bool) (k : Bs → Bs → R3 α) (u r : Bs) (c : UInt8) (hc : c ≠ 13) (hu : (10 : UInt8) ∉ u ++ [c]) :
    byL m k (u ++ c :: r) = byL (fun l => m (u ++ c :: l)) (fun l t => k (u ++ c :: l) t) r := by
  have e : u ++ c :: r = (u ++ [c]) ++ r := by simp
  unfold byL
  rw [e, line_app _ r hu]
  cases h : lineOf r with
  | none => simp only [Option.map_none]; rw [show u ++ [c] ++ r = u ++ c :: r by simp]
  | some x =>
    obtain ⟨s, t⟩ := x
    simp only [Option.map_some]
    cases hs : s.getLast? with
    | none =>
      rw [List.getLast?_eq_none_iff] at hs
      subst hs
      rw [List.append_nil, List.getLast?_append]
      simp [hc]
    | some d =>
      have hd := last_snoc s d hs
      have hne : s ≠ [] := by rintro rfl; cases hs
      have hlast : (u ++ [c] ++ s).getLast? = some d := by rw [List.getLast?_append, hs]; rfl
      rw [hlast]
      by_cases hd13 : some d = some 13
      · rw [if_pos hd13, if_pos hd13, List.dropLast_append_of_ne_nil hne, show u ++ [c] ++ s.dropLast = u ++ c :: s.dropLast by simp]
      · rw [if_neg hd13, if_neg hd13]
theorem byL_bad {α : Type} {m : Bs → Bool} {k : Bs → Bs → R3 α} {r : Bs} (hm : (10 : UInt8) ∉ r → m r = false) (hk : ∀ l t, r = l ++ 13 :: 10 :: t → (10 : UInt8) ∉ l → k l t = .bad) : byL m k r = .bad := by
  have h : byL m k r = byL (fun _ => false) (fun _ _ => .bad) r := byL_congr hm hk
  rw [h]
  unfold byL
  cases lineOf r with
  | none => rfl
  | some x => simp

/-! ## Beginnings -/
theorem pfx_nil (s : Bs) : ([] : Bs).isPrefixOf s = true := rfl
theorem pfx_cons (c d : UInt8) (s t : Bs) : (c :: s).isPrefixOf (d :: t) = (decide (c = d) && s.isPrefixOf t) := by
  rw [List.isPrefixOf]
  by_cases h : c = d <;> simp [h]
theorem pfx_none (c : UInt8) (s : Bs) : (c :: s).isPrefixOf [] = false := rfl
theorem pfx_iff (s t : Bs) : s.isPrefixOf t = true ↔ s <+: t := List.isPrefixOf_iff_prefix
theorem pfx_app (u s t : Bs) : (u ++ s).isPrefixOf (u ++ t) = s.isPrefixOf t := by
  induction u with
  | nil => rfl
  | cons c u ih => rw [List.cons_append, List.cons_append, pfx_cons, ih]; simp
/-- A whole line that begins a text that ends so is that text. -/
theorem pfx_snoc (T : Bs) (hT : (13 : UInt8) ∉ T) : ∀ (s : Bs), (s ++ [13]).isPrefixOf (T ++ [13]) = decide (s = T) := by
  induction T with
  | nil =>
    intro s
    cases s with
    | nil => rfl
    | cons c s => cases s <;> simp [List.isPrefixOf]
  | cons d T ih =>
    intro s
    simp only [List.mem_cons, not_or] at hT
    cases s with
    | nil =>
      rw [List.nil_append, List.cons_append, pfx_cons]
      simp [hT.1]
    | cons c s =>
      rw [List.cons_append, List.cons_append, pfx_cons, ih hT.2 s, Bool.eq_iff_iff]
      simp
/-- What is of some kind, and then a byte that is not. -/
theorem pfx_tok (p : UInt8 → Bool) (c d : UInt8) (hc : p c = false) (hd : p d = false) (w y : Bs) : ∀ (s T : Bs), s.all p = true → T.all p = true →
    (s ++ c :: w).isPrefixOf (T ++ d :: y) = (decide (s = T) && decide (c = d) && w.isPrefixOf y)
  | [], [], _, _ => by simp [pfx_cons]
  | [], e :: T, _, hT => by
    simp only [List.all_cons, Bool.and_eq_true] at hT
    rw [List.nil_append, List.cons_append, pfx_cons]
    have : c ≠ e := by rintro rfl; rw [hc] at hT; cases hT.1
    simp [this]
  | e :: s, [], hs, _ => by
    simp only [List.all_cons, Bool.and_eq_true] at hs
    rw [List.nil_append, List.cons_append, pfx_cons]
    have : e ≠ d := by rintro rfl; rw [hd] at hs; cases hs.1
    simp [this]
  | e :: s, f :: T, hs, hT => by
    simp only [List.all_cons, Bool.and_eq_true] at hs hT
    rw [List.cons_append, List.cons_append, pfx_cons, pfx_tok p c d hc hd w y s T hs.2 hT.2]
    by_cases h : e = f <;> simp [h]
theorem pfx_all (p : UInt8 → Bool) (d : UInt8) (hd : p d = false) (y : Bs) : ∀ (s T : Bs), s.all p = true → s.isPrefixOf (T ++ d :: y) = s.isPrefixOf T
  | [], _, _ => by simp
  | e :: s, [], hs => by
    simp only [List.all_cons, Bool.and_eq_true] at hs
    rw [List.nil_append, pfx_cons, pfx_none]
    have : e ≠ d := by rintro rfl; rw [hd] at hs; cases hs.1
    simp [this]
  | e :: s, f :: T, hs => by
    simp only [List.all_cons, Bool.and_eq_true] at hs
    rw [List.cons_append, pfx_cons, pfx_cons, pfx_all p d hd y s T hs.2]
theorem pfx_long (p : UInt8 → Bool) (d : UInt8) (hd : p d = false) (y : Bs) : ∀ (s T : Bs), s.all p = true → (T ++ d :: y).isPrefixOf s = false
  | [], [], _ => rfl
  | [], _ :: _, _ => rfl
  | e :: s, [], hs => by
    simp only [List.all_cons, Bool.and_eq_true] at hs
    rw [List.nil_append, pfx_cons]
    have : d ≠ e := by rintro rfl; rw [hd] at hs; cases hs.1
    simp [this]
  | e :: s, f :: T, hs => by
    simp only [List.all_cons, Bool.and_eq_true] at hs
    rw [List.cons_append, pfx_cons, pfx_long p d hd y s T hs.2, Bool.and_false]
theorem split_at (p : UInt8 → Bool) (r : Bs) : r = r.takeWhile p ++ r.dropWhile p := (List.takeWhile_append_dropWhile).symm
theorem take_all (p : UInt8 → Bool) (r : Bs) : (r.takeWhile p).all p = true := List.all_takeWhile
theorem drop_head (p : UInt8 → Bool) : ∀ (r : Bs) (c : UInt8) (t : Bs), r.dropWhile p = c :: t → p c = false
  | [], c, t, h => by cases h
  | e :: r, c, t, h => by
    rw [List.dropWhile_cons] at h
    split at h
    · exact drop_head p r c t h
    · rename_i he
      cases h
      simpa using he
theorem take_app (p : UInt8 → Bool) (c : UInt8) (hc : p c = false) (w : Bs) : ∀ (s : Bs), s.all p = true → (s ++ c :: w).takeWhile p = s ∧ (s ++ c :: w).dropWhile p = c :: w
  | [], _ => by rw [List.nil_append, List.takeWhile_cons, List.dropWhile_cons, hc]; simp
  | e :: s, hs => by
    simp only [List.all_cons, Bool.and_eq_true] at hs
    obtain ⟨h1, h2⟩ := take_app p c hc w s hs.2
    rw [List.cons_append, List.takeWhile_cons, List.dropWhile_cons, hs.1]
    exact ⟨by simp [h1], by simpa using h2⟩
theorem take_end (p : UInt8 → Bool) : ∀ (s : Bs), s.all p = true → s.takeWhile p = s ∧ s.dropWhile p = []
  | [], _ => ⟨rfl, rfl⟩
  | e :: s, hs => by
    simp only [List.all_cons, Bool.and_eq_true] at hs
    obtain ⟨h1, h2⟩ := take_end p s hs.2
    rw [List.takeWhile_cons, List.dropWhile_cons, hs.1]
    exact ⟨by simp [h1], by simpa using h2⟩

/-- Some text and its end. -/
theorem text_line (T : Bs) (h10 : (10 : UInt8) ∉ T) (h13 : (13 : UInt8) ∉ T) (r : Bs) : textL (T ++ crlf) r = byL (fun s => s.isPrefixOf (T ++ [13])) (fun s t => if s = T then .ok () t else .bad) r := by
  induction T generalizing r with
  | nil =>
    rw [List.nil_append, crlf]
    rcases r with _ | ⟨c, _ | ⟨d, r⟩⟩
    · rfl
    · rw [text_cons]
      by_cases hc : c = 10
      · subst hc; rfl
      · rw [byL_none _ _ _ (line_no _ (by simpa using fun e => hc e.symm))]
        by_cases h3 : c = 13
        · subst h3; rfl
        · rw [if_neg h3]; simp [pfx_cons, h3]
    · rw [text_cons]
      by_cases hc : c = 13
      · subst hc
        rw [if_pos rfl, text_cons]
        by_cases hd : d = 10
        · subst hd; rfl
        · rw [if_neg hd]
          symm
          refine byL_bad (fun _ => ?_) (fun l t e hl => ?_)
          · rfl
          · rw [if_neg]
            rintro rfl
            simp at e
            exact hd e.1
      · rw [if_neg hc]
        symm
        refine byL_bad (fun _ => ?_) (fun l t e hl => ?_)
        · simp [pfx_cons, hc]
        · rw [if_neg]
          rintro rfl
          simp at e
          exact hc e.1
  | cons d T ih =>
    simp only [List.mem_cons, not_or] at h10 h13
    rw [List.cons_append]
    cases r with
    | nil => rfl
    | cons c r =>
      rw [text_cons]
      by_cases hc : c = d
      · subst hc
        rw [if_pos rfl, ih h10.2 h13.2]
        have := byL_app (fun s => s.isPrefixOf (c :: T ++ [13])) (fun s t => if s = c :: T then R3.ok () t else .bad) [] r c (fun e => h13.1 e.symm) (by simpa using fun e => h10.1 e)
        rw [List.nil_append] at this
        rw [this]
        refine byL_congr (fun _ => ?_) (fun l t e hl => ?_)
        · rw [List.nil_append, List.cons_append, pfx_cons]; simp
        · simp
      · rw [if_neg hc]
        symm
        refine byL_bad (fun _ => ?_) (fun l t e hl => ?_)
        · rw [List.cons_append, pfx_cons]; simp [hc]
        · rw [if_neg]
          rintro rfl
          simp at e
          exact hc e.1
end Go.Proofs.YtlambdccmfnloaaDoor

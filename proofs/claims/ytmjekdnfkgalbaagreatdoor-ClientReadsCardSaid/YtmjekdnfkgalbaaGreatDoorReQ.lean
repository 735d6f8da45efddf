/- reply: both readers of heads tell the same (plain). reply: both readers of heads tell the same (plain): kinds of lines. reply: both readers of heads tell the same (plain): the length, Connection, the first line. reply: both readers of heads tell the same (plain): the first line; the head. reply: both readers tell the same (plain). reply: both readers tell the same (plain): fields, chunks, all. reply: both readers tell the same (plain): all. -/
import Derived.Test.YtmjekdnfkgalbaaGreatDoorReP
namespace Go.Proofs.YtmjekdnfkgalbaaGreatDoor
open Go.RowKit
set_option maxRecDepth 100000
set_option maxHeartbeats 4000000

theorem text_app : ∀ (a b r : Bs), textL (a ++ b) r = (textL a r).bind fun _ r => textL b r
  | [], _, _ => rfl
  | _ :: _, _, [] => rfl
  | c :: a, b, d :: r => by
    rw [List.cons_append, textL, textL]
    split
    · exact text_app a b r
    · rfl
theorem text_self : ∀ (a r : Bs), textL a (a ++ r) = .ok () r
  | [], _ => rfl
  | c :: a, r => by rw [List.cons_append, textL, if_pos rfl]; exact text_self a r
theorem text_none (a : Bs) (h : a ≠ []) : textL a [] = .short := by
  cases a with
  | nil => exact absurd rfl h
  | cons c a => rfl
theorem text_cons (c d : UInt8) (a r : Bs) : textL (c :: a) (d :: r) = if d = c then textL a r else .bad := by rw [textL]

/-! ## Lines -/
theorem line_none : ∀ (r : Bs), lineOf r = none → (10 : UInt8) ∉ r
  | [], _ => by simp
  | c :: r, h => by
    rw [lineOf] at h
    split at h
    · cases h
    · rename_i hc
      rw [Option.map_eq_none_iff] at h
      have := line_none r h
      simp only [List.mem_cons, not_or]
      exact ⟨fun e => hc e.symm, this⟩
theorem line_some : ∀ (r s t : Bs), lineOf r = some (s, t) → r = s ++ 10 :: t ∧ (10 : UInt8) ∉ s
  | [], s, t, h => by cases h
  | c :: r, s, t, h => by
    rw [lineOf] at h
    split at h
    · rename_i hc
      cases h
      subst hc
      exact ⟨rfl, by simp⟩
    · rename_i hc
      rw [Option.map_eq_some_iff] at h
      obtain ⟨⟨a, b⟩, h1, h2⟩ := h
      cases h2
      obtain ⟨h3, h4⟩ := line_some r a b h1
      refine ⟨by rw [h3]; rfl, ?_⟩
      simp only [List.mem_cons, not_or]
      exact ⟨fun e => hc e.symm, h4⟩
theorem line_app : ∀ (u r : Bs), (10 : UInt8) ∉ u → lineOf (u ++ r) = (lineOf r).map fun x => (u ++ x.1, x.2)
  | [], r, _ => by cases h : lineOf r <;> simp [h]
  | c :: u, r, h => by
    simp only [List.mem_cons, not_or] at h
    rw [List.cons_append, lineOf, if_neg (fun e => h.1 e.symm), line_app u r h.2]
    cases lineOf r <;> simp
theorem line_lf (r : Bs) : lineOf (10 :: r) = some ([], r) := rfl
theorem line_no (r : Bs) (h : (10 : UInt8) ∉ r) : lineOf r = none := by
  have := line_app r [] h
  rw [List.append_nil] at this
  rw [this]; rfl

/-- Line by line: what may be a beginning of the line, what a whole line tells. -/
def byL {α : Type} (m : Bs → Bool) (k : Bs → Bs → R3 α) (r : Bs) : R3 α :=
  match lineOf r with
  | none => if m r then .short else .bad
  | some (s, t) => if s.getLast? = some 13 then k s.dropLast t else .bad
theorem byL_none {α : Type} (m : Bs → Bool) (k : Bs → Bs → R3 α) (r : Bs) (h : lineOf r = none) : byL m k r = if m r then .short else .bad := by rw [byL, h]
theorem byL_some {α : Type} (m : Bs → Bool) (k : Bs → Bs → R3 α) (r s t : Bs) (h : lineOf r = some (s, t)) : byL m k r = if s.getLast? = some 13 then k s.dropLast t else .bad := by rw [byL, h]
theorem byL_whole {α : Type} (m : Bs → Bool) (k : Bs → Bs → R3 α) (r s t : Bs) (h : lineOf r = some (s ++ [13], t)) : byL m k r = k s t := by
  rw [byL, h]; simp
theorem last_snoc (s : Bs) (c : UInt8) (h : s.getLast? = some c) : s = s.dropLast ++ [c] := by
  rw [List.getLast?_eq_some_iff] at h
  obtain ⟨t, rfl⟩ := h
  simp
theorem byL_congr {α : Type} {m m' : Bs → Bool} {k k' : Bs → Bs → R3 α} {r : Bs} (hm : (10 : UInt8) ∉ r → m r = m' r) (hk : ∀ l t, r = l ++ 13 :: 10 :: t → (10 : UInt8) ∉ l → k l t = k' l t) : byL m k r = byL m' k' r := by
  unfold byL
  cases h : lineOf r with
  | none => simp only [hm (line_none r h)]
  | some x =>
    obtain ⟨s, t⟩ := x
    obtain ⟨h1, h2⟩ := line_some r s t h
    simp only
    split
    · rename_i hl
      have hs := last_snoc s 13 hl
      refine hk _ _ ?_ ?_
      · rw [h1]
        conv => lhs; rw [hs]
        simp
      · intro hmem
        exact h2 (List.dropLast_subset s hmem)
    · rfl
theorem byL_bind {α β : Type} (m : Bs → Bool) (k : Bs → Bs → R3 α) (g : α → Bs → R3 β) (r : Bs) : (byL m k r).bind g = byL m (fun l t => (k l t).bind g) r := by
  unfold byL
  cases lineOf r with
  | none => simp only; split <;> rfl
  | some x => simp only; split <;> rfl
theorem byL_app {α : Type} (m : Bs → Bool) (k : Bs → Bs → R3 α) (u r : Bs) (c : UInt8) (hc : c ≠ 13) (hu : (10 : UInt8) ∉ u ++ [c]) :
    byL m k (u ++ c :: r) = byL (fun l => m (u ++ c :: l)) (fun l t => k (u ++ c :: l) t) r := by
  have e : u ++ c :: r = (u ++ [c]) ++ r := by simp
  unfold byL
  rw [e, line_app _ r hu]
  cases h : lineOf r with
  | none => simp only [Option.map_none]; rw [show u ++ [c] ++ r = u ++ c :: r by simp]
  | some x =>
    obtain ⟨s, t⟩ := x
    simp only [Option.map_some]
    cases hs : s.getLast? with
    | none =>
      rw [List.getLast?_eq_none_iff] at hs
      subst hs
      rw [List.append_nil, List.getLast?_append]
      simp [hc]
    | some d =>
      have hd := last_snoc s d hs
      have hne : s ≠ [] := by rintro rfl; cases hs
      have hlast : (u ++ [c] ++ s).getLast? = some d := by rw [List.getLast?_append, hs]; rfl
      rw [hlast]
      by_cases hd13 : some d = some 13
      · rw [if_pos hd13, if_pos hd13, List.dropLast_append_of_ne_nil hne, show u ++ [c] ++ s.dropLast = u ++ c :: s.dropLast by simp]
      · rw [if_neg hd13, if_neg hd13]
theorem byL_bad {α : Type} {m : Bs → Bool} {k : Bs → Bs → R3 α} {r : Bs} (hm : (10 : UInt8) ∉ r → m r = false) (hk : ∀ l t, r = l ++ 13 :: 10 :: t → (10 : UInt8) ∉ l → k l t = .bad) : byL m k r = .bad := by
  have h : byL m k r = byL (fun _ => false) (fun _ _ => .bad) r := byL_congr hm hk
  rw [h]
  unfold byL
  cases lineOf r with
  | none => rfl
  | some x => simp

/-! ## Beginnings -/
theorem pfx_nil (s : Bs) : ([] : Bs).isPrefixOf s = true := rfl
theorem pfx_cons (c d : UInt8) (s t : Bs) : (c :: s).isPrefixOf (d :: t) = (decide (c = d) && s.isPrefixOf t) := by
  rw [List.isPrefixOf]
  by_cases h : c = d <;> simp [h]
theorem pfx_none (c : UInt8) (s : Bs) : (c :: s).isPrefixOf [] = false := rfl
theorem pfx_iff (s t : Bs) : s.isPrefixOf t = true ↔ s <+: t := List.isPrefixOf_iff_prefix
theorem pfx_app (u s t : Bs) : (u ++ s).isPrefixOf (u ++ t) = s.isPrefixOf t := by
  induction u with
  | nil => rfl
  | cons c u ih => rw [List.cons_append, List.cons_append, pfx_cons, ih]; simp
/-- A whole line that begins a text that ends so is that text. -/
theorem pfx_snoc (T : Bs) (hT : (13 : UInt8) ∉ T) : ∀ (s : Bs), (s ++ [13]).isPrefixOf (T ++ [13]) = decide (s = T) := by
  induction T with
  | nil =>
    intro s
    cases s with
    | nil => rfl
    | cons c s => cases s <;> simp [List.isPrefixOf]
  | cons d T ih =>
    intro s
    simp only [List.mem_cons, not_or] at hT
    cases s with
    | nil =>
      rw [List.nil_append, List.cons_append, pfx_cons]
      simp [hT.1]
    | cons c s =>
      rw [List.cons_append, List.cons_append, pfx_cons, ih hT.2 s, Bool.eq_iff_iff]
      simp
/-- What is of some kind, and then a byte that is not. -/
theorem pfx_tok (p : UInt8 → Bool) (c d : UInt8) (hc : p c = false) (hd : p d = false) (w y : Bs) : ∀ (s T : Bs), s.all p = true → T.all p = true →
    (s ++ c :: w).isPrefixOf (T ++ d :: y) = (decide (s = T) && decide (c = d) && w.isPrefixOf y)
  | [], [], _, _ => by simp [pfx_cons]
  | [], e :: T, _, hT => by
    simp only [List.all_cons, Bool.and_eq_true] at hT
    rw [List.nil_append, List.cons_append, pfx_cons]
    have : c ≠ e := by rintro rfl; rw [hc] at hT; cases hT.1
    simp [this]
  | e :: s, [], hs, _ => by
    simp only [List.all_cons, Bool.and_eq_true] at hs
    rw [List.nil_append, List.cons_append, pfx_cons]
    have : e ≠ d := by rintro rfl; rw [hd] at hs; cases hs.1
    simp [this]
  | e :: s, f :: T, hs, hT => by
    simp only [List.all_cons, Bool.and_eq_true] at hs hT
    rw [List.cons_append, List.cons_append, pfx_cons, pfx_tok p c d hc hd w y s T hs.2 hT.2]
    by_cases h : e = f <;> simp [h]
theorem pfx_all (p : UInt8 → Bool) (d : UInt8) (hd : p d = false) (y : Bs) : ∀ (s T : Bs), s.all p = true → s.isPrefixOf (T ++ d :: y) = s.isPrefixOf T
  | [], _, _ => by simp
  | e :: s, [], hs => by
    simp only [List.all_cons, Bool.and_eq_true] at hs
    rw [List.nil_append, pfx_cons, pfx_none]
    have : e ≠ d := by rintro rfl; rw [hd] at hs; cases hs.1
    simp [this]
  | e :: s, f :: T, hs => by
    simp only [List.all_cons, Bool.and_eq_true] at hs
    rw [List.cons_append, pfx_cons, pfx_cons, pfx_all p d hd y s T hs.2]
theorem pfx_long (p : UInt8 → Bool) (d : UInt8) (hd : p d = false) (y : Bs) : ∀ (s T : Bs), s.all p = true → (T ++ d :: y).isPrefixOf s = false
  | [], [], _ => rfl
  | [], _ :: _, _ => rfl
  | e :: s, [], hs => by
    simp only [List.all_cons, Bool.and_eq_true] at hs
    rw [List.nil_append, pfx_cons]
    have : d ≠ e := by rintro rfl; rw [hd] at hs; cases hs.1
    simp [this]
  | e :: s, f :: T, hs => by
    simp only [List.all_cons, Bool.and_eq_true] at hs
    rw [List.cons_append, pfx_cons, pfx_long p d hd y s T hs.2, Bool.and_false]
theorem split_at (p : UInt8 → Bool) (r : Bs) : r = r.takeWhile p ++ r.dropWhile p := (List.takeWhile_append_dropWhile).symm
theorem take_all (p : UInt8 → Bool) (r : Bs) : (r.takeWhile p).all p = true := List.all_takeWhile
theorem drop_head (p : UInt8 → Bool) : ∀ (r : Bs) (c : UInt8) (t : Bs), r.dropWhile p = c :: t → p c = false
  | [], c, t, h => by cases h
  | e :: r, c, t, h => by
    rw [List.dropWhile_cons] at h
    split at h
    · exact drop_head p r c t h
    · rename_i he
      cases h
      simpa using he
theorem take_app (p : UInt8 → Bool) (c : UInt8) (hc : p c = false) (w : Bs) : ∀ (s : Bs), s.all p = true → (s ++ c :: w).takeWhile p = s ∧ (s ++ c :: w).dropWhile p = c :: w
  | [], _ => by rw [List.nil_append, List.takeWhile_cons, List.dropWhile_cons, hc]; simp
  | e :: s, hs => by
    simp only [List.all_cons, Bool.and_eq_true] at hs
    obtain ⟨h1, h2⟩ := take_app p c hc w s hs.2
    rw [List.cons_append, List.takeWhile_cons, List.dropWhile_cons, hs.1]
    exact ⟨by simp [h1], by simpa using h2⟩
theorem take_end (p : UInt8 → Bool) : ∀ (s : Bs), s.all p = true → s.takeWhile p = s ∧ s.dropWhile p = []
  | [], _ => ⟨rfl, rfl⟩
  | e :: s, hs => by
    simp only [List.all_cons, Bool.and_eq_true] at hs
    obtain ⟨h1, h2⟩ := take_end p s hs.2
    rw [List.takeWhile_cons, List.dropWhile_cons, hs.1]
    exact ⟨by simp [h1], by simpa using h2⟩

/-- Some text and its end. -/
theorem text_line (T : Bs) (h10 : (10 : UInt8) ∉ T) (h13 : (13 : UInt8) ∉ T) (r : Bs) : textL (T ++ crlf) r = byL (fun s => s.isPrefixOf (T ++ [13])) (fun s t => if s = T then .ok () t else .bad) r := by
  induction T generalizing r with
  | nil =>
    rw [List.nil_append, crlf]
    rcases r with _ | ⟨c, _ | ⟨d, r⟩⟩
    · rfl
    · rw [text_cons]
      by_cases hc : c = 10
      · subst hc; rfl
      · rw [byL_none _ _ _ (line_no _ (by simpa using fun e => hc e.symm))]
        by_cases h3 : c = 13
        · subst h3; rfl
        · rw [if_neg h3]; simp [pfx_cons, h3]
    · rw [text_cons]
      by_cases hc : c = 13
      · subst hc
        rw [if_pos rfl, text_cons]
        by_cases hd : d = 10
        · subst hd; rfl
        · rw [if_neg hd]
          symm
          refine byL_bad (fun _ => ?_) (fun l t e hl => ?_)
          · rfl
          · rw [if_neg]
            rintro rfl
            simp at e
            exact hd e.1
      · rw [if_neg hc]
        symm
        refine byL_bad (fun _ => ?_) (fun l t e hl => ?_)
        · simp [pfx_cons, hc]
        · rw [if_neg]
          rintro rfl
          simp at e
          exact hc e.1
  | cons d T ih =>
    simp only [List.mem_cons, not_or] at h10 h13
    rw [List.cons_append]
    cases r with
    | nil => rfl
    | cons c r =>
      rw [text_cons]
      by_cases hc : c = d
      · subst hc
        rw [if_pos rfl, ih h10.2 h13.2]
        have := byL_app (fun s => s.isPrefixOf (c :: T ++ [13])) (fun s t => if s = c :: T then R3.ok () t else .bad) [] r c (fun e => h13.1 e.symm) (by simpa using fun e => h10.1 e)
        rw [List.nil_append] at this
        rw [this]
        refine byL_congr (fun _ => ?_) (fun l t e hl => ?_)
        · rw [List.nil_append, List.cons_append, pfx_cons]; simp
        · simp
      · rw [if_neg hc]
        symm
        refine byL_bad (fun _ => ?_) (fun l t e hl => ?_)
        · rw [List.cons_append, pfx_cons]; simp [hc]
        · rw [if_neg]
          rintro rfl
          simp at e
          exact hc e.1
end Go.Proofs.YtmjekdnfkgalbaaGreatDoor
namespace Go.Proofs.YtmjekdnfkgalbaaGreatDoor
open Go.RowKit
set_option maxRecDepth 100000
set_option maxHeartbeats 4000000

theorem byteB (p : UInt8 → Bool) (h : ∀ x : Fin 256, p (UInt8.ofNat x.val) = true) (b : UInt8) : p b = true := by
  have := h ⟨b.toNat, b.toNat_lt⟩
  simpa using this
theorem dg_dec (b : UInt8) : decS.contains b = dgB b := by
  have h := byteB (fun b => decS.contains b == dgB b) (by decide +kernel) b
  simpa using h
theorem tk_no (b : UInt8) (h : tkB b = true) : b ≠ 10 ∧ b ≠ 13 ∧ b ≠ 32 ∧ b ≠ 58 := by
  refine ⟨?_, ?_, ?_, ?_⟩ <;> (rintro rfl; revert h; decide)
theorem vl_no (b : UInt8) (h : vlB b = true) : b ≠ 10 ∧ b ≠ 13 := by
  refine ⟨?_, ?_⟩ <;> (rintro rfl; revert h; decide)
theorem hx_no (b : UInt8) (h : hxB b = true) : b ≠ 10 ∧ b ≠ 13 := by
  refine ⟨?_, ?_⟩ <;> (rintro rfl; revert h; decide)
theorem dg_no (b : UInt8) (h : dgB b = true) : b ≠ 10 ∧ b ≠ 13 := by
  refine ⟨?_, ?_⟩ <;> (rintro rfl; revert h; decide)
theorem all_no (p : UInt8 → Bool) (c : UInt8) (hc : p c = false) (s : Bs) (h : s.all p = true) : c ∉ s := by
  intro hm
  rw [List.all_eq_true] at h
  have := h c hm
  rw [hc] at this
  cases this
theorem trimF_fix (v : Bs) : decide (trimF v = v) = (decide (v = []) || (decide (v.head? ≠ some 32) && decide (v.head? ≠ some 9))) := by
  cases v with
  | nil => rfl
  | cons c v =>
    have hb : isB c = (decide (c = 9) || decide (c = 32)) := by
      have h := byteB (fun c => isB c == (decide (c = 9) || decide (c = 32))) (by decide +kernel) c
      simpa using h
    rw [trimF, List.dropWhile_cons]
    cases hc : isB c
    · rw [hb] at hc
      simp at hc
      simp [hc]
    · rw [hb] at hc
      have hl : (v.dropWhile isB) ≠ c :: v := by
        intro e
        have h1 := (List.dropWhile_sublist isB (l := v)).length_le
        rw [e] at h1
        simp at h1
        omega
      simp only [if_true, hl, decide_false]
      simp at hc
      rcases hc with h | h <;> simp [h]
theorem trimL_fixF (v : Bs) (h : trimL v = v) : trimF v = v := by
  have h1 : (trimF v).length ≤ v.length := (List.dropWhile_sublist isB (l := v)).length_le
  have h2 : (trimE (trimF v)).length ≤ (trimF v).length := by
    unfold trimE
    rw [List.length_reverse]
    have := (List.dropWhile_sublist isB (l := (trimF v).reverse)).length_le
    simpa using this
  unfold trimL at h
  rw [h] at h2
  have h3 : (trimF v) <:+ v := List.dropWhile_suffix isB
  exact h3.eq_of_length (by omega)

/-- Some text ahead of a line's rest. -/
theorem text_pre {α : Type} (m : Bs → Bool) (k : Bs → Bs → R3 α) (hm : m [] = true) : ∀ (P : Bs), (10 : UInt8) ∉ P → (13 : UInt8) ∉ P → ∀ r : Bs,
    ((textL P r).bind fun _ t => byL m k t) = byL (fun s => s.isPrefixOf P || (P.isPrefixOf s && m (s.drop P.length))) (fun s t => if P.isPrefixOf s then k (s.drop P.length) t else .bad) r
  | [], _, _, r => by
    rw [textL, R3.bind_ok]
    refine byL_congr (fun _ => ?_) (fun l t e hl => ?_)
    · cases r with
      | nil => rw [hm]; rfl
      | cons c r => simp [List.isPrefixOf]
    · simp [List.isPrefixOf]
  | d :: P, h10, h13, [] => by
    rw [text_none _ (by simp), R3.bind_short]; rfl
  | d :: P, h10, h13, c :: r => by
    simp only [List.mem_cons, not_or] at h10 h13
    rw [text_cons]
    by_cases hc : c = d
    · subst hc
      rw [if_pos rfl, text_pre m k hm P h10.2 h13.2 r]
      have := byL_app (fun s => s.isPrefixOf (c :: P) || ((c :: P).isPrefixOf s && m (s.drop (c :: P).length))) (fun s t => if (c :: P).isPrefixOf s then k (s.drop (c :: P).length) t else .bad) [] r c (fun e => h13.1 e.symm) (by simpa using fun e => h10.1 e)
      rw [List.nil_append] at this
      rw [this]
      refine byL_congr (fun _ => ?_) (fun l t e hl => ?_)
      · simp
      · simp
    · rw [if_neg hc, R3.bind_bad]
      symm
      refine byL_bad (fun _ => ?_) (fun l t e hl => ?_)
      · have hdc : ¬ d = c := fun e => hc e.symm
        rw [pfx_cons, pfx_cons]; simp [hc, hdc]
      · rw [if_neg]
        cases l with
        | nil => simp [List.isPrefixOf]
        | cons e' l =>
          simp at e
          rw [pfx_cons]
          have : d ≠ e' := fun h => hc (by rw [e.1, h])
          simp [this]
theorem pfx_split : ∀ (P Q s : Bs), s.isPrefixOf (P ++ Q) = (s.isPrefixOf P || (P.isPrefixOf s && (s.drop P.length).isPrefixOf Q))
  | [], Q, s => by cases s <;> simp [List.isPrefixOf]
  | d :: P, Q, [] => by simp [List.isPrefixOf]
  | d :: P, Q, c :: s => by
    rw [List.cons_append, pfx_cons, pfx_cons, pfx_cons, pfx_split P Q s]
    by_cases h : c = d
    · subst h; simp
    · have hdc : ¬ d = c := fun e => h e.symm
      simp [h, hdc]

theorem allV_vl (l : Bs) : allV l = l.all vlB := rfl
theorem last_app (a : Bs) (c : UInt8) (t : Bs) : (a ++ c :: t).getLast? = (c :: t).getLast? := by
  rw [List.getLast?_append]
  cases h : (c :: t).getLast? with
  | none => simp at h
  | some d => rfl
theorem drop_app (a : Bs) (c : UInt8) (t : Bs) : (a ++ c :: t).dropLast = a ++ (c :: t).dropLast := List.dropLast_append_of_ne_nil (by simp)
theorem last_all (p : UInt8 → Bool) (c : UInt8) (hc : p c = false) (s : Bs) (h : s.all p = true) : s.getLast? ≠ some c := by
  intro e
  exact all_no p c hc s h (List.mem_of_getLast? e)

theorem partV_13 (w : Bs) : partV (32 :: (w ++ [13])) = (allV w && decide (trimL w = w)) := by
  rw [partV, if_pos rfl, if_pos (by simp), List.dropLast_concat]
theorem partV_not (w : Bs) (h : w.getLast? ≠ some 13) : partV (32 :: w) = (allV w && decide (trimF w = w)) := by
  rw [partV, if_pos rfl, if_neg h, trimF_fix]
theorem allV_no (w : Bs) (c : UInt8) (hm : c ∈ w) (hc : vlB c = false) : allV w = false := by
  rw [allV_vl, Bool.eq_false_iff]
  intro h
  exact all_no vlB c hc w h hm
theorem partV_bad (a : Bs) (c : UInt8) (b : Bs) (hc : vlB c = false) (h : c ≠ 13 ∨ b ≠ []) : partV (32 :: (a ++ c :: b)) = false := by
  by_cases hl : (a ++ c :: b).getLast? = some 13
  · have hs := last_snoc _ _ hl
    rw [hs, partV_13, allV_no _ c _ hc, Bool.false_and]
    rw [drop_app]
    cases b with
    | nil =>
      rw [last_app] at hl
      simp at hl
      rcases h with h | h
      · exact absurd hl h
      · exact absurd rfl h
    | cons d b => simp
  · rw [partV_not _ hl, allV_no _ c (by simp) hc, Bool.false_and]
theorem partV_line (l : Bs) (c : UInt8) (hm : c ∈ l) (hc : vlB c = false) : partV (32 :: (l ++ [13])) = false := by
  rw [partV_13, allV_no l c hm hc, Bool.false_and]

/-- A value and its end. -/
theorem val_line (t : Bs) : ((textL [32] t).bind fun _ t => valL t) = byL partV (fun l t => if partV (l ++ [13]) then .ok (l.drop 1) t else .bad) t := by
  cases t with
  | nil => rfl
  | cons d v =>
    rw [text_cons]
    by_cases hd : d = 32
    · subst hd
      rw [if_pos rfl, textL, R3.bind_ok]
      have hb := byL_app partV (fun l t => if partV (l ++ [13]) then .ok (l.drop 1) t else R3.bad) [] v 32 (by decide) (by decide)
      rw [List.nil_append] at hb
      rw [hb]
      clear hb
      simp only [List.nil_append, List.cons_append, List.drop_succ_cons, List.drop_zero]
      have hv := split_at vlB v
      have ha := take_all vlB v
      have hdr := drop_head vlB v
      unfold valL
      generalize v.takeWhile vlB = a at *
      generalize v.dropWhile vlB = b at *
      have hna := all_no vlB 10 (by decide) a ha
      have hna3 := all_no vlB 13 (by decide) a ha
      have hl3 := last_all vlB 13 (by decide) a ha
      cases b with
      | nil =>
        rw [List.append_nil] at hv
        subst hv
        rw [byL_none _ _ _ (line_no v hna), partV_not v hl3, allV_vl, ha]
        by_cases h : trimF v = v <;> simp [h]
      | cons c b =>
        have hc := hdr c b rfl
        have hbad : (c ≠ 13 ∨ ∃ e b', b = e :: b' ∧ e ≠ 10) → (if trimF a ≠ a then R3.bad else if (c :: b) = [] then .short else if trimL a ≠ a then .bad else (textL crlf (c :: b)).bind fun _ t => R3.ok a t) = R3.bad := by
          intro h
          have h2 : (textL crlf (c :: b)) = .bad := by
            rw [crlf, text_cons]
            by_cases h13 : c = 13
            · rcases h with h | ⟨e, b', rfl, h⟩
              · exact absurd h13 h
              · rw [if_pos h13, text_cons, if_neg h]
            · rw [if_neg h13]
          rw [h2]
          by_cases g1 : trimF a = a
          · by_cases g2 : trimL a = a <;> simp [g1, g2, R3.bind]
          · simp [g1]
        have hpre : ∀ l t, (c ≠ 13 ∨ ∃ e b', b = e :: b' ∧ e ≠ 10) → c ≠ 10 → v = l ++ 13 :: 10 :: t → c ∈ l := by
          intro l t h hc10 e1
          rw [hv] at e1
          rcases List.append_eq_append_iff.1 e1 with ⟨x, h2, h3⟩ | ⟨x, h2, h3⟩
          · cases x with
            | nil =>
              simp at h3
              rcases h with h | ⟨e, b', rfl, h⟩
              · exact absurd h3.1 h
              · simp at h3; exact absurd h3.2.1 h
            | cons y x => simp at h3; rw [h2, ← h3.1]; simp
          · cases x with
            | nil =>
              simp at h3
              rcases h with h | ⟨e, b', rfl, h⟩
              · exact absurd h3.1.symm h
              · simp at h3; exact absurd h3.2.1.symm h
            | cons y x => simp at h3; exact absurd (by rw [h2, ← h3.1]; simp) hna3
        by_cases h1 : c = 13
        · subst h1
          cases b with
          | nil =>
            have hno : (10 : UInt8) ∉ v := by rw [hv]; simp [hna]
            rw [byL_none _ _ _ (line_no v hno), hv, partV_13, allV_vl, ha]
            by_cases h : trimL a = a
            · simp [h, trimL_fixF a h, crlf, textL, R3.bind]
            · simp [h]
          | cons e b =>
            by_cases he : e = 10
            · subst he
              have hl : lineOf v = some (a ++ [13], b) := by
                have := line_app (a ++ [13]) (10 :: b) (by simp [hna])
                rw [hv, show a ++ 13 :: 10 :: b = (a ++ [13]) ++ 10 :: b by simp, this, line_lf]
                simp
              rw [byL_whole _ _ _ _ _ hl, partV_13, allV_vl, ha]
              by_cases h : trimL a = a
              · simp [h, trimL_fixF a h, crlf, textL, R3.bind]
              · simp [h]
            · have hx : (13 : UInt8) ≠ 13 ∨ ∃ e' b', e :: b = e' :: b' ∧ e' ≠ 10 := .inr ⟨e, b, rfl, he⟩
              rw [hbad hx]
              symm
              refine byL_bad (fun _ => ?_) (fun l t e1 hl => ?_)
              · rw [hv]; exact partV_bad a 13 (e :: b) (by decide) (.inr (by simp))
              · rw [partV_line l 13 (hpre l t hx (by decide) e1) (by decide)]; rfl
        · rw [hbad (.inl h1)]
          symm
          refine byL_bad (fun _ => ?_) (fun l t e1 hl => ?_)
          · rw [hv]; exact partV_bad a c b hc (.inl h1)
          · by_cases h10 : c = 10
            · subst h10
              exfalso
              rw [hv] at e1
              rcases List.append_eq_append_iff.1 e1 with ⟨x, h2, h3⟩ | ⟨x, h2, h3⟩
              · cases x with
                | nil => simp at h3
                | cons y x => simp at h3; exact hl (by rw [h2, ← h3.1]; simp)
              · cases x with
                | nil => simp at h3
                | cons y x => simp at h3; exact hna3 (by rw [h2, ← h3.1]; simp)
            · rw [partV_line l c (hpre l t (.inl h1) h10 e1) hc]; rfl
    · rw [if_neg hd, R3.bind_bad]
      symm
      refine byL_bad (fun _ => ?_) (fun l t e hl => ?_)
      · rw [partV, if_neg hd]
      · rw [if_neg]
        cases l with
        | nil => simp [partV]
        | cons e' l =>
          simp at e
          rw [List.cons_append, partV, if_neg (by rw [← e.1]; exact hd)]
          simp
end Go.Proofs.YtmjekdnfkgalbaaGreatDoor
namespace Go.Proofs.YtmjekdnfkgalbaaGreatDoor
open Go.RowKit
set_option maxRecDepth 100000
set_option maxHeartbeats 4000000

theorem right_dg (s : Bs) : rightL s = (decide (1 ≤ s.length) && decide (s.length ≤ 15) && s.all dgB && (decide (s = [48]) || decide (s.head? ≠ some 48))) := by
  unfold rightL
  rw [numR_10]
  congr 2
  induction s with
  | nil => rfl
  | cons c s ih => rw [List.all_cons, List.all_cons, dg_dec, ih]
theorem right_no (s : Bs) (c : UInt8) (hm : c ∈ s) (hc : dgB c = false) : rightL s = false := by
  rw [right_dg]
  have : s.all dgB = false := by
    rw [Bool.eq_false_iff]
    intro h
    exact all_no dgB c hc s h hm
  rw [this]; simp
theorem cut_line (p : UInt8 → Bool) (h10 : p 10 = false) : ∀ (s : Bs), s.all p = true → ∀ (c : UInt8) (t' l t : Bs), p c = false → s ++ c :: t' = l ++ 13 :: 10 :: t → p 13 = false → (10 : UInt8) ∉ l →
    (l = s ∧ c = 13) ∨ ∃ w, l = s ++ c :: w
  | [], _, c, t', l, t, hc, e, h13, hl => by
    cases l with
    | nil => simp at e; exact .inl ⟨rfl, e.1⟩
    | cons d l => simp at e; exact .inr ⟨l, by rw [e.1]; rfl⟩
  | d :: s, hs, c, t', l, t, hc, e, h13, hl => by
    simp only [List.all_cons, Bool.and_eq_true] at hs
    cases l with
    | nil =>
      simp at e
      rw [e.1, h13] at hs
      cases hs.1
    | cons d' l =>
      simp at e hl
      obtain ⟨rfl, e⟩ := e
      rcases cut_line p h10 s hs.2 c t' l t hc e h13 hl.2 with ⟨h1, h2⟩ | ⟨w, h1⟩
      · exact .inl ⟨by rw [h1], h2⟩
      · exact .inr ⟨w, by rw [h1]; rfl⟩
theorem numbr_snoc (l : Bs) : numbrL (l ++ [13]) = rightL l := by
  unfold numbrL
  rw [if_pos (by simp)]
  simp
theorem numbr_no (a : Bs) (c : UInt8) (w : Bs) (hc : dgB c = false) (h : c ≠ 13 ∨ w ≠ []) : numbrL (a ++ c :: w) = false := by
  unfold numbrL
  rw [last_app, drop_app]
  split
  · rename_i hl
    refine right_no _ c ?_ hc
    cases w with
    | nil =>
      simp at hl
      rcases h with h | h
      · exact absurd hl h
      · exact absurd rfl h
    | cons d w => simp
  · rw [right_no _ c (by simp) hc]; simp

/-- A length and its end. -/
theorem numb_line (t : Bs) : ((numbL 15 dgB t).bind fun s t => (textL crlf t).bind fun _ t => .ok s t) = byL numbrL (fun l t => if rightL l then .ok l t else .bad) t := by
  cases t with
  | nil => rfl
  | cons c u =>
    rw [numbL]
    by_cases hc : c = 48
    · subst hc
      rw [if_pos rfl, R3.bind_ok]
      have := text_line [] (by simp) (by simp) u
      rw [List.nil_append] at this
      rw [this, byL_bind]
      have hb := byL_app numbrL (fun l t => if rightL l then R3.ok l t else .bad) [] u 48 (by decide) (by decide)
      rw [List.nil_append] at hb
      rw [hb]
      refine byL_congr (fun _ => ?_) (fun l t e hl => ?_)
      · rcases u with _ | ⟨d, _ | ⟨e, u⟩⟩
        · decide
        · by_cases hd : d = 13
          · subst hd; decide
          · unfold numbrL rightL
            simp [pfx_cons, hd]
        · rw [show (d :: e :: u).isPrefixOf ([] ++ [13]) = false by simp [List.isPrefixOf]]
          unfold numbrL rightL
          simp
      · rw [List.nil_append, right_dg]
        cases l with
        | nil => rfl
        | cons d l => simp [R3.bind]
    · rw [if_neg hc]
      generalize hT : (c :: u) = t at *
      have hh : t.head? ≠ some 48 := by rw [← hT]; simpa using hc
      have hne : t ≠ [] := by rw [← hT]; simp
      clear hT hc
      have hv := split_at dgB t
      have ha := take_all dgB t
      have hdr := drop_head dgB t
      generalize t.takeWhile dgB = a at *
      generalize t.dropWhile dgB = b at *
      have hna := all_no dgB 10 (by decide) a ha
      have hl13 := last_all dgB 13 (by decide) a ha
      by_cases ha0 : a = []
      · subst ha0
        rw [List.nil_append] at hv
        subst hv
        cases t with
        | nil => exact absurd rfl hne
        | cons c u =>
          have hc := hdr c u rfl
          rw [show ((c :: u).take 15).takeWhile dgB = [] by rw [List.take_succ_cons, List.takeWhile_cons, hc]; rfl, if_pos rfl, R3.bind_bad]
          symm
          refine byL_bad (fun _ => ?_) (fun l t e hl => ?_)
          · by_cases h : c = 13 ∧ u = []
            · obtain ⟨rfl, rfl⟩ := h; decide
            · exact numbr_no [] c u hc (by rcases Classical.em (c = 13) with h1 | h1
                                           · exact .inr fun h2 => h ⟨h1, h2⟩
                                           · exact .inl h1)
          · rw [if_neg]
            cases l with
            | nil => decide
            | cons d l =>
              simp at e
              rw [right_no _ c (by rw [e.1]; simp) hc]; simp
      · have h1 : 1 ≤ a.length := by cases a with | nil => exact absurd rfl ha0 | cons _ _ => simp
        have hah : a.head? ≠ some 48 := by
          intro e
          apply hh
          rw [hv]
          cases a with
          | nil => exact absurd rfl ha0
          | cons x a => simpa using e
        by_cases h15 : a.length ≤ 15
        · have hs : (t.take 15).takeWhile dgB = a := by
            rw [hv, List.take_append, List.takeWhile_append_of_pos (by intro x hx; rw [List.all_eq_true] at ha; exact ha x (List.mem_of_mem_take hx)), List.take_of_length_le h15]
            cases b with
            | nil => simp
            | cons e b =>
              rw [show (List.takeWhile dgB (List.take (15 - a.length) (e :: b))) = [] by cases (15 - a.length) <;> simp [hdr e b rfl]]
              simp
          have htd : t.drop a.length = b := by rw [hv]; simp
          rw [hs, if_neg ha0, R3.bind_ok, htd]
          have hra : rightL a = true := by rw [right_dg]; simp [h1, h15, ha, hah]
          cases b with
          | nil =>
            rw [List.append_nil] at hv
            subst hv
            rw [byL_none _ _ _ (line_no t hna), numbrL, if_neg hl13, hra]
            simp [crlf, textL, R3.bind]
          | cons e b =>
            have he := hdr e b rfl
            have := text_line [] (by simp) (by simp) (e :: b)
            rw [List.nil_append] at this
            rw [this, byL_bind]
            have hd : ∃ a' d, a = a' ++ [d] := ⟨a.dropLast, a.getLast ha0, (List.dropLast_concat_getLast ha0).symm⟩
            obtain ⟨a', d, hd⟩ := hd
            have hb := byL_app numbrL (fun l t => if rightL l then R3.ok l t else .bad) a' (e :: b) d (by rintro rfl; exact hl13 (by rw [hd]; simp)) (by rw [← hd]; exact hna)
            rw [hv, show a ++ e :: b = a' ++ d :: (e :: b) by rw [hd]; simp, hb]
            refine byL_congr (fun _ => ?_) (fun l t e1 hl => ?_)
            · rw [show a' ++ d :: e :: b = a ++ e :: b by rw [hd]; simp]
              by_cases h : e = 13 ∧ b = []
              · obtain ⟨rfl, rfl⟩ := h
                rw [numbr_snoc, hra]; rfl
              · rw [numbr_no a e b he (by rcases Classical.em (e = 13) with h1 | h1
                                          · exact .inr fun h2 => h ⟨h1, h2⟩
                                          · exact .inl h1), List.nil_append, pfx_cons]
                cases b with
                | nil => simp at h; simp [h]
                | cons x b => simp [List.isPrefixOf]
            · rw [show a' ++ d :: l = a ++ l by rw [hd]; simp]
              cases l with
              | nil => rw [List.append_nil, hra]; rfl
              | cons x l =>
                simp at e1
                rw [right_no (a ++ x :: l) x (by simp) (by rw [← e1.1]; exact he)]
                rfl
        · have hs : (t.take 15).takeWhile dgB = a.take 15 := by
            rw [hv, List.take_append_of_le_length (by omega)]
            have : (a.take 15).all dgB = true := by
              rw [List.all_eq_true] at ha ⊢
              intro x hx
              exact ha x (List.mem_of_mem_take hx)
            exact (take_end dgB _ this).1
          have hne2 : a.take 15 ≠ [] := by
            intro e
            have := congrArg List.length e
            rw [List.length_take, List.length_nil] at this
            omega
          rw [hs, if_neg hne2, R3.bind_ok]
          have hlen : (a.take 15).length = 15 := by rw [List.length_take]; omega
          rw [hlen, hv, List.drop_append_of_le_length (by omega)]
          obtain ⟨x, y, hx⟩ : ∃ x y, a.drop 15 = x :: y := by
            cases h : a.drop 15 with
            | nil => rw [List.drop_eq_nil_iff] at h; omega
            | cons x y => exact ⟨x, y, rfl⟩
          have hxm : x ∈ a := List.mem_of_mem_drop (by rw [hx]; simp)
          have hxd : dgB x = true := by rw [List.all_eq_true] at ha; exact ha x hxm
          rw [hx, List.cons_append, crlf, text_cons, if_neg (dg_no x hxd).2, R3.bind_bad]
          symm
          have hlong : ∀ w, rightL (a ++ w) = false := by
            intro w
            rw [right_dg]
            rw [show decide ((a ++ w).length ≤ 15) = false from decide_eq_false (by rw [List.length_append]; omega)]
            simp
          have hpre : ∀ l : Bs, ∀ t : Bs, a ++ b = l ++ 13 :: 10 :: t → (10 : UInt8) ∉ l → ∃ w, l = a ++ w := by
            intro l t e hl
            rcases List.append_eq_append_iff.1 e with ⟨y, h2, h3⟩ | ⟨y, h2, h3⟩
            · exact ⟨y, h2⟩
            · cases y with
              | nil => exact ⟨[], by rw [h2]; simp⟩
              | cons z y =>
                simp at h3
                exact absurd (by rw [h2, ← h3.1]; simp) (all_no dgB 13 (by decide) a ha)
          refine byL_bad (fun _ => ?_) (fun l t e hl => ?_)
          · unfold numbrL
            split
            · rename_i hlast
              have hb : b ≠ [] := by rintro rfl; rw [List.append_nil] at hlast; exact hl13 hlast
              obtain ⟨z, b', rfl⟩ : ∃ z b', b = z :: b' := by cases b with | nil => exact absurd rfl hb | cons z b' => exact ⟨z, b', rfl⟩
              rw [drop_app]
              exact hlong _
            · rw [hlong]
              simp [ha0]
          · obtain ⟨w, rfl⟩ := hpre l t e hl
            rw [hlong]; rfl

/-- What Connection says, and its end. -/
theorem conn_line {α : Type} (chunked : Bool) (k : Bool → Bs → R3 α) (t : Bs) :
    connT chunked k t =
    byL (fun s => s.isPrefixOf (closeB ++ [13]) || (!chunked && s.isPrefixOf (keepB ++ [13]))) (fun s t => if s = closeB then k true t else if s = keepB ∧ chunked = false then k false t else .bad) t := by
  cases t with
  | nil => rfl
  | cons d u =>
    rw [connT]
    split
    · rename_i h
      obtain ⟨rfl, rfl⟩ := h
      rw [keepL, text_line keepB (by decide) (by decide), byL_bind]
      refine byL_congr (fun _ => ?_) (fun l t e hl => ?_)
      · rw [show (107 :: u).isPrefixOf (closeB ++ [13]) = false from rfl]; simp
      · have h1 : l ≠ closeB := by rintro rfl; simp [closeB] at e
        rw [if_neg h1]
        by_cases h2 : l = keepB <;> simp [h2, R3.bind]
    · rename_i h
      rw [closL, text_line closeB (by decide) (by decide), byL_bind]
      refine byL_congr (fun _ => ?_) (fun l t e hl => ?_)
      · cases hk : chunked
        · have hd : d ≠ 107 := fun e => h ⟨e, hk⟩
          rw [show (d :: u).isPrefixOf (keepB ++ [13]) = false by rw [keepB, List.cons_append, pfx_cons]; simp [hd]]
          simp
        · simp
      · by_cases h1 : l = closeB
        · simp [h1, R3.bind]
        · rw [if_neg h1, if_neg h1, if_neg]
          · rfl
          · rintro ⟨rfl, hk⟩
            simp [keepB] at e
            exact h ⟨e.1, hk⟩
end Go.Proofs.YtmjekdnfkgalbaaGreatDoor
namespace Go.Proofs.YtmjekdnfkgalbaaGreatDoor
open Go.RowKit
set_option maxRecDepth 100000
set_option maxHeartbeats 4000000

theorem text_cases : ∀ (T r : Bs), (∃ u, r = T ++ u ∧ textL T r = .ok () u) ∨ (r.isPrefixOf T = true ∧ T.isPrefixOf r = false ∧ textL T r = .short) ∨ (r.isPrefixOf T = false ∧ T.isPrefixOf r = false ∧ textL T r = .bad)
  | [], r => .inl ⟨r, rfl, rfl⟩
  | c :: T, [] => .inr (.inl ⟨rfl, rfl, rfl⟩)
  | c :: T, d :: r => by
    rw [text_cons, pfx_cons, pfx_cons]
    by_cases h : d = c
    · subst h
      rcases text_cases T r with ⟨u, h1, h2⟩ | ⟨h1, h2, h3⟩ | ⟨h1, h2, h3⟩
      · exact .inl ⟨u, by rw [h1]; rfl, by rw [if_pos rfl, h2]⟩
      · exact .inr (.inl ⟨by simp [h1], by simp [h2], by rw [if_pos rfl, h3]⟩)
      · exact .inr (.inr ⟨by simp [h1], by simp [h2], by rw [if_pos rfl, h3]⟩)
    · have h' : ¬ c = d := fun e => h e.symm
      exact .inr (.inr ⟨by simp [h], by simp [h'], by rw [if_neg h]⟩)
theorem digB_dg (b : UInt8) (h : dgB b = true) : digB b.toNat = (b.toNat : Int) - 48 := by
  unfold dgB at h
  simp at h
  unfold digB
  rw [if_pos (by omega)]
theorem digB_no (b : UInt8) (h : dgB b = false) : digB b.toNat < 0 ∨ 10 ≤ digB b.toNat := by
  have h := byteB (fun b => dgB b || decide (digB b.toNat < 0 ∨ 10 ≤ digB b.toNat)) (by decide +kernel) b
  simp [‹dgB b = false›] at h
  exact h
theorem dg_of (b : UInt8) (h : ¬ (digB b.toNat < 0 ∨ 10 ≤ digB b.toNat)) : dgB b = true := by
  cases q : dgB b
  · exact absurd (digB_no b q) h
  · rfl
def dsB (c : UInt8) : Bool := decide (50 ≤ c.toNat) && decide (c.toNat ≤ 53)
theorem dsB_dg (c : UInt8) (h : dsB c = true) : dgB c = true := by
  unfold dsB at h; unfold dgB
  simp at h ⊢; omega
theorem digs3 : ∀ a b c : Fin 10, a ≠ 0 → digs 10 (100 * a.val + 10 * b.val + c.val) = [UInt8.ofNat (48 + a.val), UInt8.ofNat (48 + b.val), UInt8.ofNat (48 + c.val)] := by decide +kernel
theorem beg_len : begB.length = 9 := rfl
theorem first_no (s : Bs) (h1 : begB.isPrefixOf s = false) (h2 : s.isPrefixOf begB = false) : (firstL s).2.2 = false := by
  unfold firstL
  rw [h1, h2]
  split
  · simp
  · split <;> simp
theorem first_F1 (c : UInt8) (v : Bs) (h : dsB c = false) : (firstL (begB ++ c :: v)).2.2 = false := by
  unfold firstL
  split
  · rw [if_pos (by simp [begB]), show (begB ++ c :: v).getD 9 0 = c from rfl]
    unfold dsB at h
    rw [h]; simp
  · split
    · rfl
    · rename_i h12 _ n hn
      rw [if_pos ?_]
      rw [show (begB ++ c :: v).drop 9 = c :: v from rfl] at hn
      rcases v with _ | ⟨d, _ | ⟨e, v⟩⟩
      · simp [begB] at h12
      · simp [begB] at h12
      · rw [show (c :: d :: e :: v).take 3 = [c, d, e] from rfl, numR, if_neg (by simp)] at hn
        have hdg : ∀ x : UInt8, dgB x = true → 48 ≤ x.toNat ∧ x.toNat ≤ 57 := fun x hx => by simpa [dgB] using hx
        rw [numF] at hn
        split at hn
        · cases hn
        · rename_i g1
          rw [numF] at hn
          split at hn
          · cases hn
          · rename_i g2
            rw [numF] at hn
            split at hn
            · cases hn
            · rename_i g3
              rw [numF] at hn
              cases hn
              have q1 := dg_of c g1
              have q2 := dg_of d g2
              have q3 := dg_of e g3
              rw [digB_dg c q1, digB_dg d q2, digB_dg e q3]
              have := hdg c q1
              have := hdg d q2
              have := hdg e q3
              unfold dsB at h
              simp at h ⊢
              omega
theorem first_F2 (c d : UInt8) (v : Bs) (h : dgB d = false) : (firstL (begB ++ c :: d :: v)).2.2 = false := by
  unfold firstL
  split
  · rw [if_pos (by simp [begB]), show (begB ++ c :: d :: v).drop 9 = c :: d :: v from rfl]
    simp [h]
  · split
    · rfl
    · rename_i h12 _ n hn
      rw [show (begB ++ c :: d :: v).drop 9 = c :: d :: v from rfl] at hn
      rcases v with _ | ⟨e, v⟩
      · simp [begB] at h12
      · rw [show (c :: d :: e :: v).take 3 = [c, d, e] from rfl, numR, if_neg (by simp), numF] at hn
        split at hn
        · cases hn
        · rw [numF, if_pos (digB_no d h)] at hn
          cases hn
theorem first_F3 (c d e : UInt8) (v : Bs) (h : dgB e = false) : (firstL (begB ++ c :: d :: e :: v)).2.2 = false := by
  unfold firstL
  rw [if_neg (by simp [begB])]
  split
  · rfl
  · rename_i n hn
    rw [show (begB ++ c :: d :: e :: v).drop 9 = c :: d :: e :: v from rfl, show (c :: d :: e :: v).take 3 = [c, d, e] from rfl, numR, if_neg (by simp), numF] at hn
    split at hn
    · cases hn
    · rw [numF] at hn
      split at hn
      · cases hn
      · rw [numF, if_pos (digB_no e h)] at hn
        cases hn
def codeI (c d e : UInt8) : Int := 10 * (10 * (10 * 0 + ((c.toNat : Int) - 48)) + ((d.toNat : Int) - 48)) + ((e.toNat : Int) - 48)
theorem first_ok (c d e : UInt8) (v : Bs) (hc : dsB c = true) (hd : dgB d = true) (he : dgB e = true) :
    firstL (begB ++ c :: d :: e :: v) = (codeI c d e, decide (v = 32 :: phraseL (codeI c d e)), v.isPrefixOf (32 :: phraseL (codeI c d e) ++ [13])) := by
  have h1 := dsB_dg c hc
  have g1 := digB_dg c h1
  have g2 := digB_dg d hd
  have g3 := digB_dg e he
  have k1 : 50 ≤ c.toNat ∧ c.toNat ≤ 53 := by simpa [dsB] using hc
  have k2 : 48 ≤ d.toNat ∧ d.toNat ≤ 57 := by simpa [dgB] using hd
  have k3 : 48 ≤ e.toNat ∧ e.toNat ≤ 57 := by simpa [dgB] using he
  have hn : numR 10 15 [c, d, e] = some (codeI c d e) := by
    rw [numR, if_neg (by simp), numF, if_neg (by rw [g1]; omega), numF, if_neg (by rw [g2]; omega), numF, if_neg (by rw [g3]; omega), numF, g1, g2, g3]
    congr 1
    unfold codeI; omega
  have hdg : digs 10 (codeI c d e).toNat = [c, d, e] := by
    have := digs3 ⟨c.toNat - 48, by omega⟩ ⟨d.toNat - 48, by omega⟩ ⟨e.toNat - 48, by omega⟩ (by intro h; simp [Fin.ext_iff] at h; omega)
    simp only at this
    rw [show (codeI c d e).toNat = 100 * (c.toNat - 48) + 10 * (d.toNat - 48) + (e.toNat - 48) by unfold codeI; omega, this]
    rw [show 48 + (c.toNat - 48) = c.toNat by omega, show 48 + (d.toNat - 48) = d.toNat by omega, show 48 + (e.toNat - 48) = e.toNat by omega]
    simp
  have hp : begB.isPrefixOf (begB ++ c :: d :: e :: v) = true := by rw [pfx_iff]; exact List.prefix_append _ _
  have hr : 200 ≤ codeI c d e ∧ codeI c d e ≤ 599 := by unfold codeI; omega
  unfold firstL
  rw [if_neg (by simp [begB]), show (begB ++ c :: d :: e :: v).drop 9 = c :: d :: e :: v from rfl, show (c :: d :: e :: v).take 3 = [c, d, e] from rfl, hn]
  simp only [hp, hdg]
  rw [if_neg (by simp; omega)]
  congr 2
  · rw [show begB ++ [c, d, e] ++ [32] ++ phraseL (codeI c d e) = begB ++ (c :: d :: e :: (32 :: phraseL (codeI c d e))) by simp]
    simp
  · rw [show begB ++ [c, d, e] ++ [32] ++ phraseL (codeI c d e) ++ [13] = begB ++ (c :: d :: e :: (32 :: phraseL (codeI c d e) ++ [13])) by simp, pfx_app, pfx_cons, pfx_cons, pfx_cons]
    simp
def okP (s : Bs) : Prop := s.all (fun c => decide (c ≠ 10) && decide (c ≠ 13)) = true
theorem okP_if (c : Prop) [Decidable c] (a b : Bs) (ha : okP a) (hb : okP b) : okP (if c then a else b) := by
  split
  · exact ha
  · exact hb
theorem phrase_no (n : Int) : (10 : UInt8) ∉ 32 :: phraseL n ∧ (13 : UInt8) ∉ 32 :: phraseL n := by
  have h : (phraseL n).all (fun c => decide (c ≠ 10) && decide (c ≠ 13)) = true := by
    have h : okP (phraseL n) := by
      unfold phraseL
      repeat' refine okP_if _ _ _ ?_ ?_
      all_goals (unfold okP; decide)
    exact h
  rw [List.all_eq_true] at h
  constructor <;> intro hm <;> rw [List.mem_cons] at hm <;> rcases hm with hm | hm
  · cases hm
  · have := h _ hm
    simp at this
  · cases hm
  · have := h _ hm
    simp at this
theorem digL_no (i : Nat) (st : Int) (c : UInt8) (r : Bs) (h : dgB c = false) : digL i st (c :: r) = .bad := by rw [digL, h]; rfl
theorem digL_yes (i : Nat) (st : Int) (c : UInt8) (r : Bs) (h : dgB c = true) (hi : i ≠ 0) : digL i st (c :: r) = .ok (10 * st + ((c.toNat : Int) - 48)) r := by rw [digL, h]; simp [hi]
theorem digL_in (st : Int) (c : UInt8) (r : Bs) : digL 0 st (c :: r) = if dsB c then .ok (10 * st + ((c.toNat : Int) - 48)) r else .bad := by
  rw [digL]
  rw [eq_of_beq (byteB (fun c => (dgB c && !(decide (0 = 0) && (decide (c.toNat < 50) || decide (53 < c.toNat)))) == dsB c) (by decide +kernel) c)]

/-- The first line. -/
theorem stat_line (r : Bs) : statusL r = byL (fun s => (firstL s).2.2) (fun s t => if (firstL (s ++ [13])).2.2 && (firstL s).2.1 then .ok (firstL s).1 t else .bad) r := by
  unfold statusL
  rcases text_cases begB r with ⟨u, h1, h2⟩ | ⟨h1, h2, h3⟩ | ⟨h1, h2, h3⟩
  · rw [h2, R3.bind_ok, h1]
    clear h1 h2
    have hb := byL_app (fun s => (firstL s).2.2) (fun s t => if (firstL (s ++ [13])).2.2 && (firstL s).2.1 then R3.ok (firstL s).1 t else .bad) [72, 84, 84, 80, 47, 49, 46, 49] u 32 (by decide) (by decide)
    simp only [show ∀ x : Bs, ([72, 84, 84, 80, 47, 49, 46, 49] : Bs) ++ 32 :: x = begB ++ x from fun x => rfl] at hb
    rw [hb]
    clear hb
    rcases u with _ | ⟨c, u⟩
    · rfl
    · rw [digL_in]
      cases hc : dsB c
      · rw [if_neg (by simp), R3.bind_bad]
        symm
        refine byL_bad (fun _ => first_F1 c u hc) (fun l t e hl => ?_)
        cases l with
        | nil =>
          simp at e
          rw [List.append_nil, show begB ++ [13] = begB ++ 13 :: [] from rfl, first_F1 13 [] (by decide)]; rfl
        | cons d l =>
          simp at e
          rw [List.append_assoc, List.cons_append, first_F1 d _ (by rw [← e.1]; exact hc)]; rfl
      · rw [if_pos rfl, R3.bind_ok]
        have hc0 := dsB_dg c hc
        rcases u with _ | ⟨d, u⟩
        · rw [digL, R3.bind_short, byL_none _ _ _ (line_no [c] (by simpa using fun e => (dg_no c hc0).1 e.symm)), if_pos]
          unfold firstL
          rw [if_pos (by simp [begB]), if_pos (by simp [begB]), show (begB ++ [c]).getD 9 0 = c from rfl, show (begB ++ [c]).drop 9 = [c] from rfl]
          unfold dsB at hc
          rw [hc, show begB.isPrefixOf (begB ++ [c]) = true by rw [pfx_iff]; exact List.prefix_append _ _]
          simp [hc0]
        · cases hd : dgB d
          · rw [digL_no _ _ _ _ hd, R3.bind_bad]
            symm
            refine byL_bad (fun _ => first_F2 c d u hd) (fun l t e hl => ?_)
            rcases l with _ | ⟨x, _ | ⟨y, l⟩⟩
            · simp at e; exact absurd e.1 (dg_no c hc0).2
            · simp at e
              rw [List.append_assoc, show [x] ++ [13] = x :: 13 :: [] from rfl, first_F2 x 13 [] (by decide)]; rfl
            · simp at e
              rw [List.append_assoc, show (x :: y :: l) ++ [13] = x :: y :: (l ++ [13]) from rfl, first_F2 x y _ (by rw [← e.2.1]; exact hd)]; rfl
          · rw [digL_yes _ _ _ _ hd (by decide), R3.bind_ok]
            rcases u with _ | ⟨x, u⟩
            · rw [digL, R3.bind_short, byL_none _ _ _ (line_no [c, d] (by simpa using ⟨fun e => (dg_no c hc0).1 e.symm, fun e => (dg_no d hd).1 e.symm⟩)), if_pos]
              unfold firstL
              rw [if_pos (by simp [begB]), if_pos (by simp [begB]), show (begB ++ [c, d]).getD 9 0 = c from rfl, show (begB ++ [c, d]).drop 9 = [c, d] from rfl]
              unfold dsB at hc
              rw [hc, show begB.isPrefixOf (begB ++ [c, d]) = true by rw [pfx_iff]; exact List.prefix_append _ _]
              simp [hc0, hd]
            · cases hx : dgB x
              · rw [digL_no _ _ _ _ hx, R3.bind_bad]
                symm
                refine byL_bad (fun _ => first_F3 c d x u hx) (fun l t e hl => ?_)
                rcases l with _ | ⟨y, _ | ⟨z, _ | ⟨z', l⟩⟩⟩
                · simp at e; exact absurd e.1 (dg_no c hc0).2
                · simp at e; exact absurd e.2.1 (dg_no d hd).2
                · simp at e
                  rw [List.append_assoc, show [y, z] ++ [13] = y :: z :: 13 :: [] from rfl, first_F3 y z 13 [] (by decide)]; rfl
                · simp at e
                  rw [List.append_assoc, show (y :: z :: z' :: l) ++ [13] = y :: z :: z' :: (l ++ [13]) from rfl, first_F3 y z z' _ (by rw [← e.2.2.1]; exact hx)]; rfl
              · rw [digL_yes _ _ _ _ hx (by decide), R3.bind_ok]
                change (textL (phrL (codeI c d x)) u).bind (fun _ r => R3.ok (codeI c d x) r) = _
                have hph := phrase_no (codeI c d x)
                rw [phrL, ← List.cons_append, text_line _ hph.1 hph.2, byL_bind]
                have hb := byL_app (fun l => (firstL (begB ++ l)).2.2) (fun l t => if (firstL (begB ++ l ++ [13])).2.2 && (firstL (begB ++ l)).2.1 then R3.ok (firstL (begB ++ l)).1 t else .bad) [c, d] u x (dg_no x hx).2 (by simpa using ⟨fun e => (dg_no c hc0).1 e.symm, fun e => (dg_no d hd).1 e.symm, fun e => (dg_no x hx).1 e.symm⟩)
                simp only [show ∀ y : Bs, ([c, d] : Bs) ++ x :: y = c :: d :: x :: y from fun y => rfl] at hb
                rw [hb]
                refine byL_congr (fun _ => ?_) (fun l t e hl => ?_)
                · rw [first_ok c d x u hc hd hx]
                · rw [List.append_assoc, show (c :: d :: x :: l) ++ [13] = c :: d :: x :: (l ++ [13]) from rfl, first_ok c d x _ hc hd hx, first_ok c d x l hc hd hx]
                  simp only [pfx_snoc _ hph.2]
                  by_cases h : l = 32 :: phraseL (codeI c d x) <;> simp [h, R3.bind]
  · rw [h3, R3.bind_short]
    have hno : (10 : UInt8) ∉ r := by
      intro hm
      rw [pfx_iff] at h1
      exact absurd (h1.subset hm) (by decide)
    rw [byL_none _ _ _ (line_no r hno), if_pos]
    have hlen : r.length ≤ 9 := by
      rw [pfx_iff] at h1
      exact h1.length_le
    unfold firstL
    rw [if_pos (by omega), if_neg (by omega), h1]
  · rw [h3, R3.bind_bad]
    symm
    refine byL_bad (fun _ => first_no r h2 h1) (fun l t e hl => ?_)
    rw [first_no (l ++ [13])]
    · rfl
    · rw [Bool.eq_false_iff] at h2 ⊢
      intro h
      apply h2
      rw [pfx_iff] at h ⊢
      exact h.trans ⟨10 :: t, by rw [e]; simp⟩
    · rw [Bool.eq_false_iff]
      intro h
      rw [pfx_iff] at h
      exact absurd (h.subset (show (13 : UInt8) ∈ l ++ [13] by simp)) (by decide)
end Go.Proofs.YtmjekdnfkgalbaaGreatDoor
namespace Go.Proofs.YtmjekdnfkgalbaaGreatDoor
open Go.RowKit
set_option maxRecDepth 100000
set_option maxHeartbeats 4000000

theorem line_lt (r s t : Bs) (h : lineOf r = some (s, t)) : t.length < r.length := by
  have := (line_some r s t h).1
  rw [this]; simp; omega
theorem goL_fuel : ∀ (n m : Nat) (x : RL) (r : Bs), r.length < n → r.length < m → goL n x r = goL m x r
  | 0, _, _, _, h, _ => absurd h (by omega)
  | _ + 1, 0, _, _, _, h => absurd h (by omega)
  | n + 1, m + 1, x, r, h1, h2 => by
    rw [goL, goL]
    split
    · rfl
    · rename_i s t hl
      have := line_lt r s t hl
      rw [goL_fuel n m _ t (by omega) (by omega)]
def goW (x : RL) (r : Bs) : R3 RL := goL (r.length + 1) x r
theorem goW_eq (x : RL) (r : Bs) : goW x r = byL (mayL x) (fun s t => if s = [] then (if x.ends then .ok x t else .bad) else if (lineL x s).2 then goW (lineL x s).1 t else .bad) r := by
  unfold goW
  rw [goL, byL]
  cases h : lineOf r with
  | none => rfl
  | some y =>
    obtain ⟨s, t⟩ := y
    have := line_lt r s t h
    simp only
    by_cases hl : s.getLast? = some 13
    · rw [if_neg (by simpa using hl), if_pos hl, goL_fuel r.length (t.length + 1) _ t (by omega) (by omega)]
    · rw [if_pos hl, if_neg hl]

/-- The empty line. -/
theorem go_empty (x : RL) (he : x.ends = true) (h0 : x.row ≠ 0) (u : Bs) (hm : ∀ d v, mayL x (13 :: d :: v) = false) : goW x (13 :: u) = (textL crlf (13 :: u)).bind fun _ t => .ok x t := by
  rw [goW_eq, crlf, text_cons, if_pos rfl]
  rcases u with _ | ⟨d, u⟩
  · rw [byL_none _ _ _ (line_no _ (by decide)), if_pos]
    · rfl
    · unfold mayL
      rw [if_neg h0, if_pos (by decide), he]; rfl
  · rw [text_cons]
    by_cases hd : d = 10
    · subst hd
      rw [if_pos rfl, byL_some _ _ _ [13] u (by rfl)]
      simp [he, textL, R3.bind]
    · rw [if_neg hd, R3.bind_bad]
      refine byL_bad (fun _ => hm d u) (fun l t e hl => ?_)
      rcases l with _ | ⟨y, l⟩
      · simp at e; exact absurd e.1 hd
      · simp at e
        obtain ⟨rfl, e⟩ := e
        rw [if_neg (by simp)]
        have hl2 : ∃ d' v, l ++ [13] = d' :: v := by cases l with
          | nil => exact ⟨13, [], rfl⟩
          | cons a l => exact ⟨a, l ++ [13], rfl⟩
        obtain ⟨d', v, hv⟩ := hl2
        have : (lineL x (13 :: l)).2 = false := by
          unfold lineL
          rw [List.cons_append, hv, hm d' v]; rfl
        rw [this]; rfl
theorem may_nil (x : RL) (h0 : x.row ≠ 0) : mayL x [] = true := by
  unfold mayL
  rw [if_neg h0, if_pos (by decide)]; simp

/-! ## Behind the length -/
theorem may3 (x : RL) (h : x.row = 3) (c : UInt8) (s : Bs) : mayL x (c :: s) = (c :: s).isPrefixOf [13] := by
  unfold mayL RL.ends
  rw [h, if_neg (by decide)]
  generalize (c :: s).isPrefixOf [13] = b
  cases b <;> simp
theorem go3 (x : RL) (h : x.row = 3) (r : Bs) : goW x r = (textL crlf r).bind fun _ t => .ok x t := by
  have he : x.ends = true := by unfold RL.ends; rw [h]; rfl
  rcases r with _ | ⟨c, u⟩
  · rw [goW_eq, byL_none _ _ _ rfl, may_nil x (by omega)]; rfl
  · by_cases hc : c = 13
    · subst hc
      exact go_empty x he (by omega) u fun d v => by rw [may3 x h]; simp [List.isPrefixOf]
    · rw [crlf, text_cons, if_neg hc, R3.bind_bad, goW_eq]
      refine byL_bad (fun _ => ?_) (fun l t e hl => ?_)
      · rw [may3 x h, pfx_cons]; simp [hc]
      · cases l with
        | nil => simp at e; exact absurd e.1 hc
        | cons y l =>
          simp at e
          have : (lineL x (y :: l)).2 = false := by
            unfold lineL
            rw [List.cons_append, may3 x h, pfx_cons]
            simp [← e.1, hc]
          rw [if_neg (by simp), this]; rfl
def conM (chunked : Bool) (s : Bs) : Bool := s.isPrefixOf (ccS ++ [13]) || (!chunked && s.isPrefixOf (ckS ++ [13]))
theorem con_pre (chunked : Bool) (s : Bs) : conM chunked s = (s.isPrefixOf (coN ++ csB) || ((coN ++ csB).isPrefixOf s && ((s.drop (coN ++ csB).length).isPrefixOf (closeB ++ [13]) || (!chunked && (s.drop (coN ++ csB).length).isPrefixOf (keepB ++ [13]))))) := by
  unfold conM ccS ckS
  rw [List.append_assoc (coN ++ csB), List.append_assoc (coN ++ csB), pfx_split, pfx_split (coN ++ csB)]
  cases s.isPrefixOf (coN ++ csB) <;> cases (coN ++ csB).isPrefixOf s <;> cases chunked <;> simp
theorem con_is (T s : Bs) : ((coN ++ csB).isPrefixOf s = true ∧ s.drop (coN ++ csB).length = T) ↔ s = (coN ++ csB) ++ T := by
  constructor
  · rintro ⟨h, rfl⟩
    rw [pfx_iff] at h
    obtain ⟨y, rfl⟩ := h
    simp
  · rintro rfl
    refine ⟨?_, by simp⟩
    rw [pfx_iff]; exact List.prefix_append _ _
theorem con_snoc (chunked : Bool) (s : Bs) : conM chunked (s ++ [13]) = (decide (s = ccS) || (!chunked && decide (s = ckS))) := by
  unfold conM
  rw [pfx_snoc _ (by decide), pfx_snoc _ (by decide)]
/-- What Connection says, as a line. -/
theorem con_line (chunked : Bool) {α : Type} (k : Bool → Bs → R3 α) (r : Bs) : ((textL (coN ++ csB) r).bind fun _ t => connT chunked k t) =
    byL (conM chunked) (fun s t => if s = ccS then k true t else if s = ckS ∧ chunked = false then k false t else .bad) r := by
  simp only [conn_line chunked k]
  rw [text_pre _ _ (by rfl) (coN ++ csB) (by decide) (by decide)]
  refine byL_congr (fun _ => ?_) (fun l t e hl => ?_)
  · rw [con_pre]
  · have h1 := con_is closeB l
    have h2 := con_is keepB l
    rw [← ccS] at h1
    rw [← ckS] at h2
    by_cases hp : (coN ++ csB).isPrefixOf l = true
    · rw [if_pos hp]
      simp only [hp, true_and] at h1 h2
      by_cases g1 : l.drop (coN ++ csB).length = closeB
      · rw [if_pos g1, if_pos (h1.1 g1)]
      · rw [if_neg g1, if_neg (fun e => g1 (h1.2 e))]
        by_cases g2 : l.drop (coN ++ csB).length = keepB
        · by_cases g3 : chunked = false
          · rw [if_pos ⟨g2, g3⟩, if_pos ⟨h2.1 g2, g3⟩]
          · rw [if_neg (fun e => g3 e.2), if_neg (fun e => g3 e.2)]
        · rw [if_neg (fun e => g2 e.1), if_neg (fun e => g2 (h2.2 e.1))]
    · rw [if_neg hp, if_neg (fun e => hp (h1.2 e).1), if_neg (fun e => hp (h2.2 e.1).1)]
theorem may2 (x : RL) (h : x.row = 2) (c : UInt8) (s : Bs) : mayL x (c :: s) = ((c :: s).isPrefixOf [13] || conM x.chunked (c :: s)) := by
  unfold mayL RL.ends
  rw [h, if_neg (by decide)]
  unfold conM
  cases h1 : (c :: s).isPrefixOf [13] <;> simp
theorem may2_line (x : RL) (h : x.row = 2) (s : Bs) (hs : s ≠ []) : mayL x (s ++ [13]) = conM x.chunked (s ++ [13]) := by
  cases s with
  | nil => exact absurd rfl hs
  | cons c s =>
    rw [List.cons_append, may2 x h]
    rw [show (c :: (s ++ [13])).isPrefixOf [13] = false by cases s <;> simp [List.isPrefixOf]]; rfl
theorem line2_no (x : RL) (h : x.row = 2) (s : Bs) (hs : s ≠ []) (h1 : s ≠ ccS) (h2 : ¬ (s = ckS ∧ x.chunked = false)) : (lineL x s).2 = false := by
  have : mayL x (s ++ [13]) = false := by
    rw [may2_line x h s hs, con_snoc]
    simp [h1]
    intro hc e
    exact h2 ⟨e, hc⟩
  unfold lineL
  rw [this]; rfl
theorem line2_cc (x : RL) (h : x.row = 2) : lineL x ccS = ({ x with close := true, row := 3 }, true) := by
  unfold lineL
  rw [may2_line x h _ (by decide), con_snoc, h]
  simp [show clS.isPrefixOf ccS = false by decide, show ccS ≠ teS by decide]
theorem line2_ck (x : RL) (h : x.row = 2) (hc : x.chunked = false) : lineL x ckS = ({ x with keep := true, row := 3 }, true) := by
  unfold lineL
  rw [may2_line x h _ (by decide), con_snoc, h, hc]
  simp [show clS.isPrefixOf ckS = false by decide, show ckS ≠ teS by decide, show ckS ≠ ccS by decide]
theorem ends_con (chunked : Bool) (c : UInt8) (u : Bs) (hc : c ≠ 13) : endsL chunked (c :: u) = byL (conM chunked) (fun s t => if s = ccS then (textL crlf t).bind fun _ t => .ok true t else if s = ckS ∧ chunked = false then (textL crlf t).bind fun _ t => .ok false t else .bad) (c :: u) := by
  rw [endsL, if_neg hc]
  exact con_line chunked (fun b t => (textL crlf t).bind fun _ t => .ok b t) (c :: u)
theorem go2 (x : RL) (h : x.row = 2) (hcl : x.close = false) (head : Bool) (r : Bs) : (goW x r).bind (bodR head) = (endsL x.chunked r).bind fun e t => bodR head { x with close := e } t := by
  have he : x.ends = true := by unfold RL.ends; rw [h]; rfl
  rcases r with _ | ⟨c, u⟩
  · rw [goW_eq, byL_none _ _ _ rfl, may_nil x (by omega)]; rfl
  · by_cases hc : c = 13
    · subst hc
      rw [go_empty x he (by omega) u (fun d v => by rw [may2 x h]; simp [List.isPrefixOf, conM, ccS, ckS, coN]), endsL, if_pos rfl, R3.bind_bind, R3.bind_bind]
      congr 1
      funext a t
      rw [R3.bind_ok, R3.bind_ok, ← hcl]
    · rw [ends_con _ _ _ hc, byL_bind, goW_eq, byL_bind]
      refine byL_congr (fun _ => ?_) (fun l t e hl => ?_)
      · rw [may2 x h, pfx_cons]; simp [hc]
      · have hl0 : l ≠ [] := by rintro rfl; simp at e; exact hc e.1
        rw [if_neg hl0]
        by_cases h1 : l = ccS
        · subst h1
          rw [line2_cc x h, if_pos rfl, if_pos rfl, go3 _ rfl, R3.bind_bind, R3.bind_bind]
          congr 1
        · rw [if_neg h1]
          by_cases h2 : l = ckS ∧ x.chunked = false
          · obtain ⟨rfl, h3⟩ := h2
            rw [line2_ck x h h3, if_pos rfl, go3 _ rfl, R3.bind_bind, if_pos (⟨rfl, h3⟩ : ckS = ckS ∧ x.chunked = false), R3.bind_bind]
            congr 1
            funext a t
            rw [R3.bind_ok, R3.bind_ok, ← hcl]; rfl
          · rw [if_neg h2, line2_no x h l hl0 h1 h2]; rfl
end Go.Proofs.YtmjekdnfkgalbaaGreatDoor
namespace Go.Proofs.YtmjekdnfkgalbaaGreatDoor
open Go.RowKit
set_option maxRecDepth 100000
set_option maxHeartbeats 4000000

/-! ## Chunks -/
theorem hx_dig (b : UInt8) (h : hxB b = true) : 0 ≤ digB b.toNat ∧ digB b.toNat < 16 ∧ (b ≠ 48 → 1 ≤ digB b.toNat) := by
  have h2 := byteB (fun b => !hxB b || decide (0 ≤ digB b.toNat ∧ digB b.toNat < 16 ∧ (b ≠ 48 → 1 ≤ digB b.toNat))) (by decide +kernel) b
  simp [h] at h2
  exact ⟨h2.1, h2.2.1, fun e => h2.2.2.resolve_left e⟩
theorem numF_hx : ∀ (l : Bs) (n : Int), 0 ≤ n → l.all hxB = true → ∃ v, numF 16 l n = some v ∧ n ≤ v
  | [], n, h, _ => ⟨n, rfl, Int.le_refl _⟩
  | b :: l, n, h, ha => by
    simp only [List.all_cons, Bool.and_eq_true] at ha
    obtain ⟨h1, h2, -⟩ := hx_dig b ha.1
    obtain ⟨v, hv, hle⟩ := numF_hx l (n * 16 + digB b.toNat) (by omega) ha.2
    refine ⟨v, ?_, by omega⟩
    rw [numF, if_neg (by omega), hv]
theorem hexV_pos (c : UInt8) (l : Bs) (hc : c ≠ 48) (ha : (c :: l).all hxB = true) (hl : (c :: l).length ≤ 12) : hexV (c :: l) ≠ 0 := by
  simp only [List.all_cons, Bool.and_eq_true] at ha
  obtain ⟨h1, h2, h3⟩ := hx_dig c ha.1
  have h4 := h3 hc
  obtain ⟨v, hv, hle⟩ := numF_hx l (0 * 16 + digB c.toNat) (by omega) ha.2
  unfold hexV numR
  rw [if_neg (by simp at hl ⊢; omega), numF, if_neg (by omega), hv]
  simp; omega
theorem chks_same : ∀ (n m : Nat) (B : Bs) (P : List Int) (r : Bs), r.length < n → r.length < m → chksL n B P r = chkR m B P r
  | 0, _, _, _, _, h, _ => absurd h (by omega)
  | _ + 1, 0, _, _, _, _, h => absurd h (by omega)
  | n + 1, m + 1, B, P, r, h1, h2 => by
    rw [chksL, chkR]
    rcases r with _ | ⟨c, u⟩
    · simp [numbL, R3.bind, sizL]
    · rw [numbL]
      by_cases hc : c = 48
      · subst hc
        rw [if_pos rfl, R3.bind_ok]
        by_cases hP : P = []
        · simp [hP]
        · rw [if_neg (by simp [hP]), if_neg (by simp [hP])]
          rcases u with _ | ⟨d, u⟩
          · have : sizL [48] = (0, -1) := by decide
            rw [this]; simp [crlf, textL, R3.bind]
          · have hd : hxB d = true ∨ hxB d = false := by cases hxB d <;> simp
            rcases hd with hd | hd
            · have hs : (sizL (48 :: d :: u)).2 = -2 := by
                unfold sizL
                simp only
                rw [if_pos]
                refine ⟨?_, rfl⟩
                rw [List.take_succ_cons, List.take_succ_cons, List.takeWhile_cons, List.takeWhile_cons, hd]
                simp [show hxB 48 = true by decide]
              rw [hs, crlf, text_cons, if_neg (hx_no d hd).2]
              simp [R3.bind]
            · have hn : ((48 :: d :: u).take 12).takeWhile hxB = [48] := by
                rw [List.take_succ_cons, List.take_succ_cons, List.takeWhile_cons, List.takeWhile_cons, hd]
                simp [show hxB 48 = true by decide]
              have hs : sizL (48 :: d :: u) = if d ≠ 13 then ((0 : Int), (-2 : Int)) else match u with
                  | [] => ((0 : Int), (-1 : Int))
                  | e :: _ => if e ≠ 10 then ((0 : Int), (-2 : Int)) else ((3 : Int), (0 : Int)) := by
                unfold sizL
                simp only [hn]
                rw [if_neg (by simp)]
                simp only [List.length_singleton, List.drop_succ_cons, List.drop_zero]
                rw [show hexV ((48 :: d :: u).take 1) = 0 by rw [List.take_succ_cons, List.take_zero]; decide]
                by_cases h13 : d = 13
                · subst h13
                  cases u with
                  | nil => simp
                  | cons e u => simp
                · simp [h13]
              rw [hs, crlf, text_cons]
              by_cases h13 : d = 13
              · subst h13
                rw [if_pos rfl]
                rcases u with _ | ⟨e, u⟩
                · simp [textL, R3.bind]
                · rw [text_cons]
                  by_cases h10 : e = 10
                  · subst h10
                    simp only [ne_eq, not_true_eq_false, if_false, if_true]
                    rw [textL, R3.bind_ok]
                    rcases u with _ | ⟨a, _ | ⟨b, u⟩⟩
                    · simp [textL, R3.bind]
                    · by_cases ha : a = 13 <;> simp [textL, R3.bind, List.isPrefixOf, ha]
                    · by_cases ha : a = 13
                      · by_cases hb : b = 10 <;> simp [textL, R3.bind, List.isPrefixOf, ha, hb]
                      · simp [textL, R3.bind, List.isPrefixOf, ha]
                  · simp [h10, R3.bind]
              · simp [h13, R3.bind]
      · rw [if_neg hc]
        have hh : ¬ (P = [] ∧ (c :: u).head? = some 48) := by rintro ⟨-, h⟩; simp at h; exact hc h
        rw [if_neg hh]
        have hT : ∀ v, ((c :: u).take 12).takeWhile hxB = v → v.all hxB = true ∧ v.length ≤ 12 ∧ (c :: u) = v ++ (c :: u).drop v.length := by
          rintro v rfl
          refine ⟨take_all hxB _, ?_, ?_⟩
          · have := (List.takeWhile_sublist hxB (l := (c :: u).take 12)).length_le
            rw [List.length_take] at this
            omega
          · have h3 : ((c :: u).take 12).takeWhile hxB <+: c :: u := (List.takeWhile_prefix hxB).trans (List.take_prefix _ _)
            exact (List.prefix_iff_eq_append.1 h3).symm
        obtain ⟨ha, hl, hv⟩ := hT _ rfl
        generalize hA : ((c :: u).take 12).takeWhile hxB = a at *
        by_cases ha0 : a = []
        · have hs : (sizL (c :: u)).2 = -2 := by
            unfold sizL
            simp only [hA, ha0]
            rw [if_neg (by simp)]
            simp
          rw [if_pos ha0, hs]; simp [R3.bind]
        · rw [if_neg ha0, R3.bind_ok]
          have ha48 : a ≠ [48] := by
            rintro rfl
            have := congrArg List.head? hv
            simp at this
            exact hc this
          have hpos : hexV a ≠ 0 := by
            cases a with
            | nil => exact absurd rfl ha0
            | cons x a =>
              have := congrArg List.head? hv
              simp at this
              exact hexV_pos x a (by rw [← this]; exact hc) ha hl
          have hlen : 1 ≤ a.length := by cases a with | nil => exact absurd rfl ha0 | cons _ _ => simp
          have htk : (c :: u).take a.length = a := by conv => lhs; rw [hv]
                                                      simp
          rw [if_neg (fun e => ha48 e.1)]
          have hs : sizL (c :: u) = match (c :: u).drop a.length with
              | [] => (0, -1)
              | d :: r => if d ≠ 13 then (0, -2) else match r with
                | [] => (0, -1)
                | e :: _ => if e ≠ 10 then (0, -2) else ((a.length : Int) + 2, (hexV a : Int)) := by
            unfold sizL
            simp only [hA]
            rw [if_neg (by rintro ⟨-, h⟩; simp at h; exact hc h), htk]
            cases (c :: u).drop a.length with
            | nil => rfl
            | cons d r =>
              simp only
              by_cases h13 : d = 13
              · subst h13
                rw [if_neg (by simp; omega), if_neg (by simp)]
                cases r <;> rfl
              · rw [if_pos (.inr h13), if_pos h13]
          rw [hs]
          have hdd : ∀ k, (c :: u).drop (a.length + k) = ((c :: u).drop a.length).drop k := fun k => by rw [List.drop_drop]
          have hll : ((c :: u).drop a.length).length + a.length = (c :: u).length := by rw [List.length_drop]; have := congrArg List.length hv; simp at this; simp; omega
          generalize hR : (c :: u).drop a.length = R at *
          rcases R with _ | ⟨d, R⟩
          · simp [crlf, textL, R3.bind]
          · rw [crlf, text_cons]
            by_cases h13 : d = 13
            · subst h13
              rw [if_pos rfl]
              rcases R with _ | ⟨e, R⟩
              · simp [textL, R3.bind]
              · rw [text_cons]
                by_cases h10 : e = 10
                · subst h10
                  simp only [ne_eq, not_true_eq_false, if_false, if_true]
                  rw [textL, R3.bind_ok, if_neg ha48]
                  rw [show ((a.length : Int) + 2).toNat = a.length + 2 by omega, hdd 2]
                  simp only [List.drop_succ_cons, List.drop_zero, Int.toNat_natCast]
                  rw [if_neg (by omega), if_neg (by omega)]
                  unfold dataL
                  by_cases hlt : R.length < hexV a
                  · rw [if_pos hlt, if_pos hlt]; rfl
                  · rw [if_neg hlt, if_neg hlt, R3.bind_ok]
                    have hq : (R.drop (hexV a)).length ≤ R.length := by rw [List.length_drop]; omega
                    generalize R.drop (hexV a) = Q at *
                    rcases Q with _ | ⟨x, _ | ⟨y, Q⟩⟩
                    · simp [textL, R3.bind]
                    · by_cases hx : x = 13 <;> simp [textL, R3.bind, List.isPrefixOf, hx]
                    · by_cases hx : x = 13
                      · by_cases hy : y = 10
                        · subst hx; subst hy
                          have hi := chks_same n m (B ++ R.take (hexV a)) (P ++ [((B ++ R.take (hexV a)).length : Int)]) Q (by simp at hll hq h1; omega) (by simp at hll hq h2; omega)
                          have hpos' : ¬ ((hexV a : Nat) : Int) = 0 := by omega
                          rw [show textL [13, 10] (13 :: 10 :: Q) = .ok () Q from text_self [13, 10] Q, R3.bind_ok, hi]
                          rw [if_neg (show ¬ (!((13 :: 10 :: Q).take 2).isPrefixOf [13, 10]) = true by simp [List.isPrefixOf]), if_neg (by simp), if_neg hpos']
                          simp
                        · subst hx
                          simp [textL, R3.bind, List.isPrefixOf, hy]
                      · simp [textL, R3.bind, List.isPrefixOf, hx]
                · simp [h10, R3.bind]
            · simp [h13, R3.bind]

/-! ## Fields -/
theorem tk_cl : clN.all tkB = true := by decide
theorem tk_te : teN.all tkB = true := by decide
theorem tk_co : coN.all tkB = true := by decide
theorem tk58 : tkB 58 = false := by decide
theorem part_tok (s : Bs) (c : UInt8) (w : Bs) (hs : s.all tkB = true) (hc : tkB c = false) : partL (s ++ c :: w) = (decide (s ≠ []) && decide (c = 58) && !ownN s && partV w) := by
  obtain ⟨h1, h2⟩ := take_app tkB c hc w s hs
  unfold partL
  rw [h1, h2]
  simp only
  by_cases g1 : s = []
  · simp [g1]
  · by_cases g2 : c = 58
    · cases g3 : ownN s <;> simp [g1, g2]
    · simp [g2]
theorem pre_tok (s : Bs) (c : UInt8) (w : Bs) (hs : s.all tkB = true) (hc : tkB c = false) (T : Bs) (hT : T.all tkB = true) (y : Bs) :
    (s ++ c :: w).isPrefixOf (T ++ 58 :: y) = (decide (s = T) && decide (c = 58) && w.isPrefixOf y) ∧ (T ++ 58 :: y).isPrefixOf (s ++ c :: w) = (decide (s = T) && decide (c = 58) && y.isPrefixOf w) := by
  refine ⟨pfx_tok tkB c 58 hc tk58 w y s T hs hT, ?_⟩
  rw [pfx_tok tkB 58 c tk58 hc y w T s hT hs]
  congr 2
  · exact decide_eq_decide.2 eq_comm
  · exact decide_eq_decide.2 eq_comm
/-- What may come of a line among the fields, of which the name is whole. -/
def mayF (nb : Bool) (nf : Nat) (s : Bs) (c : UInt8) (w : Bs) : Bool :=
  if decide (nf < 24) && (decide (s ≠ []) && decide (c = 58) && !ownN s && partV w) then true
  else if !nb && ((decide (s = clN) && decide (c = 58) && (w.isPrefixOf [32] || (([32] : Bs).isPrefixOf w && numbrL (w.drop 1)))) || (decide (s = teN) && decide (c = 58) && w.isPrefixOf (32 :: (chunkedB ++ [13])))) then true
  else nb && (decide (s = coN) && decide (c = 58) && (w.isPrefixOf (32 :: (closeB ++ [13])) || w.isPrefixOf (32 :: (keepB ++ [13]))))
def st1 (st : Int) (fs : List Fd) : RL := ⟨st, fs, 1, false, false, false, 0⟩
theorem may1 (st : Int) (fs : List Fd) (s : Bs) (c : UInt8) (w : Bs) (hs : s.all tkB = true) (hc : tkB c = false) (h0 : s ≠ [] ∨ c ≠ 13) : mayL (st1 st fs) (s ++ c :: w) = mayF (noBody st) fs.length s c w := by
  have hp : (s ++ c :: w).isPrefixOf [13] = false := by
    cases s with
    | nil =>
      rcases h0 with h0 | h0
      · exact absurd rfl h0
      · rw [List.nil_append, pfx_cons]; simp [h0]
    | cons x s => cases s <;> simp [List.isPrefixOf]
  unfold mayL mayF st1
  simp only [hp]
  rw [if_neg (by decide), if_neg (by decide), part_tok s c w hs hc]
  rw [show clS = clN ++ 58 :: [32] from rfl, (pre_tok s c w hs hc clN tk_cl [32]).1, (pre_tok s c w hs hc clN tk_cl [32]).2]
  rw [show teS ++ [13] = teN ++ 58 :: (32 :: (chunkedB ++ [13])) from rfl, (pre_tok s c w hs hc teN tk_te _).1]
  rw [show ccS ++ [13] = coN ++ 58 :: (32 :: (closeB ++ [13])) from rfl, (pre_tok s c w hs hc coN tk_co _).1]
  rw [show ckS ++ [13] = coN ++ 58 :: (32 :: (keepB ++ [13])) from rfl, (pre_tok s c w hs hc coN tk_co _).1]
  have hd : s = clN → (s ++ c :: w).drop 16 = w.drop 1 := by rintro rfl; rfl
  cases noBody st
  · by_cases g1 : s = clN
    · rw [hd g1]
      simp only [decide_true, Bool.not_false, Bool.and_true, Bool.true_and]
      cases decide (s = teN) <;> cases decide (c = 58) <;> simp [g1] <;> (try rfl)
    · simp [g1]
  · simp
    cases decide (s = coN) <;> cases decide (c = 58) <;> simp
end Go.Proofs.YtmjekdnfkgalbaaGreatDoor
namespace Go.Proofs.YtmjekdnfkgalbaaGreatDoor
open Go.RowKit
set_option maxRecDepth 100000
set_option maxHeartbeats 4000000

theorem own_cl : ownN clN = true := by decide
theorem own_te : ownN teN = true := by decide
theorem own_co : ownN coN = true := by decide
/-- Two rows of lines that go on alike, from a name on. -/
theorem byL_name {α : Type} {m m' : Bs → Bool} {k k' : Bs → Bs → R3 α} {s t' : Bs} {c : UInt8} (hs : s.all tkB = true) (hc : tkB c = false) (hm : m (s ++ c :: t') = m' (s ++ c :: t'))
    (h0 : ∀ t, c = 13 → k s t = k' s t) (hk : ∀ w t, t.length < t'.length → k (s ++ c :: w) t = k' (s ++ c :: w) t) : byL m k (s ++ c :: t') = byL m' k' (s ++ c :: t') := by
  refine byL_congr (fun _ => hm) (fun l t e hl => ?_)
  rcases cut_line tkB (by decide) s hs c t' l t hc e (by decide) hl with ⟨rfl, h⟩ | ⟨w, rfl⟩
  · exact h0 t h
  · refine hk w t ?_
    have := congrArg List.length e
    simp at this
    omega
theorem line_no1 (st : Int) (fs : List Fd) (l : Bs) (h : mayL (st1 st fs) (l ++ [13]) = false) : (lineL (st1 st fs) l).2 = false := by
  unfold lineL
  rw [h]; rfl
theorem mayF_own (nb : Bool) (nf : Nat) (s : Bs) (c : UInt8) (w : Bs) (h : ownN s = true) : mayF nb nf s c w =
    (if !nb && ((decide (s = clN) && decide (c = 58) && (w.isPrefixOf [32] || (([32] : Bs).isPrefixOf w && numbrL (w.drop 1)))) || (decide (s = teN) && decide (c = 58) && w.isPrefixOf (32 :: (chunkedB ++ [13])))) then true
     else nb && (decide (s = coN) && decide (c = 58) && (w.isPrefixOf (32 :: (closeB ++ [13])) || w.isPrefixOf (32 :: (keepB ++ [13]))))) := by
  unfold mayF
  rw [h]; simp
theorem mayF_c (nb : Bool) (nf : Nat) (s : Bs) (c : UInt8) (w : Bs) (h : c ≠ 58) : mayF nb nf s c w = false := by
  unfold mayF
  simp [h]
theorem mayF_te (nf : Nat) (c : UInt8) (w : Bs) : mayF false nf teN c w = (decide (c = 58) && w.isPrefixOf (32 :: (chunkedB ++ [13]))) := by
  rw [mayF_own _ _ _ _ _ own_te]
  generalize w.isPrefixOf (32 :: (chunkedB ++ [13])) = b1
  cases b1 <;> cases decide (c = 58) <;> simp [show teN ≠ clN by decide]
theorem mayF_cl (nf : Nat) (c : UInt8) (w : Bs) : mayF false nf clN c w = (decide (c = 58) && (w.isPrefixOf [32] || (([32] : Bs).isPrefixOf w && numbrL (w.drop 1)))) := by
  rw [mayF_own _ _ _ _ _ own_cl]
  generalize w.isPrefixOf [32] = b1
  generalize ([32] : Bs).isPrefixOf w = b2
  cases b1 <;> cases b2 <;> cases decide (c = 58) <;> cases numbrL (w.drop 1) <;> simp [show clN ≠ teN by decide]
theorem mayF_co (nf : Nat) (c : UInt8) (w : Bs) : mayF true nf coN c w = (decide (c = 58) && (w.isPrefixOf (32 :: (closeB ++ [13])) || w.isPrefixOf (32 :: (keepB ++ [13])))) := by
  rw [mayF_own _ _ _ _ _ own_co]
  generalize w.isPrefixOf (32 :: (closeB ++ [13])) = b1
  generalize w.isPrefixOf (32 :: (keepB ++ [13])) = b2
  cases b1 <;> cases b2 <;> cases decide (c = 58) <;> simp
theorem app_ne (s : Bs) (c : UInt8) (w T y : Bs) (hs : s.all tkB = true) (hc : tkB c = false) (hT : T.all tkB = true) : (s ++ c :: w = T ++ 58 :: y) ↔ (s = T ∧ c = 58 ∧ w = y) := by
  constructor
  · intro e
    obtain ⟨h1, h2⟩ := take_app tkB c hc w s hs
    obtain ⟨h3, h4⟩ := take_app tkB 58 tk58 y T hT
    rw [e] at h1 h2
    rw [h3] at h1
    rw [h4] at h2
    cases h2
    exact ⟨h1.symm, rfl, rfl⟩
  · rintro ⟨rfl, rfl, rfl⟩; rfl

/-- Behind the fields: in chunks. -/
theorem tail_te (st : Int) (fs : List Fd) (head : Bool) (hnb : noBody st = false) (c : UInt8) (t' : Bs) (hc : tkB c = false) :
    tailL head st fs teN (teN ++ c :: t') = (goW (st1 st fs) (teN ++ c :: t')).bind (bodR head) := by
  unfold tailL
  rw [if_pos rfl, ← List.append_assoc teN chB crlf, show teN ++ chB = teS from rfl, text_line teS (by decide) (by decide), byL_bind, goW_eq, byL_bind]
  refine byL_name tk_te hc ?_ (fun t h13 => ?_) (fun w t ht => ?_)
  · rw [may1 st fs teN c t' tk_te hc (.inl (by decide)), hnb, mayF_te, show teS ++ [13] = teN ++ 58 :: (32 :: (chunkedB ++ [13])) from rfl, (pre_tok teN c t' tk_te hc teN tk_te _).1, decide_eq_true rfl, Bool.true_and]
  · subst h13
    rw [if_neg (by decide), if_neg (by decide), line_no1]
    · rfl
    · rw [may1 st fs teN 13 [] tk_te hc (.inl (by decide)), mayF_c _ _ _ _ _ (by decide)]
  · have hiff := app_ne teN c w teN (32 :: chunkedB) tk_te hc tk_te
    by_cases h : teN ++ c :: w = teS
    · rw [if_pos h, if_neg (by simp [teN]), h]
      have hl : lineL (st1 st fs) teS = ({ st1 st fs with chunked := true, row := 2 }, true) := by
        unfold lineL
        rw [show teS ++ [13] = teN ++ 58 :: (32 :: (chunkedB ++ [13])) from rfl, may1 st fs teN 58 _ tk_te tk58 (.inl (by decide)), hnb, mayF_te]
        rw [show ((32 : UInt8) :: (chunkedB ++ [13])).isPrefixOf (32 :: (chunkedB ++ [13])) = true by decide]
        simp [st1, show clS.isPrefixOf teS = false by decide]
      rw [hl, if_pos rfl, R3.bind_ok, go2 _ rfl rfl]
      congr 1
      funext e t
      unfold bodR
      cases head
      · simp only [Bool.false_eq_true, if_false, if_true]
        rw [chks_same _ (t.length + 1) [] [] t (by omega) (by omega)]
        rfl
      · rfl
    · rw [if_neg h, if_neg (by simp [teN]), line_no1]
      · rfl
      · rw [List.append_assoc, List.cons_append, may1 st fs teN c _ tk_te hc (.inl (by decide)), hnb, mayF_te]
        have h2 : ¬ (c = 58 ∧ w = 32 :: chunkedB) := fun e => h (hiff.2 ⟨rfl, e.1, e.2⟩)
        rw [show (32 : UInt8) :: (chunkedB ++ [13]) = (32 :: chunkedB) ++ [13] from rfl, pfx_snoc _ (by decide)]
        by_cases h3 : c = 58
        · have h4 : ¬ w = 32 :: chunkedB := fun e => h2 ⟨h3, e⟩
          simp [h4]
        · simp [h3]
/-- Behind the fields: with a length. -/
theorem tail_cl (st : Int) (fs : List Fd) (head : Bool) (hnb : noBody st = false) (c : UInt8) (t' : Bs) (hc : tkB c = false) :
    tailL head st fs clN (clN ++ c :: t') = (goW (st1 st fs) (clN ++ c :: t')).bind (bodR head) := by
  have hin : ∀ t, ((numbL 15 dgB t).bind fun s t => (textL crlf t).bind fun _ t => (endsL false t).bind fun e t => if head then R3.ok ((⟨st, fs, [], []⟩ : Rs), e) t else (dataL (decV s) t).bind fun d t => R3.ok (⟨st, fs, d, []⟩, e) t) =
      byL numbrL (fun l t => if rightL l then (endsL false t).bind fun e t => if head then R3.ok ((⟨st, fs, [], []⟩ : Rs), e) t else (dataL (decV l) t).bind fun d t => R3.ok (⟨st, fs, d, []⟩, e) t else .bad) t := by
    intro t
    have h := congrArg (fun x => R3.bind x fun s t => (endsL false t).bind fun e t => if head then R3.ok ((⟨st, fs, [], []⟩ : Rs), e) t else (dataL (decV s) t).bind fun d t => R3.ok (⟨st, fs, d, []⟩, e) t) (numb_line t)
    simp only [R3.bind_bind, R3.bind_ok, byL_bind] at h
    rw [h]
    refine byL_congr (fun _ => rfl) (fun l t e hl => ?_)
    by_cases hr : rightL l <;> simp [hr, R3.bind]
  unfold tailL
  rw [if_neg (by decide), if_pos rfl]
  simp only [hin]
  rw [text_pre _ _ (by decide) (clN ++ csB) (by decide) (by decide), goW_eq, byL_bind]
  rw [show clN ++ csB = clS from rfl]
  refine byL_name tk_cl hc ?_ (fun t h13 => ?_) (fun w t ht => ?_)
  · rw [may1 st fs clN c t' tk_cl hc (.inl (by decide)), hnb, mayF_cl, show (clN ++ c :: t').drop clS.length = t'.drop 1 from rfl]
    rw [show clS = clN ++ 58 :: [32] from rfl, (pre_tok clN c t' tk_cl hc clN tk_cl _).1, (pre_tok clN c t' tk_cl hc clN tk_cl _).2]
    cases decide (c = 58) <;> simp
  · subst h13
    rw [if_neg (by decide), if_neg (by decide), line_no1]
    · rfl
    · rw [may1 st fs clN 13 [] tk_cl hc (.inl (by decide)), mayF_c _ _ _ _ _ (by decide)]
  · rw [if_neg (show clN ++ c :: w ≠ [] by simp [clN])]
    have hp : clS.isPrefixOf (clN ++ c :: w) = (decide (c = 58) && ([32] : Bs).isPrefixOf w) := by
      rw [show clS = clN ++ 58 :: [32] from rfl, (pre_tok clN c w tk_cl hc clN tk_cl _).2]; simp
    have hm : mayL (st1 st fs) (clN ++ c :: w ++ [13]) = (decide (c = 58) && ([32] : Bs).isPrefixOf w && rightL (w.drop 1)) := by
      rw [List.append_assoc, List.cons_append, may1 st fs clN c _ tk_cl hc (.inl (by decide)), hnb, mayF_cl]
      cases w with
      | nil => simp [List.isPrefixOf]
      | cons d w =>
        rw [show (d :: w) ++ [13] = d :: (w ++ [13]) from rfl]
        rw [show (d :: (w ++ [13])).drop 1 = w ++ [13] from rfl, numbr_snoc, show (d :: (w ++ [13])).isPrefixOf [32] = false by cases w <;> simp [List.isPrefixOf], show ([32] : Bs).isPrefixOf (d :: (w ++ [13])) = ([32] : Bs).isPrefixOf (d :: w) by simp [List.isPrefixOf]]
        simp [Bool.and_assoc]
    rw [hp, show (clN ++ c :: w).drop clS.length = w.drop 1 from rfl]
    by_cases h : (decide (c = 58) && ([32] : Bs).isPrefixOf w) = true
    · rw [if_pos h]
      by_cases hr : rightL (w.drop 1) = true
      · have hl : lineL (st1 st fs) (clN ++ c :: w) = ({ st1 st fs with len := decV (w.drop 1), row := 2 }, true) := by
          unfold lineL
          rw [hm, h, hr, hp, h]
          rfl
        rw [if_pos hr, hl, if_pos rfl, go2 _ rfl rfl]
        congr 1
        funext e t
        unfold bodR dataL
        cases head
        · simp only [Bool.false_eq_true, if_false]
          rw [show ({ st1 st fs with len := decV (w.drop 1), row := 2, close := e } : RL).chunked = false from rfl]
          simp only [Bool.false_eq_true, if_false]
          show _ = if t.length < decV (w.drop 1) then R3.short else .ok ((⟨st, fs, t.take (decV (w.drop 1)), []⟩ : Rs), e) (t.drop (decV (w.drop 1)))
          generalize decV (w.drop 1) = k
          by_cases hlt : t.length < k
          · rw [if_pos hlt, if_pos hlt]; rfl
          · rw [if_neg hlt, if_neg hlt]; rfl
        · rfl
      · rw [if_neg hr, line_no1]
        · rfl
        · rw [hm, h]
          simpa using hr
    · rw [if_neg h, line_no1]
      · rfl
      · rw [hm, Bool.eq_false_iff.2 h]; rfl
/-- Behind the fields: without a body. -/
theorem tail_co (st : Int) (fs : List Fd) (head : Bool) (hnb : noBody st = true) (c : UInt8) (t' : Bs) (hc : tkB c = false) :
    tailL head st fs coN (coN ++ c :: t') = (goW (st1 st fs) (coN ++ c :: t')).bind (bodR head) := by
  unfold tailL
  rw [if_neg (by decide), if_neg (by decide), goW_eq, byL_bind]
  have he := ends_con false 67 ([111, 110, 110, 101, 99, 116, 105, 111, 110] ++ c :: t') (by decide)
  rw [show (67 : UInt8) :: ([111, 110, 110, 101, 99, 116, 105, 111, 110] ++ c :: t') = coN ++ c :: t' from rfl] at he
  rw [he, byL_bind]
  have hcm : ∀ w, conM false (coN ++ c :: w) = (decide (c = 58) && (w.isPrefixOf (32 :: (closeB ++ [13])) || w.isPrefixOf (32 :: (keepB ++ [13])))) := by
    intro w
    unfold conM
    rw [show ccS ++ [13] = coN ++ 58 :: (32 :: (closeB ++ [13])) from rfl, (pre_tok coN c w tk_co hc coN tk_co _).1]
    rw [show ckS ++ [13] = coN ++ 58 :: (32 :: (keepB ++ [13])) from rfl, (pre_tok coN c w tk_co hc coN tk_co _).1]
    by_cases h3 : c = 58 <;> simp [h3]
  have hmm : ∀ w, mayL (st1 st fs) (coN ++ c :: w) = conM false (coN ++ c :: w) := by
    intro w
    rw [may1 st fs coN c w tk_co hc (.inl (by decide)), hnb, mayF_co, hcm]
  have hbod : ∀ (e : Bool) (x : RL) (t : Bs), x.st = st → x.f = fs → x.chunked = false → x.len = 0 → x.close = e → bodR head x t = .ok (⟨st, fs, [], []⟩, e) t := by
    rintro e x t rfl rfl h1 h2 rfl
    unfold bodR
    rw [h1, h2]
    cases head <;> simp
  refine byL_name tk_co hc (hmm t').symm (fun t h13 => ?_) (fun w t ht => ?_)
  · subst h13
    rw [if_neg (by decide), if_neg (by decide), if_neg (by decide), line_no1]
    · rfl
    · rw [may1 st fs coN 13 [] tk_co hc (.inl (by decide)), mayF_c _ _ _ _ _ (by decide)]
  · rw [if_neg (show coN ++ c :: w ≠ [] by simp [coN])]
    have hm : mayL (st1 st fs) (coN ++ c :: w ++ [13]) = (decide (coN ++ c :: w = ccS) || decide (coN ++ c :: w = ckS)) := by
      rw [List.append_assoc, List.cons_append, hmm, ← List.cons_append, ← List.append_assoc, con_snoc]; rfl
    by_cases h1 : coN ++ c :: w = ccS
    · rw [if_pos h1, h1]
      have hl : lineL (st1 st fs) ccS = ({ st1 st fs with close := true, row := 3 }, true) := by
        rw [h1] at hm
        unfold lineL
        rw [hm]
        simp [st1, show clS.isPrefixOf ccS = false by decide, show ccS ≠ teS by decide]
      rw [hl, if_pos rfl, go3 _ rfl, R3.bind_bind, R3.bind_bind]
      congr 1
      funext _ t
      rw [R3.bind_ok, R3.bind_ok, hbod true _ t rfl rfl rfl rfl rfl]
    · rw [if_neg h1]
      by_cases h2 : coN ++ c :: w = ckS
      · rw [h2, if_pos ⟨rfl, rfl⟩]
        have hl : lineL (st1 st fs) ckS = ({ st1 st fs with keep := true, row := 3 }, true) := by
          rw [h2] at hm
          unfold lineL
          rw [hm]
          simp [st1, show clS.isPrefixOf ckS = false by decide, show ckS ≠ teS by decide, show ckS ≠ ccS by decide]
        rw [hl, if_pos rfl, go3 _ rfl, R3.bind_bind, R3.bind_bind]
        congr 1
        funext _ t
        rw [R3.bind_ok, R3.bind_ok, hbod false _ t rfl rfl rfl rfl rfl]
      · rw [if_neg (fun e => h2 e.1), line_no1]
        · rfl
        · rw [hm]; simp [h1, h2]

/-- From the fields on. -/
theorem flds_same (st : Int) (head : Bool) : ∀ (n : Nat) (fs : List Fd) (r : Bs), r.length < n →
    ((fldsL (noBody st) n fs r).bind fun x t => tailL head st x.1 x.2 t) = (goW (st1 st fs) r).bind (bodR head)
  | 0, _, _, h => absurd h (by omega)
  | n + 1, fs, r, hn => by
    rw [fldsL]
    by_cases h1 : noBody st = true ∧ r = []
    · rw [if_pos h1, h1.2, goW_eq, byL_none _ _ _ rfl, may_nil _ (show (1 : Int) ≠ 0 by decide)]; rfl
    · rw [if_neg h1]
      by_cases h2 : noBody st = true ∧ r.head? = some 13
      · rw [if_pos h2, R3.bind_ok]
        obtain ⟨hnb, h2⟩ := h2
        rcases r with _ | ⟨c, u⟩
        · simp at h2
        · simp at h2
          subst h2
          have hmd : ∀ d v, mayL (st1 st fs) (13 :: d :: v) = false := by
            intro d v
            unfold mayL st1
            simp only
            rw [if_neg (by decide), hnb, show (13 :: d :: v).isPrefixOf [13] = false by simp [List.isPrefixOf]]
            have hp : partL (13 :: d :: v) = false := by unfold partL; rw [List.dropWhile_cons, show tkB 13 = false by decide]; simp [show tkB 13 = false by decide]
            rw [hp]
            simp [List.isPrefixOf, ccS, ckS, coN]
          rw [go_empty _ (by unfold RL.ends st1; simp [hnb]) (show (1 : Int) ≠ 0 by decide) u hmd]
          unfold tailL
          rw [if_neg (show ([] : Bs) ≠ teN by decide), if_neg (show ([] : Bs) ≠ clN by decide), endsL, if_pos rfl, R3.bind_bind, R3.bind_bind]
          congr 1
          funext _ t
          unfold bodR st1
          cases head <;> simp [R3.bind]
      · rw [if_neg h2]
        have hv := split_at tkB r
        have ha := take_all tkB r
        have hdr := drop_head tkB r
        unfold nameL
        generalize r.takeWhile tkB = s at *
        generalize r.dropWhile tkB = b at *
        cases b with
        | nil =>
          rw [List.append_nil] at hv
          subst hv
          rw [if_pos rfl]
          have hno := all_no tkB 10 (by decide) r ha
          rw [goW_eq, byL_none _ _ _ (line_no r hno)]
          have hm : mayL (st1 st fs) r = !fullL (oursL (noBody st)) fs.length r := by
            cases r with
            | nil =>
              rw [may_nil _ (show (1 : Int) ≠ 0 by decide)]
              unfold fullL oursL
              cases noBody st <;> simp [List.isPrefixOf]
            | cons c u =>
              have hc : tkB c = true := by simp only [List.all_cons, Bool.and_eq_true] at ha; exact ha.1
              unfold mayL fullL st1
              simp only
              rw [if_neg (by decide), show (c :: u).isPrefixOf [13] = false by rw [pfx_cons]; simp [(tk_no c hc).2.1]]
              have hp : partL (c :: u) = true := by unfold partL; rw [(take_end tkB _ ha).2]; simp
              rw [hp]
              by_cases hf : fs.length < 24
              · simp [hf, show ¬ 24 ≤ fs.length by omega]
              · have h24 : decide (24 ≤ fs.length) = true := decide_eq_true (by omega)
                have h23 : decide (fs.length < 24) = false := decide_eq_false hf
                rw [show clS = clN ++ 58 :: [32] from rfl, pfx_all tkB 58 tk58 _ _ _ ha, pfx_long tkB 58 tk58 _ _ _ ha, show teS ++ [13] = teN ++ 58 :: (32 :: (chunkedB ++ [13])) from rfl, pfx_all tkB 58 tk58 _ _ _ ha,
                  show ccS ++ [13] = coN ++ 58 :: (32 :: (closeB ++ [13])) from rfl, pfx_all tkB 58 tk58 _ _ _ ha, show ckS ++ [13] = coN ++ 58 :: (32 :: (keepB ++ [13])) from rfl, pfx_all tkB 58 tk58 _ _ _ ha]
                have hall : (oursL (noBody st)).all (fun o => !(c :: u).isPrefixOf o) = if noBody st then !(c :: u).isPrefixOf coN else !(c :: u).isPrefixOf teN && !(c :: u).isPrefixOf clN := by
                  cases noBody st <;> simp [oursL]
                rw [hall, h24, h23]
                generalize (c :: u).isPrefixOf clN = b1
                generalize (c :: u).isPrefixOf teN = b2
                generalize (c :: u).isPrefixOf coN = b3
                cases noBody st <;> cases b1 <;> cases b2 <;> cases b3 <;> rfl
          rw [hm]
          cases fullL (oursL (noBody st)) fs.length r <;> rfl
        | cons c t' =>
          have hc := hdr c t' rfl
          rw [if_neg (by simp)]
          subst hv
          by_cases ho : (oursL (noBody st)).contains s = true
          · rw [if_pos ho, R3.bind_ok]
            cases hnb : noBody st
            · rw [hnb] at ho
              have : s = teN ∨ s = clN := by simpa [oursL] using ho
              rcases this with rfl | rfl
              · rw [if_pos own_te, R3.bind_ok]
                exact tail_te st fs head hnb c t' hc
              · rw [if_pos own_cl, R3.bind_ok]
                exact tail_cl st fs head hnb c t' hc
            · rw [hnb] at ho
              have : s = coN := by simpa [oursL] using ho
              subst this
              rw [if_pos own_co, R3.bind_ok]
              exact tail_co st fs head hnb c t' hc
          · rw [if_neg ho]
            have hno : (noBody st = false → s ≠ teN ∧ s ≠ clN) ∧ (noBody st = true → s ≠ coN) := by
              constructor <;> intro hnb <;> rw [hnb] at ho <;> simpa [oursL] using ho
            have hmf : ∀ w, mayF (noBody st) fs.length s c w = (decide (fs.length < 24) && (decide (s ≠ []) && decide (c = 58) && !ownN s && partV w)) := by
              intro w
              unfold mayF
              cases hnb : noBody st
              · obtain ⟨g1, g2⟩ := hno.1 hnb
                simp [g1, g2]
              · have g1 := hno.2 hnb
                simp [g1]
            by_cases hbad : (decide (s = []) || ownN s || decide (24 ≤ fs.length)) = true
            · rw [if_pos hbad, R3.bind_bad, R3.bind_bad, goW_eq]
              have hb : ∀ w, mayF (noBody st) fs.length s c w = false := by
                intro w
                rw [hmf]
                simp only [Bool.or_eq_true, decide_eq_true_eq] at hbad
                rcases hbad with (h | h) | h
                · simp [h]
                · simp [h]
                · simp [show ¬ fs.length < 24 by omega]
              by_cases h13 : s = [] ∧ c = 13
              · obtain ⟨rfl, rfl⟩ := h13
                have hnb : noBody st = false := by
                  cases hq : noBody st
                  · rfl
                  · exact absurd ⟨hq, rfl⟩ h2
                rw [List.nil_append]
                have hz : byL (mayL (st1 st fs)) (fun s t => if s = [] then if (st1 st fs).ends = true then R3.ok (st1 st fs) t else R3.bad else if (lineL (st1 st fs) s).2 = true then goW (lineL (st1 st fs) s).1 t else R3.bad) (13 :: t') = .bad := by
                  have hq : ∀ u, mayL (st1 st fs) (13 :: u) = false := by
                    intro u
                    unfold mayL st1
                    simp only
                    rw [if_neg (by decide), hnb]
                    have hp : partL (13 :: u) = false := by unfold partL; rw [List.dropWhile_cons, show tkB 13 = false by decide]; simp [show tkB 13 = false by decide]
                    rw [hp]
                    unfold RL.ends
                    simp [hnb, clS, clN, teS, teN]
                  refine byL_bad (fun _ => hq t') (fun l t e hl => ?_)
                  cases l with
                  | nil => rw [if_pos rfl, if_neg]; unfold RL.ends st1; simp [hnb]
                  | cons d l =>
                    simp at e
                    rw [if_neg (by simp), line_no1]
                    · rfl
                    · rw [List.cons_append, ← e.1]; exact hq _
                rw [hz]; rfl
              · have h0 : s ≠ [] ∨ c ≠ 13 := by
                  rcases Classical.em (s = []) with h | h
                  · exact .inr fun h' => h13 ⟨h, h'⟩
                  · exact .inl h
                have hz : byL (mayL (st1 st fs)) (fun s t => if s = [] then if (st1 st fs).ends = true then R3.ok (st1 st fs) t else R3.bad else if (lineL (st1 st fs) s).2 = true then goW (lineL (st1 st fs) s).1 t else R3.bad) (s ++ c :: t') = byL (fun _ => false) (fun _ _ => .bad) (s ++ c :: t') := by
                  refine byL_name ha hc ?_ (fun t h13 => ?_) (fun w t ht => ?_)
                  · rw [may1 st fs s c t' ha hc h0, hb]
                  · subst h13
                    have hs0 : s ≠ [] := h0.resolve_right (by simp)
                    rw [if_neg hs0, line_no1]
                    · rfl
                    · rw [may1 st fs s 13 [] ha hc h0, hb]
                  · rw [if_neg (by simp), line_no1]
                    · rfl
                    · rw [List.append_assoc, List.cons_append, may1 st fs s c _ ha hc h0, hb]
                rw [hz]
                have := byL_bad (α := RL) (m := fun _ => false) (k := fun _ _ => .bad) (r := s ++ c :: t') (fun _ => rfl) (fun _ _ _ _ => rfl)
                rw [this]; rfl
            · rw [if_neg hbad]
              simp only [Bool.or_eq_true, decide_eq_true_eq, not_or] at hbad
              obtain ⟨⟨hs0, hown⟩, hlt⟩ := hbad
              have hown : ownN s = false := by simpa using hown
              have hmf2 : ∀ w, mayF (noBody st) fs.length s c w = (decide (c = 58) && partV w) := by
                intro w
                rw [hmf, hown]
                simp [hs0, show fs.length < 24 by omega]
              by_cases h58 : c = 58
              · subst h58
                rw [csB, text_cons, if_pos rfl, R3.bind_bind, R3.bind_bind]
                simp only [R3.bind_ok, hown, Bool.false_eq_true, if_false]
                have hin : ∀ (g : Bs → Bs → R3 (Rs × Bool)), ((textL [32] t').bind fun _ t => (valL t).bind g) = byL partV (fun l t => if partV (l ++ [13]) then g (l.drop 1) t else .bad) t' := by
                  intro g
                  have h := congrArg (fun x => R3.bind x g) (val_line t')
                  simp only [R3.bind_bind, byL_bind] at h
                  rw [h]
                  refine byL_congr (fun _ => rfl) (fun l t e hl => ?_)
                  by_cases hr : partV (l ++ [13]) <;> simp [hr, R3.bind]
                have e1 : ((textL [32] t').bind fun _ t => ((valL t).bind fun v t => fldsL (noBody st) n (fs ++ [(s, v)]) t).bind fun x t => tailL head st x.1 x.2 t) = (textL [32] t').bind fun _ t => (valL t).bind fun v t => (fldsL (noBody st) n (fs ++ [(s, v)]) t).bind fun x t => tailL head st x.1 x.2 t := by
                  congr 1
                  funext _ t
                  rw [R3.bind_bind]
                rw [e1, hin, goW_eq, byL_bind, byL_app _ _ s t' 58 (by decide) (by simp only [List.mem_append, List.mem_singleton, not_or]; exact ⟨all_no tkB 10 (by decide) s ha, by decide⟩)]
                refine byL_congr (fun _ => ?_) (fun l t e hl => ?_)
                · rw [may1 st fs s 58 t' ha hc (.inl hs0), hmf2]; simp
                · rw [if_neg (show s ++ 58 :: l ≠ [] by simp)]
                  have hm : mayL (st1 st fs) (s ++ 58 :: l ++ [13]) = partV (l ++ [13]) := by
                    rw [List.append_assoc, List.cons_append, may1 st fs s 58 _ ha hc (.inl hs0), hmf2]; simp
                  by_cases hp : partV (l ++ [13]) = true
                  · rw [if_pos hp]
                    have hne : ∀ T y, T.all tkB = true → ownN T = true → s ++ 58 :: l ≠ T ++ 58 :: y := by
                      intro T y hT hoT e2
                      have := ((app_ne s 58 l T y ha hc hT).1 e2).1
                      rw [this, hoT] at hown
                      cases hown
                    have hfl : fldOf (s ++ 58 :: l) = (s, l.drop 1) := by
                      have h58 : s.all (fun b => decide (b ≠ 58)) = true := by
                        rw [List.all_eq_true] at ha ⊢
                        intro x hx
                        simpa using (tk_no x (ha x hx)).2.2.2
                      obtain ⟨q1, q2⟩ := take_app (fun b => decide (b ≠ 58)) 58 (by decide) l s h58
                      unfold fldOf
                      rw [q1, q2]; rfl
                    have hl2 : lineL (st1 st fs) (s ++ 58 :: l) = (st1 st (fs ++ [(s, l.drop 1)]), true) := by
                      unfold lineL
                      rw [hm, hp, if_neg (by simp), if_neg (show ¬ (st1 st fs).row = 0 from (by decide : ¬ (1 : Int) = 0)), if_neg, if_neg (show s ++ 58 :: l ≠ teS from hne teN (32 :: chunkedB) tk_te own_te), if_neg (show s ++ 58 :: l ≠ ccS from hne coN (32 :: closeB) tk_co own_co), if_neg (show s ++ 58 :: l ≠ ckS from hne coN (32 :: keepB) tk_co own_co), hfl]
                      · rfl
                      · rw [show clS = clN ++ 58 :: [32] from rfl, (pre_tok s 58 l ha hc clN tk_cl _).2]
                        have : s ≠ clN := by rintro rfl; rw [own_cl] at hown; cases hown
                        simp [this]
                    rw [hl2, if_pos rfl]
                    refine flds_same st head n (fs ++ [(s, l.drop 1)]) t ?_
                    have := congrArg List.length e
                    simp at this hn
                    omega
                  · rw [if_neg hp, line_no1]
                    · rfl
                    · rw [hm]; simpa using hp
              · rw [csB, text_cons, if_neg h58, R3.bind_bad, R3.bind_bad, R3.bind_bad, goW_eq]
                have hz : byL (mayL (st1 st fs)) (fun s t => if s = [] then if (st1 st fs).ends = true then R3.ok (st1 st fs) t else R3.bad else if (lineL (st1 st fs) s).2 = true then goW (lineL (st1 st fs) s).1 t else R3.bad) (s ++ c :: t') = byL (fun _ => false) (fun _ _ => .bad) (s ++ c :: t') := by
                  refine byL_name ha hc ?_ (fun t h13 => ?_) (fun w t ht => ?_)
                  · rw [may1 st fs s c t' ha hc (.inl hs0), mayF_c _ _ _ _ _ h58]
                  · rw [if_neg hs0, line_no1]
                    · rfl
                    · rw [h13] at hc
                      rw [may1 st fs s 13 [] ha hc (.inl hs0), mayF_c _ _ _ _ _ (by decide)]
                  · rw [if_neg (by simp), line_no1]
                    · rfl
                    · rw [List.append_assoc, List.cons_append, may1 st fs s c _ ha hc (.inl hs0), mayF_c _ _ _ _ _ h58]
                rw [hz]
                have := byL_bad (α := RL) (m := fun _ => false) (k := fun _ _ => .bad) (r := s ++ c :: t') (fun _ => rfl) (fun _ _ _ _ => rfl)
                rw [this]; rfl
theorem may0 (s : Bs) : mayL rl0 s = (firstL s).2.2 := rfl
/-- Both readers tell the same. -/
theorem whol_same (head : Bool) (r : Bs) : wholL head r = (goW rl0 r).bind (bodR head) := by
  unfold wholL
  rw [stat_line, byL_bind, goW_eq, byL_bind]
  refine byL_congr (fun _ => rfl) (fun l t e hl => ?_)
  by_cases h : l = []
  · subst h
    rw [if_pos rfl, if_neg (by decide), if_neg (by decide)]; rfl
  · rw [if_neg h]
    have hline : lineL rl0 l = if (firstL (l ++ [13])).2.2 then (st1 (firstL l).1 [], (firstL l).2.1) else (rl0, false) := by
      unfold lineL
      rw [may0]
      cases (firstL (l ++ [13])).2.2
      · rfl
      · rfl
    rw [hline]
    by_cases h1 : (firstL (l ++ [13])).2.2 = true
    · by_cases h2 : (firstL l).2.1 = true
      · rw [h1, h2, if_pos rfl, if_pos (show (true && true) = true from rfl), if_pos (show (st1 (firstL l).1 [], true).2 = true from rfl), R3.bind_ok]
        exact flds_same (firstL l).1 head (t.length + 1) [] t (by omega)
      · rw [h1, if_pos rfl, if_neg (by simpa using h2), if_neg (by simpa using h2)]; rfl
    · rw [if_neg (by simpa using fun e => absurd e h1), if_neg h1, if_neg (by simp)]; rfl
theorem read_same (head : Bool) (b : Bs) : readR head b = readL head b := by
  unfold readR readL
  rw [whol_same]; rfl
end Go.Proofs.YtmjekdnfkgalbaaGreatDoor

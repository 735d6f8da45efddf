/- Bodies in chunks in plain words, on: whole bodies, trailers. -/
import Derived.Test.YtfapnppgbhlidaaGreatDoorKPl2
namespace Go.Proofs.YtfapnppgbhlidaaGreatDoor
open Go.RowKit
set_option maxRecDepth 100000

theorem encP_nil : encP [] = [] := by simp [encP]
theorem feed_parts : ∀ (ps : List Bs) (rest : Bs) (r : CS), r.on = true → r.place = 0 → r.line = [] → (∀ p ∈ ps, p.length < 16777216) →
    (r.body.length + ps.flatten.length ≤ 2048 → ∃ k, cFeed r (ps.flatMap encP ++ rest) = ((ps.flatMap encP).length + (cFeed { r with body := r.body ++ ps.flatten, left := k } rest).1, (cFeed { r with body := r.body ++ ps.flatten, left := k } rest).2) ∧ (k = 0 ∨ k = r.left)) ∧
    (2048 < r.body.length + ps.flatten.length → r.body.length ≤ 2048 → (cFeed r (ps.flatMap encP ++ rest)).2.whole = false ∧ (cFeed r (ps.flatMap encP ++ rest)).2.status = 413)
  | [], rest, r, h, hp, hl, hm => by
    constructor
    · intro _
      refine ⟨r.left, ?_, .inr rfl⟩
      simp
    · intro h1 h2
      simp at h1
      omega
  | p :: ps, rest, r, h, hp, hl, hm => by
    have hm' : ∀ x ∈ ps, x.length < 16777216 := fun x hx => hm x (by simp [hx])
    rcases Nat.eq_zero_or_pos p.length with h0 | h0
    · obtain rfl : p = [] := List.eq_nil_of_length_eq_zero h0
      have ih := feed_parts ps rest r h hp hl hm'
      rw [List.flatMap_cons, encP_nil, List.nil_append, List.flatten_cons, List.nil_append]
      exact ih
    · obtain ⟨f1, f2⟩ := feed_part p (ps.flatMap encP ++ rest) r h hp hl h0 (hm p (by simp))
      rw [List.flatMap_cons, List.flatten_cons, List.append_assoc, List.length_append]
      constructor
      · intro hb
        rw [f1 (by omega)]
        obtain ⟨k, hk, hk2⟩ := (feed_parts ps rest { r with body := r.body ++ p, left := 0 } h hp hl hm').1 (by simp only [List.length_append]; omega)
        refine ⟨k, ?_, by rcases hk2 with h | h <;> exact .inl h⟩
        rw [hk]
        simp only [List.append_assoc, List.length_append]
        exact Prod.ext (by simp only; omega) rfl
      · intro hb hb2
        by_cases hx : r.body.length + p.length ≤ 2048
        · rw [f1 hx]
          exact (feed_parts ps rest { r with body := r.body ++ p, left := 0 } h hp hl hm').2 (by simp only [List.length_append]; omega) (by simp only [List.length_append]; omega)
        · exact f2 (by omega)
theorem size_zero : sizeL [48] = some 0 := by decide +kernel
/-- The last chunk's line. -/
theorem feed_last (rest : Bs) (r : CS) (h : r.on = true) (hp : r.place = 0) (hl : r.line = []) (hb : r.body.length ≤ 2048) : cFeed r (48 :: 13 :: 10 :: rest) = (3 + (cFeed { r with place := 3 } rest).1, (cFeed { r with place := 3 } rest).2) := by
  have f1 := feed_line [48] (13 :: 10 :: rest) r h (.inl ⟨hp, by rw [hl]; simp⟩) (by decide)
  have f2 := feed_crlf rest { r with line := r.line ++ [48] } h (.inl hp) ⟨fun _ => by rw [hl]; simp, fun h3 => by simp only at h3; omega⟩
  have hcl : cLine { r with line := (r.line ++ [48]) ++ [13] } 10 = cSize { r with line := [] } [48] := by
    rw [cLine, if_pos rfl]
    simp only [List.getLast?_append, List.getLast?_singleton, Option.some_or, if_true, List.dropLast_concat, hl, List.nil_append]
    rw [if_pos hp]
  rw [show (48 :: 13 :: 10 :: rest : Bs) = [48] ++ (13 :: 10 :: rest) from rfl, f1]
  simp only at f2
  rw [f2, hcl, cSize, size_zero]
  simp only [if_true]
  rw [if_neg (by omega)]
  have hs : ({ r with line := [], place := 3 } : CS) = { r with place := 3 } := by
    cases r; simp only at hl; subst hl; rfl
  rw [hs]
  exact Prod.ext (by simp only [List.length_cons, List.length_nil]; omega) rfl
/-- The empty line. -/
theorem feed_done (rest : Bs) (r : CS) (h : r.on = true) (hp : r.place = 3) (hl : r.line = []) (he : r.ends ≤ 512) : cFeed r (13 :: 10 :: rest) = (2, { r with whole := true }) := by
  have f2 := feed_crlf rest r h (.inr hp) ⟨fun h3 => by omega, fun _ => by rw [hl]; simp; omega⟩
  have hcl : cLine { r with line := r.line ++ [13] } 10 = { r with line := [], whole := true } := by
    rw [cLine, if_pos rfl]
    simp only [List.getLast?_singleton, if_true, hl, List.nil_append]
    rw [if_neg (by omega)]
    exact if_pos rfl
  rw [f2, hcl, cFeed_off _ _ (by simp [CS.on])]
  have hs : ({ r with line := [], whole := true } : CS) = { r with whole := true } := by
    cases r; simp only at hl; subst hl; rfl
  rw [hs]
  rfl
theorem enc_ok (ps : List Bs) (rest : Bs) (hm : ∀ p ∈ ps, p.length < 16777216) (hb : ps.flatten.length ≤ 2048) : ∃ k, cFeed cs0 (encL ps ++ rest) = ((encL ps).length, { cs0 with body := ps.flatten, place := 3, left := k, whole := true }) := by
  obtain ⟨k, hk, -⟩ := (feed_parts ps (48 :: 13 :: 10 :: 13 :: 10 :: rest) cs0 rfl rfl rfl hm).1 (by simpa [cs0] using hb)
  refine ⟨k, ?_⟩
  rw [encL, List.append_assoc, show ([48, 13, 10, 13, 10] ++ rest : Bs) = 48 :: 13 :: 10 :: 13 :: 10 :: rest from rfl, hk]
  rw [feed_last _ { cs0 with body := cs0.body ++ ps.flatten, left := k } rfl rfl rfl (by simpa [cs0] using hb), feed_done _ { cs0 with body := cs0.body ++ ps.flatten, left := k, place := 3 } rfl rfl rfl (by simp [cs0])]
  exact Prod.ext (by simp only [List.length_append, List.length_cons, List.length_nil]) rfl
theorem enc_big (ps : List Bs) (rest : Bs) (hm : ∀ p ∈ ps, p.length < 16777216) (hb : 2048 < ps.flatten.length) : (cFeed cs0 (encL ps ++ rest)).2.whole = false ∧ (cFeed cs0 (encL ps ++ rest)).2.status = 413 := by
  rw [encL, List.append_assoc]
  exact (feed_parts ps ([48, 13, 10, 13, 10] ++ rest) cs0 rfl rfl rfl hm).2 (by simpa [cs0] using hb) (by simp [cs0])
/-! ### Trailers -/
def trlL (f : Fd) : Bs := f.1 ++ [58, 32] ++ f.2 ++ [13, 10]
def trlS (l : List Fd) : Nat := (l.flatMap trlL).length
theorem tok_no58 (s : Bs) (h : allT s = true) : ∀ c ∈ s, c ≠ 58 ∧ c ≠ 10 := by
  intro c hc
  rw [allT, List.all_eq_true] at h
  have h1 := h c hc
  constructor
  · rintro rfl; revert h1; decide
  · rintro rfl; revert h1; decide
theorem val_no10 (s : Bs) (h : allV s = true) : ∀ c ∈ s, c ≠ 10 := by
  intro c hc
  rw [allV, List.all_eq_true] at h
  have h1 := h c hc
  rintro rfl; revert h1; decide
theorem isF_parts (f : Fd) (h : isF f = true) : allT f.1 = true ∧ 0 < f.1.length ∧ allV f.2 = true ∧ trimL f.2 = f.2 := by
  rw [isF, tkL] at h
  simp only [Bool.and_eq_true, decide_eq_true_eq] at h
  exact ⟨h.1.1, h.1.2, h.2.1, h.2.2⟩
theorem takeWhile_58 (a r : Bs) (h : ∀ c ∈ a, c ≠ 58) : (a ++ 58 :: r).takeWhile (· != 58) = a ∧ (a ++ 58 :: r).dropWhile (· != 58) = 58 :: r := by
  induction a with
  | nil => simp
  | cons c a ih =>
    have h1 : (c != 58) = true := by rw [bne_iff_ne]; exact h c (by simp)
    obtain ⟨i1, i2⟩ := ih fun x hx => h x (by simp [hx])
    rw [List.cons_append, List.takeWhile_cons, List.dropWhile_cons, h1, if_pos rfl, if_pos rfl, i1, i2]
    exact ⟨rfl, rfl⟩
theorem parse_back (f : Fd) (h : isF f = true) (hl : f.1.length + f.2.length + 2 ≤ 256) : parseF (f.1 ++ [58, 32] ++ f.2) = some f := by
  obtain ⟨h1, -, -, h4⟩ := isF_parts f h
  have e : f.1 ++ [58, 32] ++ f.2 = f.1 ++ 58 :: (32 :: f.2) := by simp
  obtain ⟨t1, t2⟩ := takeWhile_58 f.1 (32 :: f.2) fun c hc => (tok_no58 _ h1 c hc).1
  have ht : trimL (32 :: f.2) = f.2 := by
    rw [trimL, trimF, List.dropWhile_cons, show isB 32 = true by decide, if_pos rfl]
    exact h4
  rw [e, parseF, if_neg (by simp; omega), if_pos (by simp), t1, t2, List.tail_cons, ht]
  simp only
  rw [if_pos h]
theorem feed_trailer (f : Fd) (rest : Bs) (r : CS) (h : r.on = true) (hp : r.place = 3) (hl : r.line = []) (hf : isF f = true) (hs : f.1.length + f.2.length ≤ 100) (he : r.ends + (trlL f).length ≤ 512) :
    cFeed r (trlL f ++ rest) = ((trlL f).length + (cFeed (cTrailer r (f.1 ++ [58, 32] ++ f.2)) rest).1, (cFeed (cTrailer r (f.1 ++ [58, 32] ++ f.2)) rest).2) := by
  obtain ⟨h1, -, h3, -⟩ := isF_parts f hf
  have hlen : (trlL f).length = f.1.length + f.2.length + 4 := by rw [trlL]; simp; omega
  have hsl : (f.1 ++ [58, 32] ++ f.2).length = f.1.length + f.2.length + 2 := by simp; omega
  generalize hsd : f.1 ++ [58, 32] ++ f.2 = s at *
  have e : trlL f ++ rest = s ++ (13 :: 10 :: rest) := by rw [trlL, hsd]; simp
  have hc : ∀ c ∈ s, c ≠ 10 := by
    intro c hc
    rw [← hsd] at hc
    simp only [List.mem_append, List.mem_cons, List.not_mem_nil, or_false] at hc
    rcases hc with (hc | rfl | rfl) | hc
    · exact (tok_no58 _ h1 c hc).2
    · decide
    · decide
    · exact val_no10 _ h3 c hc
  have f1 := feed_line s (13 :: 10 :: rest) r h (.inr ⟨hp, by rw [hl]; simp; omega, by rw [hl]; simp; omega⟩) hc
  have f2 := feed_crlf rest { r with line := r.line ++ s } h (.inr hp) ⟨fun h3 => by simp only at h3; omega, fun _ => by rw [hl]; simp; omega⟩
  have hcl : cLine { r with line := (r.line ++ s) ++ [13] } 10 = cTrailer r s := by
    rw [cLine, if_pos rfl]
    simp only [List.getLast?_append, List.getLast?_singleton, Option.some_or, if_true, List.dropLast_concat, hl, List.nil_append]
    rw [if_neg (by omega), if_neg (by rintro rfl; simp at hsl)]
    have hs : ({ r with line := [] } : CS) = r := by cases r; simp only at hl; subst hl; rfl
    rw [hs]
  rw [e, f1]
  simp only at f2
  rw [f2, hcl, hlen]
  exact Prod.ext (by simp only; omega) rfl
theorem feed_trailers : ∀ (l : List Fd) (rest : Bs) (r : CS), r.on = true → r.place = 3 → r.line = [] → (∀ f ∈ l, isF f = true ∧ f.1.length + f.2.length ≤ 100) → r.ends + trlS l ≤ 512 → r.trs.length + l.length ≤ 8 →
    cFeed r (l.flatMap trlL ++ rest) = (trlS l + (cFeed { r with trs := r.trs ++ l, ends := r.ends + trlS l } rest).1, (cFeed { r with trs := r.trs ++ l, ends := r.ends + trlS l } rest).2)
  | [], rest, r, _, _, _, _, _, _ => by simp [trlS]
  | f :: l, rest, r, h, hp, hl, hf, he, h8 => by
    obtain ⟨hf1, hf2⟩ := hf f (by simp)
    have hS : trlS (f :: l) = (trlL f).length + trlS l := by simp [trlS]
    have hlen : (trlL f).length = f.1.length + f.2.length + 4 := by rw [trlL]; simp; omega
    have hsl : (f.1 ++ [58, 32] ++ f.2).length = f.1.length + f.2.length + 2 := by simp; omega
    rw [List.length_cons] at h8
    rw [List.flatMap_cons, List.append_assoc, feed_trailer f _ r h hp hl hf1 hf2 (by omega), cTrailer, parse_back f hf1 (by omega)]
    simp only
    rw [if_neg (by omega), hsl]
    have ih := feed_trailers l rest { r with ends := r.ends + (f.1.length + f.2.length + 2) + 2, trs := r.trs ++ [f] } h hp hl (fun x hx => hf x (by simp [hx])) (by simp only; omega) (by simp only [List.length_append, List.length_cons, List.length_nil]; omega)
    rw [ih, hS]
    simp only [List.append_assoc, List.singleton_append]
    rw [show r.ends + (f.1.length + f.2.length + 2) + 2 + trlS l = r.ends + ((trlL f).length + trlS l) by omega]
    exact Prod.ext (by simp only; omega) rfl
/-- A ninth trailer. -/
theorem feed_nine (l : List Fd) (rest : Bs) (r : CS) (h : r.on = true) (hp : r.place = 3) (hl : r.line = []) (ht : r.trs = []) (hf : ∀ f ∈ l, isF f = true ∧ f.1.length + f.2.length ≤ 100) (he : r.ends + trlS l ≤ 512) (h9 : 8 < l.length) :
    (cFeed r (l.flatMap trlL ++ rest)).2.whole = false ∧ (cFeed r (l.flatMap trlL ++ rest)).2.status = 431 ∧ (cFeed r (l.flatMap trlL ++ rest)).2.trs.length = 8 := by
  obtain ⟨a, f, b, e, ha⟩ : ∃ a f b, l = a ++ f :: b ∧ a.length = 8 := by
    refine ⟨l.take 8, l[8], l.drop 9, ?_, by simp; omega⟩
    rw [← List.drop_eq_getElem_cons (by omega), List.take_append_drop]
  subst e
  have hw : r.whole = false := by unfold CS.on at h; simp at h; exact h.1
  have hS : trlS (a ++ f :: b) = trlS a + ((trlL f).length + trlS b) := by simp [trlS]
  obtain ⟨hf1, hf2⟩ := hf f (by simp)
  have hlen : (trlL f).length = f.1.length + f.2.length + 4 := by rw [trlL]; simp; omega
  rw [List.flatMap_append, List.flatMap_cons, List.append_assoc, List.append_assoc]
  rw [feed_trailers a _ r h hp hl (fun x hx => hf x (by simp [hx])) (by omega) (by rw [ht]; simp; omega)]
  rw [feed_trailer f _ { r with trs := r.trs ++ a, ends := r.ends + trlS a } h hp hl hf1 hf2 (by simp only; omega), cTrailer, parse_back f hf1 (by omega)]
  simp only
  rw [if_pos (by right; rw [ht]; simpa using ha), cFeed_off _ _ (by simp [CS.on])]
  exact ⟨hw, rfl, by simp only; rw [ht]; simpa using ha⟩
end Go.Proofs.YtfapnppgbhlidaaGreatDoor

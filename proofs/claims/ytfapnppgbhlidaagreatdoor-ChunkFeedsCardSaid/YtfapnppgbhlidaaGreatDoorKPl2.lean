/- Bodies in chunks in plain words, on: portions; what is encoded is read again. -/
import Derived.Test.YtfapnppgbhlidaaGreatDoorKPl
import Derived.Test.YtfapnppgbhlidaaGreatDoorNum
namespace Go.Proofs.YtfapnppgbhlidaaGreatDoor
open Go.RowKit
set_option maxRecDepth 100000

def CS.on (r : CS) : Bool := !r.whole && decide (r.status = 0)
theorem CS.on_iff (r : CS) : r.on = true ↔ ¬ (r.whole = true ∨ r.status ≠ 0) := by
  unfold CS.on
  cases r.whole <;> simp
theorem cFeed_off (r : CS) (p : Bs) (h : r.on = false) : cFeed r p = (0, r) := by
  cases p with
  | nil => rfl
  | cons c p =>
    rw [cFeed, if_pos]
    apply Classical.byContradiction
    intro h2
    rw [(CS.on_iff r).2 h2] at h
    cases h
theorem cFeed_on (r : CS) (c : UInt8) (p : Bs) (h : r.on = true) : cFeed r (c :: p) = ((cFeed (cByte r c) p).1 + 1, (cFeed (cByte r c) p).2) := by
  rw [cFeed, if_neg ((CS.on_iff r).1 h)]
theorem cFeed_le : ∀ (p : Bs) (r : CS), (cFeed r p).1 ≤ p.length
  | [], r => Nat.le_refl _
  | c :: p, r => by
    cases h : r.on
    · rw [cFeed_off r _ h]; simp
    · rw [cFeed_on r c p h]
      have := cFeed_le p (cByte r c)
      simp; omega
/-- All is taken where it goes on. -/
theorem cFeed_all : ∀ (p : Bs) (r : CS), (cFeed r p).2.on = true → (cFeed r p).1 = p.length
  | [], r, _ => rfl
  | c :: p, r, h => by
    cases h2 : r.on
    · rw [cFeed_off r _ h2] at h; rw [h2] at h; cases h
    · rw [cFeed_on r c p h2] at h ⊢
      have := cFeed_all p (cByte r c) h
      simp; omega
/-- In portions. -/
theorem cFeed_app : ∀ (a b : Bs) (r : CS), cFeed r (a ++ b) = if (cFeed r a).2.on then (a.length + (cFeed (cFeed r a).2 b).1, (cFeed (cFeed r a).2 b).2) else cFeed r a
  | [], b, r => by
    cases h : r.on
    · rw [List.nil_append, cFeed_off r b h]; simp [cFeed, h]
    · simp [cFeed, h]
  | c :: a, b, r => by
    cases h : r.on
    · rw [cFeed_off r _ h, cFeed_off r _ h]; simp [h]
    · rw [List.cons_append, cFeed_on r c _ h, cFeed_on r c a h, cFeed_app a b (cByte r c)]
      cases h2 : (cFeed (cByte r c) a).2.on
      · simp
      · simp; omega
/-! ### A line -/
/-- A line's bytes are gathered. -/
theorem feed_line : ∀ (s rest : Bs) (r : CS), r.on = true → (r.place = 0 ∧ r.line.length + s.length ≤ 64 ∨ r.place = 3 ∧ r.line.length + s.length ≤ 256 ∧ r.ends + (r.line.length + s.length) ≤ 512) → (∀ c ∈ s, c ≠ 10) →
    cFeed r (s ++ rest) = (s.length + (cFeed { r with line := r.line ++ s } rest).1, (cFeed { r with line := r.line ++ s } rest).2)
  | [], rest, r, _, _, _ => by simp
  | c :: s, rest, r, h, hp, hc => by
    have h10 := hc c (by simp)
    rw [List.length_cons] at hp
    have hb : cByte r c = { r with line := r.line ++ [c] } := by
      rw [cByte, if_neg (by omega), if_neg (by omega), cLine, if_neg h10]
      simp only
      rw [if_neg, if_neg]
      · rintro ⟨h1, h2⟩
        split at h2 <;> omega
      · rintro ⟨h1, h2⟩
        split at h2 <;> omega
    rw [List.cons_append, cFeed_on r c _ h, hb]
    have ih := feed_line s rest { r with line := r.line ++ [c] } h (by simp only [List.length_append, List.length_cons, List.length_nil]; omega) (fun x hx => hc x (by simp [hx]))
    rw [ih]
    simp only [List.append_assoc, List.singleton_append, List.length_cons]
    exact Prod.ext (by simp only; omega) rfl
theorem cByte_data (r : CS) (c : UInt8) (hp : r.place = 1) (hl : r.left ≠ 1) : cByte r c = { r with body := r.body ++ [c], left := r.left - 1 } := by
  rw [cByte, if_pos hp, if_neg hl]
/-- Data. -/
theorem feed_data : ∀ (p rest : Bs) (r : CS), r.on = true → r.place = 1 → r.left = p.length → 0 < p.length →
    cFeed r (p ++ rest) = (p.length + (cFeed { r with body := r.body ++ p, place := 2, left := 2 } rest).1, (cFeed { r with body := r.body ++ p, place := 2, left := 2 } rest).2)
  | [], _, _, _, _, _, h0 => by simp at h0
  | [c], rest, r, h, hp, hl, _ => by
    rw [List.singleton_append, cFeed_on r c _ h, cByte, if_pos hp, if_pos (by simpa using hl)]
    exact Prod.ext (by simp only [List.length_cons, List.length_nil]; omega) rfl
  | c :: d :: p, rest, r, h, hp, hl, _ => by
    rw [List.length_cons, List.length_cons] at hl
    rw [List.cons_append, cFeed_on r c _ h, cByte_data r c hp (by omega)]
    have ih := feed_data (d :: p) rest { r with body := r.body ++ [c], left := r.left - 1 } h hp (by simp only [List.length_cons]; omega) (by simp)
    rw [ih]
    simp only [List.append_assoc, List.singleton_append, List.length_cons]
    exact Prod.ext (by simp only; omega) rfl
/-- What stands behind data. -/
theorem feed_end (rest : Bs) (r : CS) (h : r.on = true) (hp : r.place = 2) (hl : r.left = 2) : cFeed r (13 :: 10 :: rest) = (2 + (cFeed { r with place := 0, left := 0 } rest).1, (cFeed { r with place := 0, left := 0 } rest).2) := by
  have b1 : cByte r 13 = { r with left := 1 } := by
    rw [cByte, if_neg (by omega), if_pos hp, hl]
    simp
  have b2 : cByte { r with left := 1 } 10 = { r with place := 0, left := 0 } := by
    rw [cByte, if_neg (by simp only; omega), if_pos (by simpa using hp)]
    simp
  rw [cFeed_on r 13 _ h, b1, cFeed_on { r with left := 1 } 10 _ h, b2]
  exact Prod.ext (by simp only; omega) rfl
/-- The end of a line. -/
theorem feed_crlf (rest : Bs) (r : CS) (h : r.on = true) (hp : r.place = 0 ∨ r.place = 3) (hl : (r.place = 0 → r.line.length ≤ 64) ∧ (r.place = 3 → r.line.length ≤ 256 ∧ r.ends + r.line.length ≤ 512)) :
    cFeed r (13 :: 10 :: rest) = (2 + (cFeed (cLine { r with line := r.line ++ [13] } 10) rest).1, (cFeed (cLine { r with line := r.line ++ [13] } 10) rest).2) := by
  have b1 : cByte r 13 = { r with line := r.line ++ [13] } := by
    rw [cByte, if_neg (by omega), if_neg (by omega), cLine, if_neg (by decide)]
    simp only [if_true]
    rw [if_neg, if_neg]
    · rintro ⟨h1, h2⟩
      have := hl.2 h1; omega
    · rintro ⟨h1, h2⟩
      have := hl.1 h1; omega
  have b2 : cByte { r with line := r.line ++ [13] } 10 = cLine { r with line := r.line ++ [13] } 10 := by
    rw [cByte, if_neg (by simp only; omega), if_neg (by simp only; omega)]
  rw [cFeed_on r 13 _ h, b1, cFeed_on { r with line := r.line ++ [13] } 10 _ h, b2]
  exact Prod.ext (by simp only; omega) rfl
/-! ### Sizes in digits -/
theorem dch16 (d : Nat) (h : d < 16) : (0 ≤ digB (dch d).toNat) ∧ dch d ≠ 10 ∧ dch d ≠ 13 := by
  have : ∀ e : Fin 16, (0 ≤ digB (dch e.val).toNat) ∧ dch e.val ≠ 10 ∧ dch e.val ≠ 13 := by decide
  exact this ⟨d, h⟩
theorem digs16_mem : ∀ (f u : Nat), u < f → ∀ c ∈ digs 16 u, (0 ≤ digB c.toNat) ∧ c ≠ 10 ∧ c ≠ 13
  | 0, u, h => by omega
  | f + 1, u, h => by
    have hm : u % 16 < 16 := Nat.mod_lt _ (by omega)
    rw [digs_step 16 u (by omega)]
    split
    · intro c hc
      rw [List.mem_singleton] at hc
      rw [hc]; exact dch16 _ hm
    · intro c hc
      rcases List.mem_append.1 hc with hc | hc
      · exact digs16_mem f (u / 16) (by omega) c hc
      · rw [List.mem_singleton] at hc
        rw [hc]; exact dch16 _ hm
theorem back16' (u : Nat) (h : u < 140737488355328) : numR 16 12 (digs 16 u) = some (u : Int) := by
  have h1 := digs_pos 16 (by omega) u
  have h2 := digs_len' 16 (by omega) 11 u (by omega)
  rw [numR, if_neg (by omega)]
  exact digs_back 16 (by omega) (by omega) (u + 1) u (by omega)
theorem takeWhile_all {p : UInt8 → Bool} : ∀ (l : Bs), (∀ c ∈ l, p c = true) → l.takeWhile p = l
  | [], _ => rfl
  | c :: l, h => by rw [List.takeWhile_cons, h c (by simp), if_pos rfl, takeWhile_all l fun x hx => h x (by simp [hx])]
theorem size_digs (u : Nat) (h : u < 16777216) : sizeL (digs 16 u) = some (u : Int) := by
  have h1 := digs_pos 16 (by omega) u
  have h2 := digs_len' 16 (by omega) 5 u (by omega)
  have hh : hexN (digs 16 u) = (digs 16 u).length := by
    rw [hexN, takeWhile_all]
    intro c hc
    exact decide_eq_true (digs16_mem (u + 1) u (by omega) c hc).1
  rw [sizeL, hh, if_neg (by omega), List.drop_length, List.take_length, show parOk [] = true from rfl, if_pos rfl]
  exact back16' u (by omega)
/-! ### What is encoded -/
def encP (p : Bs) : Bs := if p = [] then [] else digs 16 p.length ++ [13, 10] ++ p ++ [13, 10]
def encL (ps : List Bs) : Bs := ps.flatMap encP ++ [48, 13, 10, 13, 10]
theorem feed_part (p rest : Bs) (r : CS) (h : r.on = true) (hp : r.place = 0) (hl : r.line = []) (h0 : 0 < p.length) (hm : p.length < 16777216) :
    (r.body.length + p.length ≤ 2048 → cFeed r (encP p ++ rest) = ((encP p).length + (cFeed { r with body := r.body ++ p, left := 0 } rest).1, (cFeed { r with body := r.body ++ p, left := 0 } rest).2)) ∧
    (2048 < r.body.length + p.length → (cFeed r (encP p ++ rest)).2.whole = false ∧ (cFeed r (encP p ++ rest)).2.status = 413) := by
  have hne : p ≠ [] := by rintro rfl; simp at h0
  have e : encP p ++ rest = digs 16 p.length ++ (13 :: 10 :: (p ++ (13 :: 10 :: rest))) := by rw [encP, if_neg hne]; simp
  have d1 := digs_pos 16 (by omega) p.length
  have d2 := digs_len' 16 (by omega) 5 p.length (by omega)
  have hd : ∀ c ∈ digs 16 p.length, c ≠ 10 := fun c hc => (digs16_mem (p.length + 1) p.length (by omega) c hc).2.1
  have hw : r.whole = false ∧ r.status = 0 := by
    unfold CS.on at h
    simpa using h
  have f1 := feed_line (digs 16 p.length) (13 :: 10 :: (p ++ (13 :: 10 :: rest))) r h (.inl ⟨hp, by rw [hl]; simp; omega⟩) hd
  have f2 := feed_crlf (p ++ (13 :: 10 :: rest)) { r with line := r.line ++ digs 16 p.length } h (.inl hp) ⟨fun _ => by rw [hl]; simp; omega, fun h3 => by simp only at h3; omega⟩
  have hcl : cLine { r with line := (r.line ++ digs 16 p.length) ++ [13] } 10 = cSize { r with line := [] } (digs 16 p.length) := by
    rw [cLine, if_pos rfl]
    simp only [List.getLast?_append, List.getLast?_singleton, Option.some_or, if_true, List.dropLast_concat, hl, List.nil_append]
    rw [if_pos hp]
  have hlen : (encP p).length = (digs 16 p.length).length + p.length + 4 := by rw [encP, if_neg hne]; simp; omega
  rw [e, f1]
  simp only at f2
  rw [f2, hcl, cSize, size_digs p.length hm]
  simp only
  constructor
  · intro hb
    have n1 : ¬ (2048 - (r.body.length : Int) < (p.length : Int)) := by omega
    have n2 : ¬ ((p.length : Int) = 0) := by omega
    rw [if_neg n1, if_neg n2]
    have f3 := feed_data p (13 :: 10 :: rest) { r with line := [], place := 1, left := p.length } h rfl rfl h0
    have f4 := feed_end rest { r with line := [], body := r.body ++ p, place := 2, left := 2 } h rfl rfl
    rw [show ((p.length : Int)).toNat = p.length by omega, f3]
    simp only at f4 ⊢
    rw [f4]
    have hs : ({ r with line := [], body := r.body ++ p, place := 0, left := 0 } : CS) = { r with body := r.body ++ p, left := 0 } := by
      cases r; simp only at hp hl; subst hp hl; rfl
    rw [hs, hlen]
    exact Prod.ext (by simp only; omega) rfl
  · intro hb
    have n1 : (2048 - (r.body.length : Int) < (p.length : Int)) := by omega
    rw [if_pos n1, cFeed_off _ _ (by simp [CS.on])]
    exact ⟨hw.1, rfl⟩
end Go.Proofs.YtfapnppgbhlidaaGreatDoor

/- Numbers in digits, and back; masks. Bodies in chunks in plain words, on: portions; what is encoded is read again. Bodies in chunks in plain words, on: whole bodies, trailers. Bodies in chunks in plain words, on: what holds of every Reader. -/
import Derived.Test.YtmjekdnfkgalbaaGreatDoorPlain
import Derived.Laws.BitsLemmas
import Derived.Test.YtmjekdnfkgalbaaGreatDoorFPl
namespace Go.Proofs.YtmjekdnfkgalbaaGreatDoor
open Go.RowKit
set_option maxRecDepth 100000
set_option maxHeartbeats 2000000

theorem numF_snoc (base : Int) (c : UInt8) : ∀ (l : Bs) (n : Int), numF base (l ++ [c]) n = (numF base l n).bind fun m => if digB c.toNat < 0 ∨ base ≤ digB c.toNat then none else some (m * base + digB c.toNat)
  | [], n => by
    simp only [List.nil_append, numF, Option.bind_some]
  | b :: r, n => by
    simp only [List.cons_append, numF]
    split
    · rfl
    · exact numF_snoc base c r _
theorem dch_dig (d : Nat) (h : d < 16) : digB (dch d).toNat = (d : Int) := by
  have : ∀ e : Fin 16, digB (dch e.val).toNat = (e.val : Int) := by decide
  exact this ⟨d, h⟩
theorem digs_back (b : Nat) (hb : 2 ≤ b) (hb16 : b ≤ 16) : ∀ (f u : Nat), u < f → numF b (digs b u) 0 = some (u : Int)
  | 0, u, h => by omega
  | f + 1, u, h => by
    have hd := dch_dig (u % b) (Nat.lt_of_lt_of_le (Nat.mod_lt _ (by omega)) hb16)
    have hm : u % b < b := Nat.mod_lt _ (by omega)
    have hu := Nat.div_add_mod u b
    rw [digs_step b u hb]
    split
    · rename_i h0
      simp only [numF, hd]
      rw [if_neg (by omega)]
      congr 1
      rw [h0] at hu
      simp only [Nat.mul_zero, Nat.zero_add] at hu
      omega
    · rename_i h0
      have hlt : u / b < u := Nat.div_lt_self (by rcases Nat.eq_zero_or_pos u with h1 | h1; subst h1; simp at h0; exact h1) (by omega)
      rw [numF_snoc, digs_back b hb hb16 f (u / b) (by omega), Option.bind_some, hd, if_neg (by omega)]
      congr 1
      have e : ((b * (u / b) + u % b : Nat) : Int) = (u : Int) := by rw [hu]
      rw [← e, Int.natCast_add, Int.natCast_mul, Int.mul_comm]
theorem digs_pos (b : Nat) (hb : 2 ≤ b) (u : Nat) : 0 < (digs b u).length := by
  rw [digs_step b u hb]
  split <;> simp
theorem digs_len' (b : Nat) (hb : 2 ≤ b) : ∀ (k u : Nat), u < b ^ (k + 1) → (digs b u).length ≤ k + 1
  | 0, u, h => by rw [digs_step b u hb, if_pos (Nat.div_eq_of_lt (by simpa using h))]; simp
  | k + 1, u, h => by
    rw [digs_step b u hb]
    split
    · simp
    · have := digs_len' b hb k (u / b) (Nat.div_lt_of_lt_mul (by rwa [Nat.pow_succ, Nat.mul_comm] at h))
      simp; omega
theorem back10 (u : Nat) (h : u < 140737488355328) : numR 10 15 (digs 10 u) = some (u : Int) := by
  have h1 := digs_pos 10 (by omega) u
  have h2 := digs_len' 10 (by omega) 14 u (by omega)
  rw [numR, if_neg (by omega)]
  exact digs_back 10 (by omega) (by omega) (u + 1) u (by omega)
theorem digs_bytes (b : Nat) (hb : 2 ≤ b) (hb10 : b ≤ 10) : ∀ (f u : Nat), u < f → ∀ c ∈ digs b u, 48 ≤ c.toNat ∧ c.toNat ≤ 57
  | 0, u, h => by omega
  | f + 1, u, h => by
    have hm : u % b < b := Nat.mod_lt _ (by omega)
    have hd : 48 ≤ (dch (u % b)).toNat ∧ (dch (u % b)).toNat ≤ 57 := by
      have : ∀ e : Fin 10, 48 ≤ (dch e.val).toNat ∧ (dch e.val).toNat ≤ 57 := by decide
      exact this ⟨u % b, by omega⟩
    rw [digs_step b u hb]
    split
    · intro c hc
      rw [List.mem_singleton] at hc
      rw [hc]; exact hd
    · rename_i h0
      have hlt : u / b < u := Nat.div_lt_self (by rcases Nat.eq_zero_or_pos u with h1 | h1; subst h1; simp at h0; exact h1) (by omega)
      intro c hc
      rcases List.mem_append.1 hc with hc | hc
      · exact digs_bytes b hb hb10 f (u / b) (by omega) c hc
      · rw [List.mem_singleton] at hc
        rw [hc]; exact hd
theorem i64_and1023 (n : Int) : bits .and .i64 n 1023 = n % 1024 := by
  have h : (BitVec.ofInt 64 1023).toNat = 2 ^ 10 - 1 := by decide
  have key : (BitVec.ofInt 64 n &&& BitVec.ofInt 64 1023).toNat = (n % ((2 ^ 64 : Nat) : Int)).toNat % 2 ^ 10 := by
    rw [BitVec.toNat_and, BitVec.toNat_ofInt, h, Nat.and_two_pow_sub_one_eq_mod]
  show IntKind.i64.wrap ((BitVec.ofInt 64 n &&& BitVec.ofInt 64 1023).toNat : Nat) = n % 1024
  rw [key, IntKind.wrap_i64]
  omega
theorem i64_and4095 (n : Int) : bits .and .i64 n 4095 = n % 4096 := by
  have h : (BitVec.ofInt 64 4095).toNat = 2 ^ 12 - 1 := by decide
  have key : (BitVec.ofInt 64 n &&& BitVec.ofInt 64 4095).toNat = (n % ((2 ^ 64 : Nat) : Int)).toNat % 2 ^ 12 := by
    rw [BitVec.toNat_and, BitVec.toNat_ofInt, h, Nat.and_two_pow_sub_one_eq_mod]
  show IntKind.i64.wrap ((BitVec.ofInt 64 n &&& BitVec.ofInt 64 4095).toNat : Nat) = n % 4096
  rw [key, IntKind.wrap_i64]
  omega
end Go.Proofs.YtmjekdnfkgalbaaGreatDoor
namespace Go.Proofs.YtmjekdnfkgalbaaGreatDoor
open Go.RowKit
set_option maxRecDepth 100000

def CS.on (r : CS) : Bool := !r.whole && decide (r.status = 0)
theorem CS.on_iff (r : CS) : r.on = true ↔ ¬ (r.whole = true ∨ r.status ≠ 0) := by
  unfold CS.on
  cases r.whole <;> simp
theorem cFeed_off (r : CS) (p : Bs) (h : r.on = false) : cFeed r p = (0, r) := by
  cases p with
  | nil => rfl
  | cons c p =>
    rw [cFeed, if_pos]
    apply Classical.byContradiction
    intro h2
    rw [(CS.on_iff r).2 h2] at h
    cases h
theorem cFeed_on (r : CS) (c : UInt8) (p : Bs) (h : r.on = true) : cFeed r (c :: p) = ((cFeed (cByte r c) p).1 + 1, (cFeed (cByte r c) p).2) := by
  rw [cFeed, if_neg ((CS.on_iff r).1 h)]
theorem cFeed_le : ∀ (p : Bs) (r : CS), (cFeed r p).1 ≤ p.length
  | [], r => Nat.le_refl _
  | c :: p, r => by
    cases h : r.on
    · rw [cFeed_off r _ h]; simp
    · rw [cFeed_on r c p h]
      have := cFeed_le p (cByte r c)
      simp; omega
/-- All is taken where it goes on. -/
theorem cFeed_all : ∀ (p : Bs) (r : CS), (cFeed r p).2.on = true → (cFeed r p).1 = p.length
  | [], r, _ => rfl
  | c :: p, r, h => by
    cases h2 : r.on
    · rw [cFeed_off r _ h2] at h; rw [h2] at h; cases h
    · rw [cFeed_on r c p h2] at h ⊢
      have := cFeed_all p (cByte r c) h
      simp; omega
/-- In portions. -/
theorem cFeed_app : ∀ (a b : Bs) (r : CS), cFeed r (a ++ b) = if (cFeed r a).2.on then (a.length + (cFeed (cFeed r a).2 b).1, (cFeed (cFeed r a).2 b).2) else cFeed r a
  | [], b, r => by
    cases h : r.on
    · rw [List.nil_append, cFeed_off r b h]; simp [cFeed, h]
    · simp [cFeed, h]
  | c :: a, b, r => by
    cases h : r.on
    · rw [cFeed_off r _ h, cFeed_off r _ h]; simp [h]
    · rw [List.cons_append, cFeed_on r c _ h, cFeed_on r c a h, cFeed_app a b (cByte r c)]
      cases h2 : (cFeed (cByte r c) a).2.on
      · simp
      · simp; omega
/-! ### A line -/
/-- A line's bytes are gathered. -/
theorem feed_line : ∀ (s rest : Bs) (r : CS), r.on = true → (r.place = 0 ∧ r.line.length + s.length ≤ 64 ∨ r.place = 3 ∧ r.line.length + s.length ≤ 256 ∧ r.ends + (r.line.length + s.length) ≤ 512) → (∀ c ∈ s, c ≠ 10) →
    cFeed r (s ++ rest) = (s.length + (cFeed { r with line := r.line ++ s } rest).1, (cFeed { r with line := r.line ++ s } rest).2)
  | [], rest, r, _, _, _ => by simp
  | c :: s, rest, r, h, hp, hc => by
    have h10 := hc c (by simp)
    rw [List.length_cons] at hp
    have hb : cByte r c = { r with line := r.line ++ [c] } := by
      rw [cByte, if_neg (by omega), if_neg (by omega), cLine, if_neg h10]
      simp only
      rw [if_neg, if_neg]
      · rintro ⟨h1, h2⟩
        split at h2 <;> omega
      · rintro ⟨h1, h2⟩
        split at h2 <;> omega
    rw [List.cons_append, cFeed_on r c _ h, hb]
    have ih := feed_line s rest { r with line := r.line ++ [c] } h (by simp only [List.length_append, List.length_cons, List.length_nil]; omega) (fun x hx => hc x (by simp [hx]))
    rw [ih]
    simp only [List.append_assoc, List.singleton_append, List.length_cons]
    exact Prod.ext (by simp only; omega) rfl
theorem cByte_data (r : CS) (c : UInt8) (hp : r.place = 1) (hl : r.left ≠ 1) : cByte r c = { r with body := r.body ++ [c], left := r.left - 1 } := by
  rw [cByte, if_pos hp, if_neg hl]
/-- Data. -/
theorem feed_data : ∀ (p rest : Bs) (r : CS), r.on = true → r.place = 1 → r.left = p.length → 0 < p.length →
    cFeed r (p ++ rest) = (p.length + (cFeed { r with body := r.body ++ p, place := 2, left := 2 } rest).1, (cFeed { r with body := r.body ++ p, place := 2, left := 2 } rest).2)
  | [], _, _, _, _, _, h0 => by simp at h0
  | [c], rest, r, h, hp, hl, _ => by
    rw [List.singleton_append, cFeed_on r c _ h, cByte, if_pos hp, if_pos (by simpa using hl)]
    exact Prod.ext (by simp only [List.length_cons, List.length_nil]; omega) rfl
  | c :: d :: p, rest, r, h, hp, hl, _ => by
    rw [List.length_cons, List.length_cons] at hl
    rw [List.cons_append, cFeed_on r c _ h, cByte_data r c hp (by omega)]
    have ih := feed_data (d :: p) rest { r with body := r.body ++ [c], left := r.left - 1 } h hp (by simp only [List.length_cons]; omega) (by simp)
    rw [ih]
    simp only [List.append_assoc, List.singleton_append, List.length_cons]
    exact Prod.ext (by simp only; omega) rfl
/-- What stands behind data. -/
theorem feed_end (rest : Bs) (r : CS) (h : r.on = true) (hp : r.place = 2) (hl : r.left = 2) : cFeed r (13 :: 10 :: rest) = (2 + (cFeed { r with place := 0, left := 0 } rest).1, (cFeed { r with place := 0, left := 0 } rest).2) := by
  have b1 : cByte r 13 = { r with left := 1 } := by
    rw [cByte, if_neg (by omega), if_pos hp, hl]
    simp
  have b2 : cByte { r with left := 1 } 10 = { r with place := 0, left := 0 } := by
    rw [cByte, if_neg (by simp only; omega), if_pos (by simpa using hp)]
    simp
  rw [cFeed_on r 13 _ h, b1, cFeed_on { r with left := 1 } 10 _ h, b2]
  exact Prod.ext (by simp only; omega) rfl
/-- The end of a line. -/
theorem feed_crlf (rest : Bs) (r : CS) (h : r.on = true) (hp : r.place = 0 ∨ r.place = 3) (hl : (r.place = 0 → r.line.length ≤ 64) ∧ (r.place = 3 → r.line.length ≤ 256 ∧ r.ends + r.line.length ≤ 512)) :
    cFeed r (13 :: 10 :: rest) = (2 + (cFeed (cLine { r with line := r.line ++ [13] } 10) rest).1, (cFeed (cLine { r with line := r.line ++ [13] } 10) rest).2) := by
  have b1 : cByte r 13 = { r with line := r.line ++ [13] } := by
    rw [cByte, if_neg (by omega), if_neg (by omega), cLine, if_neg (by decide)]
    simp only [if_true]
    rw [if_neg, if_neg]
    · rintro ⟨h1, h2⟩
      have := hl.2 h1; omega
    · rintro ⟨h1, h2⟩
      have := hl.1 h1; omega
  have b2 : cByte { r with line := r.line ++ [13] } 10 = cLine { r with line := r.line ++ [13] } 10 := by
    rw [cByte, if_neg (by simp only; omega), if_neg (by simp only; omega)]
  rw [cFeed_on r 13 _ h, b1, cFeed_on { r with line := r.line ++ [13] } 10 _ h, b2]
  exact Prod.ext (by simp only; omega) rfl
/-! ### Sizes in digits -/
theorem dch16 (d : Nat) (h : d < 16) : (0 ≤ digB (dch d).toNat) ∧ dch d ≠ 10 ∧ dch d ≠ 13 := by
  have : ∀ e : Fin 16, (0 ≤ digB (dch e.val).toNat) ∧ dch e.val ≠ 10 ∧ dch e.val ≠ 13 := by decide
  exact this ⟨d, h⟩
theorem digs16_mem : ∀ (f u : Nat), u < f → ∀ c ∈ digs 16 u, (0 ≤ digB c.toNat) ∧ c ≠ 10 ∧ c ≠ 13
  | 0, u, h => by omega
  | f + 1, u, h => by
    have hm : u % 16 < 16 := Nat.mod_lt _ (by omega)
    rw [digs_step 16 u (by omega)]
    split
    · intro c hc
      rw [List.mem_singleton] at hc
      rw [hc]; exact dch16 _ hm
    · intro c hc
      rcases List.mem_append.1 hc with hc | hc
      · exact digs16_mem f (u / 16) (by omega) c hc
      · rw [List.mem_singleton] at hc
        rw [hc]; exact dch16 _ hm
theorem back16' (u : Nat) (h : u < 140737488355328) : numR 16 12 (digs 16 u) = some (u : Int) := by
  have h1 := digs_pos 16 (by omega) u
  have h2 := digs_len' 16 (by omega) 11 u (by omega)
  rw [numR, if_neg (by omega)]
  exact digs_back 16 (by omega) (by omega) (u + 1) u (by omega)
theorem takeWhile_all {p : UInt8 → Bool} : ∀ (l : Bs), (∀ c ∈ l, p c = true) → l.takeWhile p = l
  | [], _ => rfl
  | c :: l, h => by rw [List.takeWhile_cons, h c (by simp), if_pos rfl, takeWhile_all l fun x hx => h x (by simp [hx])]
theorem size_digs (u : Nat) (h : u < 16777216) : sizeL (digs 16 u) = some (u : Int) := by
  have h1 := digs_pos 16 (by omega) u
  have h2 := digs_len' 16 (by omega) 5 u (by omega)
  have hh : hexN (digs 16 u) = (digs 16 u).length := by
    rw [hexN, takeWhile_all]
    intro c hc
    exact decide_eq_true (digs16_mem (u + 1) u (by omega) c hc).1
  rw [sizeL, hh, if_neg (by omega), List.drop_length, List.take_length, show parOk [] = true from rfl, if_pos rfl]
  exact back16' u (by omega)
/-! ### What is encoded -/
def encP (p : Bs) : Bs := if p = [] then [] else digs 16 p.length ++ [13, 10] ++ p ++ [13, 10]
def encL (ps : List Bs) : Bs := ps.flatMap encP ++ [48, 13, 10, 13, 10]
theorem feed_part (p rest : Bs) (r : CS) (h : r.on = true) (hp : r.place = 0) (hl : r.line = []) (h0 : 0 < p.length) (hm : p.length < 16777216) :
    (r.body.length + p.length ≤ 2048 → cFeed r (encP p ++ rest) = ((encP p).length + (cFeed { r with body := r.body ++ p, left := 0 } rest).1, (cFeed { r with body := r.body ++ p, left := 0 } rest).2)) ∧
    (2048 < r.body.length + p.length → (cFeed r (encP p ++ rest)).2.whole = false ∧ (cFeed r (encP p ++ rest)).2.status = 413) := by
  have hne : p ≠ [] := by rintro rfl; simp at h0
  have e : encP p ++ rest = digs 16 p.length ++ (13 :: 10 :: (p ++ (13 :: 10 :: rest))) := by rw [encP, if_neg hne]; simp
  have d1 := digs_pos 16 (by omega) p.length
  have d2 := digs_len' 16 (by omega) 5 p.length (by omega)
  have hd : ∀ c ∈ digs 16 p.length, c ≠ 10 := fun c hc => (digs16_mem (p.length + 1) p.length (by omega) c hc).2.1
  have hw : r.whole = false ∧ r.status = 0 := by
    unfold CS.on at h
    simpa using h
  have f1 := feed_line (digs 16 p.length) (13 :: 10 :: (p ++ (13 :: 10 :: rest))) r h (.inl ⟨hp, by rw [hl]; simp; omega⟩) hd
  have f2 := feed_crlf (p ++ (13 :: 10 :: rest)) { r with line := r.line ++ digs 16 p.length } h (.inl hp) ⟨fun _ => by rw [hl]; simp; omega, fun h3 => by simp only at h3; omega⟩
  have hcl : cLine { r with line := (r.line ++ digs 16 p.length) ++ [13] } 10 = cSize { r with line := [] } (digs 16 p.length) := by
    rw [cLine, if_pos rfl]
    simp only [List.getLast?_append, List.getLast?_singleton, Option.some_or, if_true, List.dropLast_concat, hl, List.nil_append]
    rw [if_pos hp]
  have hlen : (encP p).length = (digs 16 p.length).length + p.length + 4 := by rw [encP, if_neg hne]; simp; omega
  rw [e, f1]
  simp only at f2
  rw [f2, hcl, cSize, size_digs p.length hm]
  simp only
  constructor
  · intro hb
    have n1 : ¬ (2048 - (r.body.length : Int) < (p.length : Int)) := by omega
    have n2 : ¬ ((p.length : Int) = 0) := by omega
    rw [if_neg n1, if_neg n2]
    have f3 := feed_data p (13 :: 10 :: rest) { r with line := [], place := 1, left := p.length } h rfl rfl h0
    have f4 := feed_end rest { r with line := [], body := r.body ++ p, place := 2, left := 2 } h rfl rfl
    rw [show ((p.length : Int)).toNat = p.length by omega, f3]
    simp only at f4 ⊢
    rw [f4]
    have hs : ({ r with line := [], body := r.body ++ p, place := 0, left := 0 } : CS) = { r with body := r.body ++ p, left := 0 } := by
      cases r; simp only at hp hl; subst hp hl; rfl
    rw [hs, hlen]
    exact Prod.ext (by simp only; omega) rfl
  · intro hb
    have n1 : (2048 - (r.body.length : Int) < (p.length : Int)) := by omega
    rw [if_pos n1, cFeed_off _ _ (by simp [CS.on])]
    exact ⟨hw.1, rfl⟩
end Go.Proofs.YtmjekdnfkgalbaaGreatDoor
namespace Go.Proofs.YtmjekdnfkgalbaaGreatDoor
open Go.RowKit
set_option maxRecDepth 100000

theorem encP_nil : encP [] = [] := by simp [encP]
theorem feed_parts : ∀ (ps : List Bs) (rest : Bs) (r : CS), r.on = true → r.place = 0 → r.line = [] → (∀ p ∈ ps, p.length < 16777216) →
    (r.body.length + ps.flatten.length ≤ 2048 → ∃ k, cFeed r (ps.flatMap encP ++ rest) = ((ps.flatMap encP).length + (cFeed { r with body := r.body ++ ps.flatten, left := k } rest).1, (cFeed { r with body := r.body ++ ps.flatten, left := k } rest).2) ∧ (k = 0 ∨ k = r.left)) ∧
    (2048 < r.body.length + ps.flatten.length → r.body.length ≤ 2048 → (cFeed r (ps.flatMap encP ++ rest)).2.whole = false ∧ (cFeed r (ps.flatMap encP ++ rest)).2.status = 413)
  | [], rest, r, h, hp, hl, hm => by
    constructor
    · intro _
      refine ⟨r.left, ?_, .inr rfl⟩
      simp
    · intro h1 h2
      simp at h1
      omega
  | p :: ps, rest, r, h, hp, hl, hm => by
    have hm' : ∀ x ∈ ps, x.length < 16777216 := fun x hx => hm x (by simp [hx])
    rcases Nat.eq_zero_or_pos p.length with h0 | h0
    · obtain rfl : p = [] := List.eq_nil_of_length_eq_zero h0
      have ih := feed_parts ps rest r h hp hl hm'
      rw [List.flatMap_cons, encP_nil, List.nil_append, List.flatten_cons, List.nil_append]
      exact ih
    · obtain ⟨f1, f2⟩ := feed_part p (ps.flatMap encP ++ rest) r h hp hl h0 (hm p (by simp))
      rw [List.flatMap_cons, List.flatten_cons, List.append_assoc, List.length_append]
      constructor
      · intro hb
        rw [f1 (by omega)]
        obtain ⟨k, hk, hk2⟩ := (feed_parts ps rest { r with body := r.body ++ p, left := 0 } h hp hl hm').1 (by simp only [List.length_append]; omega)
        refine ⟨k, ?_, by rcases hk2 with h | h <;> exact .inl h⟩
        rw [hk]
        simp only [List.append_assoc, List.length_append]
        exact Prod.ext (by simp only; omega) rfl
      · intro hb hb2
        by_cases hx : r.body.length + p.length ≤ 2048
        · rw [f1 hx]
          exact (feed_parts ps rest { r with body := r.body ++ p, left := 0 } h hp hl hm').2 (by simp only [List.length_append]; omega) (by simp only [List.length_append]; omega)
        · exact f2 (by omega)
theorem size_zero : sizeL [48] = some 0 := by decide +kernel
/-- The last chunk's line. -/
theorem feed_last (rest : Bs) (r : CS) (h : r.on = true) (hp : r.place = 0) (hl : r.line = []) (hb : r.body.length ≤ 2048) : cFeed r (48 :: 13 :: 10 :: rest) = (3 + (cFeed { r with place := 3 } rest).1, (cFeed { r with place := 3 } rest).2) := by
  have f1 := feed_line [48] (13 :: 10 :: rest) r h (.inl ⟨hp, by rw [hl]; simp⟩) (by decide)
  have f2 := feed_crlf rest { r with line := r.line ++ [48] } h (.inl hp) ⟨fun _ => by rw [hl]; simp, fun h3 => by simp only at h3; omega⟩
  have hcl : cLine { r with line := (r.line ++ [48]) ++ [13] } 10 = cSize { r with line := [] } [48] := by
    rw [cLine, if_pos rfl]
    simp only [List.getLast?_append, List.getLast?_singleton, Option.some_or, if_true, List.dropLast_concat, hl, List.nil_append]
    rw [if_pos hp]
  rw [show (48 :: 13 :: 10 :: rest : Bs) = [48] ++ (13 :: 10 :: rest) from rfl, f1]
  simp only at f2
  rw [f2, hcl, cSize, size_zero]
  simp only [if_true]
  rw [if_neg (by omega)]
  have hs : ({ r with line := [], place := 3 } : CS) = { r with place := 3 } := by
    cases r; simp only at hl; subst hl; rfl
  rw [hs]
  exact Prod.ext (by simp only [List.length_cons, List.length_nil]; omega) rfl
/-- The empty line. -/
theorem feed_done (rest : Bs) (r : CS) (h : r.on = true) (hp : r.place = 3) (hl : r.line = []) (he : r.ends ≤ 512) : cFeed r (13 :: 10 :: rest) = (2, { r with whole := true }) := by
  have f2 := feed_crlf rest r h (.inr hp) ⟨fun h3 => by omega, fun _ => by rw [hl]; simp; omega⟩
  have hcl : cLine { r with line := r.line ++ [13] } 10 = { r with line := [], whole := true } := by
    rw [cLine, if_pos rfl]
    simp only [List.getLast?_singleton, if_true, hl, List.nil_append]
    rw [if_neg (by omega)]
    exact if_pos rfl
  rw [f2, hcl, cFeed_off _ _ (by simp [CS.on])]
  have hs : ({ r with line := [], whole := true } : CS) = { r with whole := true } := by
    cases r; simp only at hl; subst hl; rfl
  rw [hs]
  rfl
theorem enc_ok (ps : List Bs) (rest : Bs) (hm : ∀ p ∈ ps, p.length < 16777216) (hb : ps.flatten.length ≤ 2048) : ∃ k, cFeed cs0 (encL ps ++ rest) = ((encL ps).length, { cs0 with body := ps.flatten, place := 3, left := k, whole := true }) := by
  obtain ⟨k, hk, -⟩ := (feed_parts ps (48 :: 13 :: 10 :: 13 :: 10 :: rest) cs0 rfl rfl rfl hm).1 (by simpa [cs0] using hb)
  refine ⟨k, ?_⟩
  rw [encL, List.append_assoc, show ([48, 13, 10, 13, 10] ++ rest : Bs) = 48 :: 13 :: 10 :: 13 :: 10 :: rest from rfl, hk]
  rw [feed_last _ { cs0 with body := cs0.body ++ ps.flatten, left := k } rfl rfl rfl (by simpa [cs0] using hb), feed_done _ { cs0 with body := cs0.body ++ ps.flatten, left := k, place := 3 } rfl rfl rfl (by simp [cs0])]
  exact Prod.ext (by simp only [List.length_append, List.length_cons, List.length_nil]) rfl
theorem enc_big (ps : List Bs) (rest : Bs) (hm : ∀ p ∈ ps, p.length < 16777216) (hb : 2048 < ps.flatten.length) : (cFeed cs0 (encL ps ++ rest)).2.whole = false ∧ (cFeed cs0 (encL ps ++ rest)).2.status = 413 := by
  rw [encL, List.append_assoc]
  exact (feed_parts ps ([48, 13, 10, 13, 10] ++ rest) cs0 rfl rfl rfl hm).2 (by simpa [cs0] using hb) (by simp [cs0])
/-! ### Trailers -/
def trlL (f : Fd) : Bs := f.1 ++ [58, 32] ++ f.2 ++ [13, 10]
def trlS (l : List Fd) : Nat := (l.flatMap trlL).length
theorem tok_no58 (s : Bs) (h : allT s = true) : ∀ c ∈ s, c ≠ 58 ∧ c ≠ 10 := by
  intro c hc
  rw [allT, List.all_eq_true] at h
  have h1 := h c hc
  constructor
  · rintro rfl; revert h1; decide
  · rintro rfl; revert h1; decide
theorem val_no10 (s : Bs) (h : allV s = true) : ∀ c ∈ s, c ≠ 10 := by
  intro c hc
  rw [allV, List.all_eq_true] at h
  have h1 := h c hc
  rintro rfl; revert h1; decide
theorem isF_parts (f : Fd) (h : isF f = true) : allT f.1 = true ∧ 0 < f.1.length ∧ allV f.2 = true ∧ trimL f.2 = f.2 := by
  rw [isF, tkL] at h
  simp only [Bool.and_eq_true, decide_eq_true_eq] at h
  exact ⟨h.1.1, h.1.2, h.2.1, h.2.2⟩
theorem takeWhile_58 (a r : Bs) (h : ∀ c ∈ a, c ≠ 58) : (a ++ 58 :: r).takeWhile (· != 58) = a ∧ (a ++ 58 :: r).dropWhile (· != 58) = 58 :: r := by
  induction a with
  | nil => simp
  | cons c a ih =>
    have h1 : (c != 58) = true := by rw [bne_iff_ne]; exact h c (by simp)
    obtain ⟨i1, i2⟩ := ih fun x hx => h x (by simp [hx])
    rw [List.cons_append, List.takeWhile_cons, List.dropWhile_cons, h1, if_pos rfl, if_pos rfl, i1, i2]
    exact ⟨rfl, rfl⟩
theorem parse_back (f : Fd) (h : isF f = true) (hl : f.1.length + f.2.length + 2 ≤ 256) : parseF (f.1 ++ [58, 32] ++ f.2) = some f := by
  obtain ⟨h1, -, -, h4⟩ := isF_parts f h
  have e : f.1 ++ [58, 32] ++ f.2 = f.1 ++ 58 :: (32 :: f.2) := by simp
  obtain ⟨t1, t2⟩ := takeWhile_58 f.1 (32 :: f.2) fun c hc => (tok_no58 _ h1 c hc).1
  have ht : trimL (32 :: f.2) = f.2 := by
    rw [trimL, trimF, List.dropWhile_cons, show isB 32 = true by decide, if_pos rfl]
    exact h4
  rw [e, parseF, if_neg (by simp; omega), if_pos (by simp), t1, t2, List.tail_cons, ht]
  simp only
  rw [if_pos h]
theorem feed_trailer (f : Fd) (rest : Bs) (r : CS) (h : r.on = true) (hp : r.place = 3) (hl : r.line = []) (hf : isF f = true) (hs : f.1.length + f.2.length ≤ 100) (he : r.ends + (trlL f).length ≤ 512) :
    cFeed r (trlL f ++ rest) = ((trlL f).length + (cFeed (cTrailer r (f.1 ++ [58, 32] ++ f.2)) rest).1, (cFeed (cTrailer r (f.1 ++ [58, 32] ++ f.2)) rest).2) := by
  obtain ⟨h1, -, h3, -⟩ := isF_parts f hf
  have hlen : (trlL f).length = f.1.length + f.2.length + 4 := by rw [trlL]; simp; omega
  have hsl : (f.1 ++ [58, 32] ++ f.2).length = f.1.length + f.2.length + 2 := by simp; omega
  generalize hsd : f.1 ++ [58, 32] ++ f.2 = s at *
  have e : trlL f ++ rest = s ++ (13 :: 10 :: rest) := by rw [trlL, hsd]; simp
  have hc : ∀ c ∈ s, c ≠ 10 := by
    intro c hc
    rw [← hsd] at hc
    simp only [List.mem_append, List.mem_cons, List.not_mem_nil, or_false] at hc
    rcases hc with (hc | rfl | rfl) | hc
    · exact (tok_no58 _ h1 c hc).2
    · decide
    · decide
    · exact val_no10 _ h3 c hc
  have f1 := feed_line s (13 :: 10 :: rest) r h (.inr ⟨hp, by rw [hl]; simp; omega, by rw [hl]; simp; omega⟩) hc
  have f2 := feed_crlf rest { r with line := r.line ++ s } h (.inr hp) ⟨fun h3 => by simp only at h3; omega, fun _ => by rw [hl]; simp; omega⟩
  have hcl : cLine { r with line := (r.line ++ s) ++ [13] } 10 = cTrailer r s := by
    rw [cLine, if_pos rfl]
    simp only [List.getLast?_append, List.getLast?_singleton, Option.some_or, if_true, List.dropLast_concat, hl, List.nil_append]
    rw [if_neg (by omega), if_neg (by rintro rfl; simp at hsl)]
    have hs : ({ r with line := [] } : CS) = r := by cases r; simp only at hl; subst hl; rfl
    rw [hs]
  rw [e, f1]
  simp only at f2
  rw [f2, hcl, hlen]
  exact Prod.ext (by simp only; omega) rfl
theorem feed_trailers : ∀ (l : List Fd) (rest : Bs) (r : CS), r.on = true → r.place = 3 → r.line = [] → (∀ f ∈ l, isF f = true ∧ f.1.length + f.2.length ≤ 100) → r.ends + trlS l ≤ 512 → r.trs.length + l.length ≤ 8 →
    cFeed r (l.flatMap trlL ++ rest) = (trlS l + (cFeed { r with trs := r.trs ++ l, ends := r.ends + trlS l } rest).1, (cFeed { r with trs := r.trs ++ l, ends := r.ends + trlS l } rest).2)
  | [], rest, r, _, _, _, _, _, _ => by simp [trlS]
  | f :: l, rest, r, h, hp, hl, hf, he, h8 => by
    obtain ⟨hf1, hf2⟩ := hf f (by simp)
    have hS : trlS (f :: l) = (trlL f).length + trlS l := by simp [trlS]
    have hlen : (trlL f).length = f.1.length + f.2.length + 4 := by rw [trlL]; simp; omega
    have hsl : (f.1 ++ [58, 32] ++ f.2).length = f.1.length + f.2.length + 2 := by simp; omega
    rw [List.length_cons] at h8
    rw [List.flatMap_cons, List.append_assoc, feed_trailer f _ r h hp hl hf1 hf2 (by omega), cTrailer, parse_back f hf1 (by omega)]
    simp only
    rw [if_neg (by omega), hsl]
    have ih := feed_trailers l rest { r with ends := r.ends + (f.1.length + f.2.length + 2) + 2, trs := r.trs ++ [f] } h hp hl (fun x hx => hf x (by simp [hx])) (by simp only; omega) (by simp only [List.length_append, List.length_cons, List.length_nil]; omega)
    rw [ih, hS]
    simp only [List.append_assoc, List.singleton_append]
    rw [show r.ends + (f.1.length + f.2.length + 2) + 2 + trlS l = r.ends + ((trlL f).length + trlS l) by omega]
    exact Prod.ext (by simp only; omega) rfl
/-- A ninth trailer. -/
theorem feed_nine (l : List Fd) (rest : Bs) (r : CS) (h : r.on = true) (hp : r.place = 3) (hl : r.line = []) (ht : r.trs = []) (hf : ∀ f ∈ l, isF f = true ∧ f.1.length + f.2.length ≤ 100) (he : r.ends + trlS l ≤ 512) (h9 : 8 < l.length) :
    (cFeed r (l.flatMap trlL ++ rest)).2.whole = false ∧ (cFeed r (l.flatMap trlL ++ rest)).2.status = 431 ∧ (cFeed r (l.flatMap trlL ++ rest)).2.trs.length = 8 := by
  obtain ⟨a, f, b, e, ha⟩ : ∃ a f b, l = a ++ f :: b ∧ a.length = 8 := by
    refine ⟨l.take 8, l[8], l.drop 9, ?_, by simp; omega⟩
    rw [← List.drop_eq_getElem_cons (by omega), List.take_append_drop]
  subst e
  have hw : r.whole = false := by unfold CS.on at h; simp at h; exact h.1
  have hS : trlS (a ++ f :: b) = trlS a + ((trlL f).length + trlS b) := by simp [trlS]
  obtain ⟨hf1, hf2⟩ := hf f (by simp)
  have hlen : (trlL f).length = f.1.length + f.2.length + 4 := by rw [trlL]; simp; omega
  rw [List.flatMap_append, List.flatMap_cons, List.append_assoc, List.append_assoc]
  rw [feed_trailers a _ r h hp hl (fun x hx => hf x (by simp [hx])) (by omega) (by rw [ht]; simp; omega)]
  rw [feed_trailer f _ { r with trs := r.trs ++ a, ends := r.ends + trlS a } h hp hl hf1 hf2 (by simp only; omega), cTrailer, parse_back f hf1 (by omega)]
  simp only
  rw [if_pos (by right; rw [ht]; simpa using ha), cFeed_off _ _ (by simp [CS.on])]
  exact ⟨hw, rfl, by simp only; rw [ht]; simpa using ha⟩
end Go.Proofs.YtmjekdnfkgalbaaGreatDoor
namespace Go.Proofs.YtmjekdnfkgalbaaGreatDoor
open Go.RowKit
set_option maxRecDepth 100000

structure CInv (r : CS) : Prop where
  place : r.place ≤ 3
  data : r.place = 1 → 1 ≤ r.left ∧ r.left ≤ 16777216
  fin : r.place = 2 → r.left = 1 ∨ r.left = 2
  line : (r.place = 1 ∨ r.place = 2) → r.line = []
  left : (r.place = 0 ∨ r.place = 3) → r.left = 0
  body : r.body.length + (if r.place = 1 then r.left else 0) ≤ 2048
  trs : r.trs.length ≤ 8
  len : r.line.length ≤ 258
  lenOn : r.on = true → r.line.length ≤ 257
  ends : r.on = true → r.ends ≤ 512
  ends2 : r.ends ≤ 1000
theorem cs0_inv : CInv cs0 := ⟨by decide, by decide, by decide, by decide, by decide, by decide, by decide, by decide, by decide, by decide, by decide⟩
theorem CS.on_parts (r : CS) (h : r.on = true) : r.whole = false ∧ r.status = 0 := by
  unfold CS.on at h; simpa using h
theorem numF_nonneg (base : Int) (hb : 0 ≤ base) : ∀ (l : Bs) (n v : Int), 0 ≤ n → numF base l n = some v → 0 ≤ v
  | [], n, v, hn, h => by simp [numF] at h; omega
  | c :: l, n, v, hn, h => by
    rw [numF] at h
    split at h
    · cases h
    · rename_i hc
      exact numF_nonneg base hb l _ v (Int.add_nonneg (Int.mul_nonneg hn hb) (by omega)) h
theorem sizeL_nonneg (s : Bs) (v : Int) (h : sizeL s = some v) : 0 ≤ v := by
  rw [sizeL] at h
  split at h
  · cases h
  · split at h
    · rw [numR] at h
      split at h
      · cases h
      · exact numF_nonneg 16 (by decide) _ 0 v (Int.le_refl _) h
    · cases h
theorem cSize_inv (r : CS) (s : Bs) (h : CInv r) (hp : r.place = 0) : CInv (cSize { r with line := [] } s) := by
  have hb := h.body
  have hlf := h.left (.inl hp)
  rw [if_neg (by omega)] at hb
  rw [cSize]
  cases hs : sizeL s with
  | none => exact ⟨h.place, h.data, h.fin, fun _ => rfl, h.left, by simp only; rw [if_neg (by omega)]; omega, h.trs, by simp, by simp, fun ho => by simp [CS.on] at ho, h.ends2⟩
  | some v =>
    have hv := sizeL_nonneg s v hs
    simp only
    split
    · exact ⟨h.place, h.data, h.fin, fun _ => rfl, h.left, by simp only; rw [if_neg (by omega)]; omega, h.trs, by simp, by simp, fun ho => by simp [CS.on] at ho, h.ends2⟩
    · split
      · exact ⟨by simp, by simp, by simp, fun _ => rfl, fun _ => hlf, by simp only; rw [if_neg (by omega)]; omega, h.trs, by simp, by simp, h.ends, h.ends2⟩
      · rename_i h1 h2
        exact ⟨by simp, fun _ => ⟨by simp only; omega, by simp only; omega⟩, by simp, fun _ => rfl, by simp, by simp only [if_true]; omega, h.trs, by simp, by simp, h.ends, h.ends2⟩
theorem off_st (r : CS) (e : Int) (h : r.status = e) (h2 : e ≠ 0) : ¬ r.on = true := by
  intro ho
  have := (CS.on_parts r ho).2
  omega
theorem cTrailer_inv (r : CS) (s : Bs) (h : CInv r) (hp : r.place = 3) (ho : r.on = true) (hs : s.length ≤ 257) : CInv (cTrailer { r with line := [] } s) := by
  have hb := h.body
  have hlf := h.left (.inr hp)
  have he := h.ends ho
  rw [if_neg (by omega)] at hb
  rw [cTrailer]
  cases hf : parseF s with
  | none => exact ⟨h.place, h.data, h.fin, fun _ => rfl, h.left, by simp only; rw [if_neg (by omega)]; omega, h.trs, by simp, by simp, fun ho => by simp [CS.on] at ho, by simp only; omega⟩
  | some f =>
    simp only
    split
    · exact ⟨h.place, h.data, h.fin, fun _ => rfl, h.left, by simp only; rw [if_neg (by omega)]; omega, h.trs, by simp, by simp, fun ho => by simp [CS.on] at ho, by simp only; omega⟩
    · rename_i h1
      have ht := h.trs
      exact ⟨h.place, h.data, h.fin, fun _ => rfl, h.left, by simp only; rw [if_neg (by omega)]; omega, by simp only [List.length_append, List.length_cons, List.length_nil]; omega, by simp, by simp, fun _ => by simp only; omega, by simp only; omega⟩
theorem cLine_inv (r : CS) (c : UInt8) (h : CInv r) (hp : r.place = 0 ∨ r.place = 3) (ho : r.on = true) : CInv (cLine r c) := by
  have hb := h.body
  have hlf := h.left hp
  have he := h.ends ho
  have hl := h.lenOn ho
  have hn1 : r.place ≠ 1 := by omega
  have hn2 : r.place ≠ 2 := by omega
  rw [if_neg hn1] at hb
  rw [cLine]
  split
  · split
    · split
      · rename_i h1 h2 h3
        exact cSize_inv r _ h h3
      · simp only
        split
        · exact ⟨h.place, h.data, h.fin, fun _ => rfl, h.left, by simp only; rw [if_neg hn1]; omega, h.trs, by simp, by simp, fun _ => he, h.ends2⟩
        · exact cTrailer_inv r _ h (by omega) ho (by rw [List.length_dropLast]; omega)
    · exact ⟨h.place, h.data, h.fin, h.line, h.left, by simp only; rw [if_neg hn1]; omega, h.trs, h.len, fun ho => absurd ho (off_st _ 400 rfl (by decide)), fun ho => absurd ho (off_st _ 400 rfl (by decide)), h.ends2⟩
  · simp only
    obtain ⟨k, hk⟩ : ∃ k, k = (if c = 13 then r.line.length else r.line.length + 1) := ⟨_, rfl⟩
    have hk2 : r.line.length ≤ k := by rw [hk]; split <;> omega
    rw [← hk]
    split
    · exact ⟨h.place, h.data, h.fin, fun hx => by simp only at hx; omega, h.left, by simp only; rw [if_neg hn1]; omega, h.trs, by simp; omega, fun ho => absurd ho (off_st _ 400 rfl (by decide)), fun ho => absurd ho (off_st _ 400 rfl (by decide)), h.ends2⟩
    · split
      · exact ⟨h.place, h.data, h.fin, fun hx => by simp only at hx; omega, h.left, by simp only; rw [if_neg hn1]; omega, h.trs, by simp; omega, fun ho => absurd ho (off_st _ 431 rfl (by decide)), fun ho => absurd ho (off_st _ 431 rfl (by decide)), h.ends2⟩
      · rename_i h1 h2
        refine ⟨h.place, h.data, h.fin, fun hx => by simp only at hx; omega, h.left, by simp only; rw [if_neg hn1]; omega, h.trs, by simp; omega, fun _ => ?_, fun _ => he, h.ends2⟩
        simp only [List.length_append, List.length_cons, List.length_nil]
        rcases hp with hp | hp
        · have : ¬ (64 < k) := fun hx => h1 ⟨hp, hx⟩
          omega
        · have : ¬ (256 < k) := fun hx => h2 ⟨hp, .inl hx⟩
          omega
theorem cByte_inv (r : CS) (c : UInt8) (h : CInv r) (ho : r.on = true) : CInv (cByte r c) := by
  have hb := h.body
  have hpl := h.place
  rw [cByte]
  split
  · rename_i hp
    have hd := h.data hp
    have hl := h.line (.inl hp)
    rw [if_pos hp] at hb
    split
    · exact ⟨by simp, by simp, fun _ => .inr rfl, fun _ => hl, by simp, by simp only [List.length_append, List.length_cons, List.length_nil]; rw [if_neg (by decide)]; omega, h.trs, h.len, h.lenOn, h.ends, h.ends2⟩
    · exact ⟨h.place, fun _ => by simp only; omega, fun hx => by simp only at hx; omega, fun _ => hl, fun hx => by simp only at hx; omega, by simp only [List.length_append, List.length_cons, List.length_nil]; rw [if_pos hp]; omega, h.trs, h.len, h.lenOn, h.ends, h.ends2⟩
  · rename_i hn1
    rw [if_neg hn1] at hb
    split
    · rename_i hp
      have hl := h.line (.inr hp)
      have hf := h.fin hp
      obtain ⟨x, hx⟩ : ∃ x : UInt8, x = (if r.left = 2 then 13 else 10) := ⟨_, rfl⟩
      rw [← hx]
      clear hx
      split
      · split
        · exact ⟨by simp, by simp, by simp, fun _ => hl, fun _ => rfl, by simp only; rw [if_neg (by decide)]; omega, h.trs, h.len, h.lenOn, h.ends, h.ends2⟩
        · exact ⟨h.place, fun hx => by simp only at hx; omega, fun _ => .inl rfl, fun _ => hl, fun hx => by simp only at hx; omega, by simp only; rw [if_neg hn1]; omega, h.trs, h.len, h.lenOn, h.ends, h.ends2⟩
      · exact ⟨h.place, h.data, h.fin, h.line, h.left, by simp only; rw [if_neg hn1]; omega, h.trs, h.len, fun ho => absurd ho (off_st _ 400 rfl (by decide)), fun ho => absurd ho (off_st _ 400 rfl (by decide)), h.ends2⟩
    · rename_i hn2
      exact cLine_inv r c h (by omega) ho
end Go.Proofs.YtmjekdnfkgalbaaGreatDoor

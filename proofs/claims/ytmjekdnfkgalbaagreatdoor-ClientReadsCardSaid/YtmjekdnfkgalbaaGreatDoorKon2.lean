/- chunk: isHex, size. chunk: trailer. chunk: inLine, takes. chunk: takes, Feed. chunk: New, Body, Trailers; a nil Reader. -/
import Derived.Test.YtmjekdnfkgalbaaGreatDoorKon
import Derived.Test.YtmjekdnfkgalbaaGreatDoorByP
import Derived.Test.YtmjekdnfkgalbaaGreatDoorLst
import Derived.Test.YtmjekdnfkgalbaaGreatDoorHex
import Derived.Test.YtmjekdnfkgalbaaGreatDoorFPl
import Derived.Test.YtmjekdnfkgalbaaGreatDoorNum
import Derived.Deep.QuietTactic
import Derived.BigQuiet
import Derived.OwnWalk
namespace Go.Proofs.YtmjekdnfkgalbaaGreatDoor
open Go.RowKit
set_option maxRecDepth 100000
set_option maxHeartbeats 4000000

theorem hexN_cons (b : UInt8) (r : Bs) : hexN (b :: r) = if 0 ≤ digB b.toNat then hexN r + 1 else 0 := by
  unfold hexN
  rw [List.takeWhile_cons]
  by_cases h : 0 ≤ digB b.toNat <;> simp [h]
theorem hexN_le (l : Bs) : hexN l ≤ l.length := (List.takeWhile_sublist _).length_le
theorem hexN_get : ∀ (l : Bs) (k : Nat), k < hexN l → ∃ b, l.drop k = b :: l.drop (k + 1) ∧ 0 ≤ digB b.toNat
  | [], k, h => by simp [hexN] at h
  | b :: l, 0, h => by
    rw [hexN_cons] at h
    split at h
    · exact ⟨b, rfl, by assumption⟩
    · omega
  | b :: l, k + 1, h => by
    rw [hexN_cons] at h
    split at h
    · obtain ⟨c, h1, h2⟩ := hexN_get l k (by omega)
      exact ⟨c, by simpa using h1, h2⟩
    · omega
theorem par_dig (b : UInt8) (r : Bs) (h : 0 ≤ digB b.toNat) : parOk (b :: r) = false := by
  have key : ∀ x : Fin 256, 0 ≤ digB (UInt8.ofNat x.val).toNat → isB (UInt8.ofNat x.val) = false ∧ UInt8.ofNat x.val ≠ 59 := by decide +kernel
  have := key ⟨b.toNat, b.toNat_lt⟩ (by simpa using h)
  rw [show UInt8.ofNat b.toNat = b by simp] at this
  have ht : trimF (b :: r) = b :: r := by rw [trimF, List.dropWhile_cons, this.1]; rfl
  show parG (b :: r) 0 = false
  refine parG_bad _ 0 (by rw [ht]; simp) ?_
  rw [ht, parS, if_neg this.2]
theorem size_eq (l : Bs) (m : Nat) (hm : m = min (hexN l) 6) : sizeL l = if parOk (l.drop m) then numR 16 12 (l.take m) else none := by
  rw [sizeL]
  by_cases h1 : hexN l < 1
  · have h0 : m = 0 := by omega
    rw [if_pos (.inl h1), h0, List.take_zero]
    split <;> rfl
  · by_cases h6 : 6 < hexN l
    · have h0 : m = 6 := by omega
      obtain ⟨b, hb, hd⟩ := hexN_get l 6 h6
      rw [if_pos (.inr h6), h0, hb, par_dig _ _ hd]
      rfl
    · have h0 : m = hexN l := by omega
      rw [if_neg (by omega), h0]
theorem hex_one (b : UInt8) : (numR 16 12 [b]).isSome = decide (0 ≤ digB b.toNat) := by
  have h1 := digB_le b.toNat (by omega) (u8lt b)
  rw [numR, if_neg (by simp), numF]
  by_cases h : digB b.toNat < 0
  · rw [if_pos (.inl h)]; simp; omega
  · rw [if_neg (by omega)]; simp [numF]; omega
theorem cSize_none (r : CS) (s : Bs) (h : sizeL s = none) : cSize r s = { r with status := 400 } := by rw [cSize, h]
theorem cSize_big (r : CS) (s : Bs) (v : Int) (h : sizeL s = some v) (h2 : 2048 - (r.body.length : Int) < v) : cSize r s = { r with status := 413 } := by rw [cSize, h]; simp only; rw [if_pos h2]
theorem cSize_zero (r : CS) (s : Bs) (h : sizeL s = some 0) (h2 : r.body.length ≤ 2048) : cSize r s = { r with place := 3 } := by rw [cSize, h]; simp only; rw [if_neg (by omega)]; rfl
theorem cSize_some (r : CS) (s : Bs) (v : Int) (h : sizeL s = some v) (h2 : ¬ 2048 - (r.body.length : Int) < v) (h3 : v ≠ 0) : cSize r s = { r with place := 1, left := v.toNat } := by rw [cSize, h]; simp only; rw [if_neg h2, if_neg h3]
end Go.Proofs.YtmjekdnfkgalbaaGreatDoor
namespace Go.Proofs.YtmjekdnfkgalbaaGreatDoor
open Go.RowKit
set_option maxRecDepth 100000
set_option maxHeartbeats 4000000

theorem cTrailer_none (r : CS) (s : Bs) (h : parseF s = none) : cTrailer r s = { r with ends := r.ends + s.length + 2, status := 400 } := by rw [cTrailer, h]
theorem cTrailer_full (r : CS) (s : Bs) (f : Fd) (h : parseF s = some f) (h2 : 512 < r.ends + s.length + 2 ∨ r.trs.length = 8) : cTrailer r s = { r with ends := r.ends + s.length + 2, status := 431 } := by rw [cTrailer, h]; simp only; rw [if_pos h2]
theorem cTrailer_some (r : CS) (s : Bs) (f : Fd) (h : parseF s = some f) (h2 : ¬ (512 < r.ends + s.length + 2 ∨ r.trs.length = 8)) : cTrailer r s = { r with ends := r.ends + s.length + 2, trs := r.trs ++ [f] } := by rw [cTrailer, h]; simp only; rw [if_neg h2]
end Go.Proofs.YtmjekdnfkgalbaaGreatDoor
namespace Go.Proofs.YtmjekdnfkgalbaaGreatDoor
open Go.RowKit
set_option maxRecDepth 100000
set_option maxHeartbeats 4000000

theorem cLine_lim (r : CS) (c : UInt8) (hc : c ≠ 10) : cLine r c = cLim { r with line := r.line ++ [c] } (if c = 13 then r.line.length else r.line.length + 1) := by
  rw [cLine, if_neg hc]; rfl
theorem cLine_bad (r : CS) (h : r.line.getLast? ≠ some 13) : cLine r 10 = { r with status := 400 } := by rw [cLine, if_pos rfl, if_neg h]
theorem cLine_end (r : CS) (P : Bs) (h : r.line = P ++ [13]) : cLine r 10 = if r.place = 0 then cSize { r with line := [] } P else if P = [] then { r with line := [], whole := true } else cTrailer { r with line := [] } P := by
  rw [cLine, if_pos rfl, if_pos (by rw [h]; simp), h]
  simp only [List.dropLast_concat]
theorem snoc_cases (l : Bs) : l = [] ∨ ∃ P x, l = P ++ [x] := by
  rcases List.eq_nil_or_concat l with h | ⟨P, x, h⟩
  · exact .inl h
  · exact .inr ⟨P, x, by simpa using h⟩
end Go.Proofs.YtmjekdnfkgalbaaGreatDoor
namespace Go.Proofs.YtmjekdnfkgalbaaGreatDoor
open Go.RowKit
set_option maxRecDepth 100000
set_option maxHeartbeats 4000000

theorem cByte_line (r : CS) (c : UInt8) (h1 : r.place ≠ 1) (h2 : r.place ≠ 2) : cByte r c = cLine r c := by rw [cByte, if_neg h1, if_neg h2]
theorem cFeed_inv : ∀ (p : Bs) (r : CS), CInv r → CInv (cFeed r p).2
  | [], r, h => h
  | c :: p, r, h => by
    cases ho : r.on
    · rw [cFeed_off r _ ho]; exact h
    · rw [cFeed_on r c p ho]; exact cFeed_inv p _ (cByte_inv r c h ho)
theorem Rd.byte {w : World} {B n : Nat} {A : Option Addr} {l : Bs} (h : Rd w B 1 A n (l.map bv)) (k : Nat) (c : UInt8) (hc : l[k]? = some c) : ∃ b o, A = some ⟨b, o, none⟩ ∧ b < B ∧ w.cell? ⟨b, o + k, none⟩ = some (.int .u8 (c.toNat : Int)) := by
  have hl : l.length = n := by simpa using h.1
  have hk : k < l.length := (List.getElem?_eq_some_iff.1 hc).1
  obtain ⟨b, o, e, hb, hx⟩ := h.2 (by omega)
  exact ⟨b, o, e, hb, hx k _ (by rw [List.getElem?_map, hc]; rfl)⟩
theorem drop_at {l : Bs} {k : Nat} (h : k < l.length) : ∃ c, l[k]? = some c ∧ l.drop k = c :: l.drop (k + 1) := ⟨l[k], by simp [h], List.drop_eq_getElem_cons h⟩
end Go.Proofs.YtmjekdnfkgalbaaGreatDoor
namespace Go.Proofs.YtmjekdnfkgalbaaGreatDoor
open Go.RowKit
set_option maxRecDepth 100000
set_option maxHeartbeats 2000000

theorem foot_new (g k : Nat) (h : foot g (.slice none 0 0) (.slice none 0 0) (.slice none 0 0) k) : k = g := by
  rcases h with h | h | h | h
  · exact h
  all_goals simp [Value.ownBlock] at h
theorem bts_Clone (A : Option Addr) (c B : Nat) (l : Bs) (w : World) (h : Rd w B 1 A l.length (l.map bv)) (hA : A = none → l = []) (hl : l.length ≤ 140737488355328) :
    Calls Tryz.prog 33 #[.slice A l.length c] w (BytesPost w l) := by
  cases A with
  | none =>
    obtain rfl := hA rfl
    refine (Tryz.bytes_Clone_nil 0 c w).mono ?_
    rintro e w' ⟨rfl, rfl⟩
    exact ⟨_, rfl, OB.nil _ _, Below.refl _ _⟩
  | some a =>
    refine (Tryz.bytes_Clone_at a l.length c (l.map fun b => (b.toNat : Int)) w (by simp) hl ?_).mono ?_
    · intro i hi
      obtain ⟨b, hb, -⟩ := drop_at hi
      obtain ⟨g, o, e, -, hc⟩ := h.byte i b hb
      injection e with e
      subst e
      rw [add_lit', hc]
      simp [List.getD, hb]
    · rintro e w' ⟨v, rfl, h1, -, h2⟩
      refine ⟨v, rfl, ?_, h2⟩
      unfold OB
      have h3 := Own.of h1
      rw [List.map_map] at h3
      exact h3
theorem OB.form2 {w : World} {base : Nat} {v : Value} {l : Bs} (h : OB w base v l) : ∃ A c, v = .slice A l.length c ∧ l.length ≤ c ∧ c ≤ maxLen ∧ Rd w w.heap.size 1 A l.length (l.map bv) ∧ (A = none → l = []) := by
  obtain ⟨A, c, h1, h2, h3, h4, h5⟩ := Own.rd h
  exact ⟨A, c, h1, h2, h3, h4, fun ha => List.eq_nil_of_length_eq_zero (by have := h5 ha; omega)⟩
def FieldsPost (w : World) (l : List Fd) (e : Ending) (w' : World) : Prop := ∃ v, e = .returned v ∧ OF w' w.heap.size v l ∧ Below w.heap.size w w'
end Go.Proofs.YtmjekdnfkgalbaaGreatDoor

/- list: token, Quoted, param, Params. list: param, Params. list: Params. -/
import Derived.Test.YtmjekdnfkgalbaaGreatDoorFPl
import Derived.Test.YtmjekdnfkgalbaaGreatDoorAscii
import Derived.Shelf.Strings.SlTrimAscii
import Derived.BigRegion
import Derived.ChangeAlike
namespace Go.Proofs.YtmjekdnfkgalbaaGreatDoor
open Go.RowKit
set_option maxRecDepth 100000
set_option maxHeartbeats 2000000

theorem tokN_cons (b : UInt8) (r : Bs) : tokN (b :: r) = if tokB b.toNat then tokN r + 1 else 0 := by
  unfold tokN
  rw [List.takeWhile_cons]
  split <;> simp
theorem ext_one (s : ByteArray) (k : Nat) (b : UInt8) (hb : s.data.toList.drop k = b :: s.data.toList.drop (k + 1)) : s.extract k (k + 1) = ⟨#[b]⟩ := by
  apply str_ext
  rw [ext_data, hb, show k + 1 - k = 1 by omega]
  rfl
theorem u8ne' {c d : UInt8} (h : c ≠ d) {n : Int} (hn : (d.toNat : Int) = n) : ((c.toNat : Int) == n) = false := by
  rw [Bool.eq_false_iff]
  intro h2
  rw [beq_iff_eq] at h2
  exact h (u8inj (by omega))
theorem tok_b1 (b : UInt8) (w : World) :
    Calls Tryz.prog 119 #[.string ⟨#[b]⟩] w fun e w' => e = .returned (.bool (tokB b.toNat)) ∧ w = w' := by
  refine (asc_IsToken ⟨#[b]⟩ w (by show 1 ≤ _; decide)).mono ?_
  rintro e w' ⟨rfl, rfl⟩
  exact ⟨retB (by simp [allT]), rfl⟩
theorem val_b1 (b : UInt8) (w : World) :
    Calls Tryz.prog 120 #[.string ⟨#[b]⟩] w fun e w' => e = .returned (.bool (valueB b.toNat)) ∧ w = w' := by
  refine (asc_IsValue ⟨#[b]⟩ w (by show 1 ≤ _; decide)).mono ?_
  rintro e w' ⟨rfl, rfl⟩
  exact ⟨retB (by simp [allV]), rfl⟩
/-- What a quoted text has, from the k-th byte on. -/
def quoA (l : Bs) (k : Nat) : Nat := ((quoF (l.drop k)).map (· + k)).getD 0
theorem quoN_of (b : UInt8) (r : Bs) (h : b = 34) : quoN (b :: r) = quoA (b :: r) 1 := by rw [quoN, if_pos h]; rfl
theorem quoF_q (r : Bs) : quoF (34 :: r) = some 1 := by rw [quoF.eq_def]; rfl
theorem quoF_v (c : UInt8) (r : Bs) (h1 : c ≠ 34) (h2 : c ≠ 92) : quoF (c :: r) = if valueB c.toNat then (quoF r).map (· + 1) else none := by
  rw [quoF.eq_def]; simp only; rw [if_neg h1, if_neg h2]
theorem quoF_e : quoF [92] = none := by rw [quoF.eq_def]; rfl
theorem quoF_s (d : UInt8) (r : Bs) : quoF (92 :: d :: r) = if valueB d.toNat then (quoF r).map (· + 2) else none := by
  rw [quoF.eq_def]; rfl
theorem quoA_nil (l : Bs) (k : Nat) (h : l.drop k = []) : quoA l k = 0 := by rw [quoA, h]; rfl
theorem quoA_q (l r : Bs) (k : Nat) (h : l.drop k = 34 :: r) : quoA l k = k + 1 := by rw [quoA, h, quoF_q]; simp; omega
theorem quoA_v (l : Bs) (k : Nat) (c : UInt8) (h : l.drop k = c :: l.drop (k + 1)) (h1 : c ≠ 34) (h2 : c ≠ 92) : quoA l k = if valueB c.toNat then quoA l (k + 1) else 0 := by
  rw [quoA, h, quoF_v _ _ h1 h2]
  split
  · rw [quoA]; cases quoF (l.drop (k + 1)) <;> simp; omega
  · rfl
theorem quoA_e (l : Bs) (k : Nat) (h : l.drop k = [92]) : quoA l k = 0 := by rw [quoA, h, quoF_e]; rfl
theorem quoA_s (l : Bs) (k : Nat) (d : UInt8) (h : l.drop k = 92 :: l.drop (k + 1)) (h1 : l.drop (k + 1) = d :: l.drop (k + 2)) : quoA l k = if valueB d.toNat then quoA l (k + 2) else 0 := by
  rw [quoA, h, h1, quoF_s]
  split
  · rw [quoA]; cases quoF (l.drop (k + 2)) <;> simp; omega
  · rfl
def QuoPost (w : World) (n : Nat) (e : Ending) (w' : World) : Prop := (∃ x : ByteArray, e = .returned (.tuple #[.string x, .int .i64 (n : Int)])) ∧ Below w.heap.size w w'
end Go.Proofs.YtmjekdnfkgalbaaGreatDoor
namespace Go.Proofs.YtmjekdnfkgalbaaGreatDoor
open Go.RowKit
set_option maxRecDepth 100000
set_option maxHeartbeats 2000000

theorem trimLeft_eq (l : Bs) : Lib.trimLeftS l [9, 32] = trimF l := by
  have e : (fun b : UInt8 => ([9, 32] : Bs).contains b) = isB := by
    funext b
    cases h1 : (b == 9) <;> cases h2 : (b == 32) <;> simp [isB, List.contains, List.elem, h1, h2]
  unfold Lib.trimLeftS trimF
  rw [e]
theorem lib_TrimLeft (s : ByteArray) (w : World) :
    Calls Tryz.prog 110 #[.string s, .string ⟨#[9, 32]⟩] w fun e w' => ∃ X : ByteArray, e = .returned (.string X) ∧ X.data.toList = trimF s.data.toList ∧ Below w.heap.size w w' := by
  refine (Any.strings_TrimLeft_laid Tryz.lays161 (by kernel_rfl) s ⟨#[9, 32]⟩ _ (by decide) (ascii_of_all (by decide))).mono ?_
  rintro e w' ⟨rfl, hb⟩
  exact ⟨_, rfl, by rw [← trimLeft_eq], hb⟩
def ParPost (w : World) (s : Bs) (e : Ending) (w' : World) : Prop :=
  ∃ (p1 p2 R : ByteArray) (ok : Bool), e = .returned (.tuple #[.agg #[.string p1, .string p2], .string R, .bool ok]) ∧ parS s = (if ok then some R.data.toList else none) ∧ Below w.heap.size w w'
theorem par_no (s : Bs) (h : s = [] ∨ ∃ b r, s = b :: r ∧ b ≠ 59) : parS s = none := by
  rcases h with rfl | ⟨b, r, rfl, hb⟩
  · rfl
  · rw [parS, if_neg hb]
theorem par_no_name (s r x : Bs) (h : s = 59 :: r) (hx : x = trimF r) (hn : tokN x = 0) : parS s = none := by
  subst h hx; rw [parS, if_pos rfl, if_pos hn]
theorem par_name (s r x y : Bs) (h : s = 59 :: r) (hx : x = trimF r) (hn : tokN x ≠ 0) (hy : y = x.drop (tokN x)) : parS s = parV y := by
  subst h hx hy; rw [parS, if_pos rfl, if_neg hn]
theorem drew1W {B : Nat} {a w : World} (h : Below B a w) : Below B a w.drew := below_drewN' h 1
theorem quo_some (s : Bs) (n : Nat) (h : quoN s = n) (hn : n ≠ 0) : parV (61 :: s) = some (s.drop n) := by
  subst h; rw [parV, if_pos rfl, if_neg hn]
theorem quo_tok (s : Bs) (n : Nat) (h : quoN s = 0) (h2 : tokN s = n) : parV (61 :: s) = if n = 0 then none else some (s.drop n) := by
  subst h2; rw [parV, if_pos rfl, if_pos h]
end Go.Proofs.YtmjekdnfkgalbaaGreatDoor
namespace Go.Proofs.YtmjekdnfkgalbaaGreatDoor
open Go.RowKit
set_option maxRecDepth 100000
set_option maxHeartbeats 2000000

def PrmPost (w : World) (b : Bool) (e : Ending) (w' : World) : Prop := (∃ v, e = .returned (.tuple #[v, .bool b])) ∧ Below w.heap.size w w'
end Go.Proofs.YtmjekdnfkgalbaaGreatDoor

/- Plain definitions and lemmas on bytes, lists and numbers: no program is named here. -/
import Derived.WalkKit
import Derived.PlainAid
import Derived.Lib.Hide
namespace Go.Proofs.YtmnnbfaaaifcoaaGreatDoor
open Go.RowKit

abbrev Bs := List UInt8
/-- A byte as a cell holds it. -/
abbrev bv (b : UInt8) : Value := .int .u8 (b.toNat : Int)
/-- A text as a value. -/
abbrev sv (l : Bs) : Value := .string ⟨l.toArray⟩

theorem retB {a b : Bool} (h : a = b) : Ending.returned (.bool a) = .returned (.bool b) := by rw [h]
theorem retI {k : IntKind} {a b : Int} (h : a = b) : Ending.returned (.int k a) = .returned (.int k b) := by rw [h]
theorem retS {a b : Bs} (h : a = b) : Ending.returned (sv a) = .returned (sv b) := by rw [h]

theorem notT {x : Bool} (h : (!x) = true) : x = false := by simpa using h
theorem notF {x : Bool} (h : (!x) = false) : x = true := by simpa using h
theorem u8lt (b : UInt8) : (b.toNat : Int) ≤ 255 := by have := b.toNat_lt; omega
theorem u8inj {a b : UInt8} (h : a.toNat = b.toNat) : a = b := UInt8.toNat_inj.1 h

theorem str_eta (s : ByteArray) : s = ⟨s.data.toList.toArray⟩ := by cases s; rfl
theorem len_data (s : ByteArray) : s.data.toList.length = s.size := by cases s; rfl
theorem get_data (s : ByteArray) (k : Nat) (h : k < s.size) : s.data.toList[k]'(by rw [len_data]; exact h) = s[k] := rfl
theorem drop_cons (s : ByteArray) (k : Nat) (h : k < s.size) : s.data.toList.drop k = s[k] :: s.data.toList.drop (k + 1) := by
  rw [List.drop_eq_getElem_cons (by rw [len_data]; exact h), get_data s k h]
theorem drop_end (s : ByteArray) (k : Nat) (h : s.size ≤ k) : s.data.toList.drop k = [] := List.drop_of_length_le (by rw [len_data]; exact h)
/-- The bytes from k on, with the first one as a number. -/
theorem drop_bt (s : ByteArray) (k : Nat) (h : k < s.size) : ∃ b : UInt8, s.data.toList.drop k = b :: s.data.toList.drop (k + 1) ∧ PlainAid.bt s k = (b.toNat : Int) :=
  ⟨s[k], drop_cons s k h, (PlainAid.get_bt s k h).symm⟩
theorem ext_data (s : ByteArray) (a b : Nat) : (s.extract a b).data.toList = (s.data.toList.drop a).take (b - a) := by
  simp [ByteArray.data_extract, Array.toList_extract, List.extract]
theorem ext_from (s : ByteArray) (a : Nat) : (s.extract a s.size).data.toList = s.data.toList.drop a := by
  rw [ext_data, List.take_of_length_le (by rw [List.length_drop, len_data]; omega)]
theorem ext_to (s : ByteArray) (b : Nat) : (s.extract 0 b).data.toList = s.data.toList.take b := by
  rw [ext_data]; simp
theorem ext_size (s : ByteArray) (a b : Nat) (h1 : a ≤ b) (h2 : b ≤ s.size) : (s.extract a b).size = b - a := by
  rw [← len_data, ext_data, List.length_take, List.length_drop, len_data]; omega
theorem app_data (a b : ByteArray) : (a ++ b).data.toList = a.data.toList ++ b.data.toList := by
  simp [ByteArray.data_append]
theorem str_ext {a b : ByteArray} (h : a.data.toList = b.data.toList) : a = b := by
  rw [str_eta a, str_eta b, h]
theorem retStr {a b : ByteArray} (h : a.data.toList = b.data.toList) : Ending.returned (.string a) = .returned (.string b) := by rw [str_ext h]
/-- The last byte. -/
theorem last_bt (s : ByteArray) (h : 0 < s.size) : ∃ b : UInt8, s.data.toList = s.data.toList.take (s.size - 1) ++ [b] ∧ PlainAid.bt s (s.size - 1) = (b.toNat : Int) := by
  refine ⟨s[s.size - 1], ?_, (PlainAid.get_bt s _ (by omega)).symm⟩
  have h1 := List.take_append_drop (s.size - 1) s.data.toList
  rw [drop_cons s (s.size - 1) (by omega), drop_end s (s.size - 1 + 1) (by omega)] at h1
  exact h1.symm
end Go.Proofs.YtmnnbfaaaifcoaaGreatDoor

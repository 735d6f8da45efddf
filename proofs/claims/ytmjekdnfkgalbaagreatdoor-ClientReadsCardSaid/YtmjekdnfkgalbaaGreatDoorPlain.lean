/- Plain definitions and lemmas on bytes, lists and numbers: no program is named here. The functions of usherref1: what each returns. Rows of cells in memory, over whatever program: what a slice that is read holds, what a slice that a call made owns, what stays. The functions of usherref1, on: numbers and their texts. usherref1: texts of numbers; small letters. Rows of cells in memory: what stays, in short steps. -/
import Derived.WalkKit
import Derived.PlainAid
import Derived.Lib.Hide
import Derived.Test.YtmjekdnfkgalbaaGreatDoorProg
import Derived.WalkSpells
import Derived.WalkLawsBesides
import Derived.Laws.CopyOwn
import Derived.Deep.Draws
import Derived.Lib.ConvBytes
import Derived.Lib.SlBytesConst
import Derived.WalkSmall
import Derived.Handy
namespace Go.Proofs.YtmjekdnfkgalbaaGreatDoor
open Go.RowKit

abbrev Bs := List UInt8
/-- A byte as a cell holds it. -/
abbrev bv (b : UInt8) : Value := .int .u8 (b.toNat : Int)
/-- A text as a value. -/
abbrev sv (l : Bs) : Value := .string ⟨l.toArray⟩

theorem retB {a b : Bool} (h : a = b) : Ending.returned (.bool a) = .returned (.bool b) := by rw [h]
theorem retI {k : IntKind} {a b : Int} (h : a = b) : Ending.returned (.int k a) = .returned (.int k b) := by rw [h]
theorem retS {a b : Bs} (h : a = b) : Ending.returned (sv a) = .returned (sv b) := by rw [h]

theorem notT {x : Bool} (h : (!x) = true) : x = false := by simpa using h
theorem notF {x : Bool} (h : (!x) = false) : x = true := by simpa using h
theorem u8lt (b : UInt8) : (b.toNat : Int) ≤ 255 := by have := b.toNat_lt; omega
theorem u8inj {a b : UInt8} (h : a.toNat = b.toNat) : a = b := UInt8.toNat_inj.1 h

theorem str_eta (s : ByteArray) : s = ⟨s.data.toList.toArray⟩ := by cases s; rfl
theorem len_data (s : ByteArray) : s.data.toList.length = s.size := by cases s; rfl
theorem get_data (s : ByteArray) (k : Nat) (h : k < s.size) : s.data.toList[k]'(by rw [len_data]; exact h) = s[k] := rfl
theorem drop_cons (s : ByteArray) (k : Nat) (h : k < s.size) : s.data.toList.drop k = s[k] :: s.data.toList.drop (k + 1) := by
  rw [List.drop_eq_getElem_cons (by rw [len_data]; exact h), get_data s k h]
theorem drop_end (s : ByteArray) (k : Nat) (h : s.size ≤ k) : s.data.toList.drop k = [] := List.drop_of_length_le (by rw [len_data]; exact h)
/-- The bytes from k on, with the first one as a number. -/
theorem drop_bt (s : ByteArray) (k : Nat) (h : k < s.size) : ∃ b : UInt8, s.data.toList.drop k = b :: s.data.toList.drop (k + 1) ∧ PlainAid.bt s k = (b.toNat : Int) :=
  ⟨s[k], drop_cons s k h, (PlainAid.get_bt s k h).symm⟩
theorem ext_data (s : ByteArray) (a b : Nat) : (s.extract a b).data.toList = (s.data.toList.drop a).take (b - a) := by
  simp [ByteArray.data_extract, Array.toList_extract, List.extract]
theorem ext_from (s : ByteArray) (a : Nat) : (s.extract a s.size).data.toList = s.data.toList.drop a := by
  rw [ext_data, List.take_of_length_le (by rw [List.length_drop, len_data]; omega)]
theorem ext_to (s : ByteArray) (b : Nat) : (s.extract 0 b).data.toList = s.data.toList.take b := by
  rw [ext_data]; simp
theorem ext_size (s : ByteArray) (a b : Nat) (h1 : a ≤ b) (h2 : b ≤ s.size) : (s.extract a b).size = b - a := by
  rw [← len_data, ext_data, List.length_take, List.length_drop, len_data]; omega
theorem app_data (a b : ByteArray) : (a ++ b).data.toList = a.data.toList ++ b.data.toList := by
  simp [ByteArray.data_append]
theorem str_ext {a b : ByteArray} (h : a.data.toList = b.data.toList) : a = b := by
  rw [str_eta a, str_eta b, h]
theorem retStr {a b : ByteArray} (h : a.data.toList = b.data.toList) : Ending.returned (.string a) = .returned (.string b) := by rw [str_ext h]
/-- The last byte. -/
theorem last_bt (s : ByteArray) (h : 0 < s.size) : ∃ b : UInt8, s.data.toList = s.data.toList.take (s.size - 1) ++ [b] ∧ PlainAid.bt s (s.size - 1) = (b.toNat : Int) := by
  refine ⟨s[s.size - 1], ?_, (PlainAid.get_bt s _ (by omega)).symm⟩
  have h1 := List.take_append_drop (s.size - 1) s.data.toList
  rw [drop_cons s (s.size - 1) (by omega), drop_end s (s.size - 1 + 1) (by omega)] at h1
  exact h1.symm
end Go.Proofs.YtmjekdnfkgalbaaGreatDoor
namespace Go.Proofs.YtmjekdnfkgalbaaGreatDoor
open Go.RowKit

def lowB (c : Int) : Int := if 65 ≤ c ∧ c ≤ 90 then c + 32 else c
def alnumB (c : Int) : Bool := (97 ≤ c && c ≤ 122) || (65 ≤ c && c ≤ 90) || (48 ≤ c && c ≤ 57)
def valueB (c : Int) : Bool := c == 9 || (32 ≤ c && c != 127)
def inL (c : Int) (l : Bs) : Bool := l.any fun b => (b.toNat : Int) == c
def signs : Bs := [33, 35, 36, 37, 38, 39, 42, 43, 45, 46, 94, 95, 96, 124, 126]
def tokB (c : Int) : Bool := alnumB c || inL c signs
def allT (l : Bs) : Bool := l.all fun b => tokB b.toNat
def allV (l : Bs) : Bool := l.all fun b => valueB b.toNat
def digB (c : Int) : Int := if 48 ≤ c ∧ c ≤ 57 then c - 48 else if 97 ≤ lowB c ∧ lowB c ≤ 102 then lowB c - 87 else -1

set_option maxHeartbeats 400000 in
theorem ref_lower (c : Int) (w : World) (h0 : 0 ≤ c) (h1 : c ≤ 255) :
    Calls Tryz.prog 125 #[.int .u8 c] w fun e w' => e = .returned (.int .u8 (lowB c)) ∧ w = w' := by
  go_enter Tryz.func125, Tryz.ntmps125
  go_wp2
  all_goals (go_ret; exact ⟨retI (by unfold lowB; split <;> omega), rfl⟩)

set_option maxHeartbeats 400000 in
theorem ref_Alnum (c : Int) (w : World) (h0 : 0 ≤ c) (h1 : c ≤ 255) :
    Calls Tryz.prog 116 #[.int .u8 c] w fun e w' => e = .returned (.bool (alnumB c)) ∧ w = w' := by
  go_enter Tryz.func116, Tryz.ntmps116
  go_wp2
  all_goals (go_ret; exact ⟨retB (by rw [Bool.eq_iff_iff]; simp [alnumB]; omega), rfl⟩)

set_option maxHeartbeats 400000 in
theorem ref_ValueByte (c : Int) (w : World) (_h0 : 0 ≤ c) (_h1 : c ≤ 255) :
    Calls Tryz.prog 105 #[.int .u8 c] w fun e w' => e = .returned (.bool (valueB c)) ∧ w = w' := by
  go_enter Tryz.func105, Tryz.ntmps105
  go_wp2
  all_goals (go_ret; exact ⟨retB (by rw [Bool.eq_iff_iff]; simp [valueB]; try omega), rfl⟩)

set_option maxHeartbeats 400000 in
theorem ref_In (c : Int) (s : ByteArray) (w : World) (hs : s.size ≤ maxLen) (_h0 : 0 ≤ c) (_h1 : c ≤ 255) :
    Calls Tryz.prog 117 #[.int .u8 c, .string s] w fun e w' => e = .returned (.bool (inL c s.data.toList)) ∧ w = w' := by
  unfold maxLen at hs
  go_enter Tryz.func117, Tryz.ntmps117
  go_wp2
  go_loop [5] (fun i => ∃ k : Nat, k ≤ s.size ∧ i = .int .i64 k ∧ Hid (inL c s.data.toList = inL c (s.data.toList.drop k))) (fun i => s.size - (intOf i).toNat)
  case atStart => exact ⟨0, Nat.zero_le _, rfl, rfl⟩
  case round =>
    obtain ⟨k, hk, rfl, H⟩ := hrel
    by_cases hlt : k < s.size
    · obtain ⟨b, hb, hbt⟩ := drop_bt s k hlt
      have Hb := Lib.hid hb; clear hb
      have hbs := PlainAid.get_bt s
      go_wp2
      · have ht : ((b.toNat : Int) == c) = true := by assumption
        go_ret
        exact ⟨retB (by rw [H.out, Hb.out, inL, List.any_cons, ht]; rfl), rfl⟩
      · have ht : ((b.toNat : Int) == c) = false := by assumption
        go_round
        case rel => exact ⟨k + 1, by omega, by go_num, by rw [H.out, Hb.out, inL, List.any_cons, ht]; rfl⟩
        case measure => simp [intOf]; omega
    · go_wp2
      go_ret
      exact ⟨retB (by rw [H.out, drop_end s k (by omega)]; rfl), rfl⟩

set_option maxHeartbeats 400000 in
theorem ref_TokenByte (c : Int) (w : World) (h0 : 0 ≤ c) (h1 : c ≤ 255) :
    Calls Tryz.prog 94 #[.int .u8 c] w fun e w' => e = .returned (.bool (tokB c)) ∧ w = w' := by
  go_enter Tryz.func94, Tryz.ntmps94
  go_wp2_with (first
    | (go_at_call 116; refine (ref_Alnum _ _ h0 h1).mono ?_; rintro e w' ⟨rfl, rfl⟩)
    | (go_at_call 117; refine (ref_In _ _ _ (by decide) h0 h1).mono ?_; rintro e w' ⟨rfl, rfl⟩))
  all_goals go_ret
  all_goals exact ⟨retB (by simp [tokB, signs, *]), rfl⟩

set_option maxHeartbeats 400000 in
theorem ref_IsToken (s : ByteArray) (w : World) (hs : s.size ≤ maxLen) :
    Calls Tryz.prog 81 #[.string s] w fun e w' => e = .returned (.bool (allT s.data.toList && decide (0 < s.data.toList.length))) ∧ w = w' := by
  unfold maxLen at hs
  go_enter Tryz.func81, Tryz.ntmps81
  go_wp2
  go_loop [3] (fun i => ∃ k : Nat, k ≤ s.size ∧ i = .int .i64 k ∧ Hid (allT s.data.toList = allT (s.data.toList.drop k))) (fun i => s.size - (intOf i).toNat)
  case atStart => exact ⟨0, Nat.zero_le _, rfl, rfl⟩
  case round =>
    obtain ⟨k, hk, rfl, H⟩ := hrel
    by_cases hlt : k < s.size
    · obtain ⟨b, hb, hbt⟩ := drop_bt s k hlt
      have Hb := Lib.hid hb; clear hb
      have hbs := PlainAid.get_bt s
      go_wp2_with (go_at_call 94; refine (ref_TokenByte _ _ (by omega) (u8lt _)).mono ?_; rintro e w' ⟨rfl, rfl⟩)
      · skip
        have ht := notT ‹(!tokB (b.toNat : Int)) = true›
        go_ret
        exact ⟨retB (by rw [H.out, Hb.out, allT, List.all_cons, ht]; rfl), rfl⟩
      · have ht := notF ‹(!tokB (b.toNat : Int)) = false›
        go_round
        case rel => exact ⟨k + 1, by omega, by go_num, by rw [H.out, Hb.out, allT, List.all_cons, ht]; rfl⟩
        case measure => simp [intOf]; omega
    · go_wp2
      go_ret
      exact ⟨retB (by rw [H.out, drop_end s k (by omega)]; simp [allT]), rfl⟩

set_option maxHeartbeats 400000 in
theorem ref_IsValue (s : ByteArray) (w : World) (hs : s.size ≤ maxLen) :
    Calls Tryz.prog 82 #[.string s] w fun e w' => e = .returned (.bool (allV s.data.toList)) ∧ w = w' := by
  unfold maxLen at hs
  go_enter Tryz.func82, Tryz.ntmps82
  go_wp2
  go_loop [3] (fun i => ∃ k : Nat, k ≤ s.size ∧ i = .int .i64 k ∧ Hid (allV s.data.toList = allV (s.data.toList.drop k))) (fun i => s.size - (intOf i).toNat)
  case atStart => exact ⟨0, Nat.zero_le _, rfl, rfl⟩
  case round =>
    obtain ⟨k, hk, rfl, H⟩ := hrel
    by_cases hlt : k < s.size
    · obtain ⟨b, hb, hbt⟩ := drop_bt s k hlt
      have Hb := Lib.hid hb; clear hb
      have hbs := PlainAid.get_bt s
      go_wp2_with (go_at_call 105; refine (ref_ValueByte _ _ (by omega) (u8lt _)).mono ?_; rintro e w' ⟨rfl, rfl⟩)
      · have ht := notT ‹(!valueB (b.toNat : Int)) = true›
        go_ret
        exact ⟨retB (by rw [H.out, Hb.out, allV, List.all_cons, ht]; rfl), rfl⟩
      · have ht := notF ‹(!valueB (b.toNat : Int)) = false›
        go_round
        case rel => exact ⟨k + 1, by omega, by go_num, by rw [H.out, Hb.out, allV, List.all_cons, ht]; rfl⟩
        case measure => simp [intOf]; omega
    · go_wp2
      go_ret
      exact ⟨retB (by rw [H.out, drop_end s k (by omega)]; simp [allV]), rfl⟩

set_option maxHeartbeats 400000 in
theorem ref_Digit (c : Int) (w : World) (h0 : 0 ≤ c) (h1 : c ≤ 255) :
    Calls Tryz.prog 118 #[.int .u8 c] w fun e w' => e = .returned (.int .i64 (digB c)) ∧ w = w' := by
  have hl0 : 0 ≤ lowB c := by unfold lowB; split <;> omega
  have hl1 : lowB c ≤ 255 := by unfold lowB; split <;> omega
  go_enter Tryz.func118, Tryz.ntmps118
  go_wp2_with (go_at_call 125; refine (ref_lower _ _ h0 h1).mono ?_; rintro e w' ⟨rfl, rfl⟩)
  all_goals (go_ret; exact ⟨retI (by unfold digB; split <;> (try split) <;> omega), rfl⟩)

def isB (b : UInt8) : Bool := b == 9 || b == 32
def trimF (l : Bs) : Bs := l.dropWhile isB
def trimE (l : Bs) : Bs := (l.reverse.dropWhile isB).reverse
def trimL (l : Bs) : Bs := trimE (trimF l)
theorem isB_num (b : UInt8) : isB b = ((b.toNat : Int) == 9 || (b.toNat : Int) == 32) := by
  have h1 : (b == 9) = ((b.toNat : Int) == 9) := by rw [Bool.eq_iff_iff]; simp [← UInt8.toNat_inj]; omega
  have h2 : (b == 32) = ((b.toNat : Int) == 32) := by rw [Bool.eq_iff_iff]; simp [← UInt8.toNat_inj]; omega
  rw [isB, h1, h2]
theorem trimE_snoc (l : Bs) (b : UInt8) : trimE (l ++ [b]) = if isB b then trimE l else l ++ [b] := by
  unfold trimE
  rw [List.reverse_append]
  simp only [List.reverse_cons, List.reverse_nil, List.nil_append, List.cons_append, List.dropWhile_cons]
  split <;> simp

set_option maxHeartbeats 400000 in
theorem ref_Trim (s : ByteArray) (w : World) (hs : s.size ≤ maxLen) :
    Calls Tryz.prog 83 #[.string s] w fun e w' => ∃ t : ByteArray, e = .returned (.string t) ∧ t.data.toList = trimL s.data.toList ∧ w = w' := by
  unfold maxLen at hs
  go_enter Tryz.func83, Tryz.ntmps83
  go_wp2
  go_loop [0] (fun v => ∃ t : ByteArray, t.size ≤ s.size ∧ v = .string t ∧ Hid (trimF s.data.toList = trimF t.data.toList)) (fun v => match v with | .string t => t.size | _ => 0)
  case atStart => exact ⟨s, Nat.le_refl _, rfl, rfl⟩
  case round =>
    obtain ⟨t, ht, rfl, H⟩ := hrel
    have hbs := PlainAid.get_bt t
    by_cases hgo : ∃ b : UInt8, 0 < t.size ∧ t.data.toList.drop 0 = b :: t.data.toList.drop (0 + 1) ∧ PlainAid.bt t 0 = (b.toNat : Int) ∧ ((b.toNat : Int) == 9 || (b.toNat : Int) == 32) = true
    · obtain ⟨b, h0, hb, hbt, hc⟩ := hgo
      have Hb := Lib.hid hb; clear hb
      · have hstep : trimF s.data.toList = trimF (t.extract 1 t.size).data.toList := by
          rw [H.out, ext_from]
          have := Hb.out
          rw [List.drop_zero] at this
          rw [this, trimF, List.dropWhile_cons, isB_num, hc]; rfl
        have hsz : (t.extract 1 t.size).size = t.size - 1 := ext_size t 1 t.size (by omega) (Nat.le_refl _)
        have Hs := Lib.hid hstep; have Hz := Lib.hid hsz; clear hstep hsz
        go_wp2
        all_goals first
          | (go_round
             case rel => exact ⟨_, by rw [Hz.out]; omega, rfl, Hs⟩
             case measure => simp only []; rw [Hz.out]; omega)
          | (exfalso; simp_all; done)
    · have hfix : trimF s.data.toList = t.data.toList ∧ (t.size = 0 ∨ ∃ b : UInt8, 0 < t.size ∧ PlainAid.bt t 0 = (b.toNat : Int) ∧ ((b.toNat : Int) == 9) = false ∧ ((b.toNat : Int) == 32) = false) := by
        rw [H.out]
        by_cases h0 : 0 < t.size
        · obtain ⟨b, hb, hbt⟩ := drop_bt t 0 h0
          by_cases hc : ((b.toNat : Int) == 9 || (b.toNat : Int) == 32) = true
          · exact absurd ⟨b, h0, hb, hbt, hc⟩ hgo
          · refine ⟨?_, .inr ⟨b, h0, hbt, by simpa using hc⟩⟩
            rw [List.drop_zero] at hb
            rw [hb, trimF, List.dropWhile_cons, isB_num, Bool.eq_false_iff.2 hc]; rfl
        · refine ⟨?_, .inl (by omega)⟩
          rw [show t.data.toList = [] from List.eq_nil_of_length_eq_zero (by rw [len_data]; omega)]; rfl
      obtain ⟨hfix, hcase⟩ := hfix
      have Hf := Lib.hid hfix; clear hfix hgo H
      have hE : Hid (trimL s.data.toList = trimE t.data.toList) := by unfold trimL; rw [Hf.out]; rfl
      clear Hf
      rcases hcase with h0 | ⟨b, h0, hbt, hc1, hc2⟩
      all_goals
        go_wp2
        go_loop [0] (fun v => ∃ u : ByteArray, u.size ≤ t.size ∧ v = .string u ∧ Hid (trimL s.data.toList = trimE u.data.toList)) (fun v => match v with | .string t => t.size | _ => 0)
        case atStart => exact ⟨t, Nat.le_refl _, rfl, hE⟩
        case round =>
          obtain ⟨u, hu, rfl, H⟩ := hrel
          clear hbs hE
          try clear hbt hc1 hc2
          have hbs := PlainAid.get_bt u
          by_cases h0 : 0 < u.size
          · obtain ⟨b, hb, hbt⟩ := last_bt u h0
            have Hb := Lib.hid hb; clear hb
            by_cases hc : ((b.toNat : Int) == 9 || (b.toNat : Int) == 32) = true
            · have hstep : trimL s.data.toList = trimE (u.extract 0 (u.size - 1)).data.toList := by
                rw [H.out, ext_to]
                conv => lhs; rw [Hb.out]
                rw [trimE_snoc, isB_num, if_pos hc]
              have hsz : (u.extract 0 (u.size - 1)).size = u.size - 1 := ext_size u 0 (u.size - 1) (by omega) (by omega)
              have Hs := Lib.hid hstep; have Hz := Lib.hid hsz; clear hstep hsz
              go_wp2
              all_goals first
                | (go_round
                   case rel => exact ⟨_, by rw [Hz.out]; omega, rfl, Hs⟩
                   case measure => simp only []; rw [Hz.out]; omega)
                | (exfalso; simp_all; done)
            · have hfin : trimL s.data.toList = u.data.toList := by
                rw [H.out]
                conv => lhs; rw [Hb.out]
                rw [trimE_snoc, isB_num, if_neg hc, ← Hb.out]
              have Hf := Lib.hid hfin; clear hfin
              have hcs : ((b.toNat : Int) == 9) = false ∧ ((b.toNat : Int) == 32) = false := by simpa using hc
              obtain ⟨hc1, hc2⟩ := hcs
              clear hc
              go_wp2
              all_goals first
                | (go_ret; exact ⟨u, rfl, Hf.out.symm, rfl⟩)
          · have hfin : trimL s.data.toList = u.data.toList := by
              rw [H.out, show u.data.toList = [] from List.eq_nil_of_length_eq_zero (by rw [len_data]; omega)]; rfl
            have Hf := Lib.hid hfin; clear hfin
            go_wp2
            all_goals first
              | (go_ret; exact ⟨u, rfl, Hf.out.symm, rfl⟩)
end Go.Proofs.YtmjekdnfkgalbaaGreatDoor
namespace Go.Proofs.YtmjekdnfkgalbaaGreatDoor
open Go.RowKit

/-- Only the blocks of S, and new ones, may have turned. -/
structure Fr (S : Nat → Prop) (w w' : World) : Prop where
  os : w'.os = w.os
  tape : w'.tape = w.tape
  output : w'.output = w.output
  size : w.heap.size ≤ w'.heap.size
  block : ∀ k, k < w.heap.size → ¬ S k → w'.heap[k]? = w.heap[k]?

namespace Fr
variable {S T : Nat → Prop} {w w' w'' : World}
theorem refl (S : Nat → Prop) (w : World) : Fr S w w := ⟨rfl, rfl, rfl, Nat.le_refl _, fun _ _ _ => rfl⟩
theorem trans (h : Fr S w w') (k : Fr T w' w'') (hT : ∀ i, T i → S i ∨ w.heap.size ≤ i) : Fr S w w'' :=
  ⟨k.os.trans h.os, k.tape.trans h.tape, k.output.trans h.output, Nat.le_trans h.size k.size, fun i hi hs =>
    (k.block i (Nat.lt_of_lt_of_le hi h.size) (fun ht => by rcases hT i ht with h1 | h1; exact hs h1; omega)).trans (h.block i hi hs)⟩
theorem mono (h : Fr S w w') (hS : ∀ i, S i → T i ∨ w.heap.size ≤ i) : Fr T w w' :=
  ⟨h.os, h.tape, h.output, h.size, fun i hi ht => h.block i hi (fun hs => by rcases hS i hs with h1 | h1; exact ht h1; omega)⟩
theorem drew (h : Fr S w w') : Fr S w w'.drew := ⟨h.os, h.tape, h.output, h.size, h.block⟩
theorem drewN (h : Fr S w w') (n : Nat) : Fr S w (w'.drewN n) := ⟨h.os, h.tape, h.output, h.size, h.block⟩
theorem alloc (h : Fr S w w') (o : Obj) : Fr S w (w'.alloc o) :=
  ⟨h.os, h.tape, h.output, Nat.le_trans h.size (by simp), fun i hi hs => (Below.heap_alloc w' o i (Nat.lt_of_lt_of_le hi h.size)).trans (h.block i hi hs)⟩
theorem setCell (h : Fr S w w') {p : Addr} (hp : S p.block ∨ w.heap.size ≤ p.block) (u : Value) : Fr S w (w'.setCell p u) :=
  ⟨h.os, h.tape, h.output, by simpa [World.setCell] using h.size, fun i hi hs => (Below.heap_setCell w' p u i (by rintro rfl; rcases hp with hp | hp; exact hs hp; omega)).trans (h.block i hi hs)⟩
theorem ofGrown {row : Option Nat} (h : w.grownBy w' row) : Fr (fun k => some k = row) w w' := ⟨h.os, h.tape, h.output, h.size, fun k hk hs => h.block k hk hs⟩
theorem ofBelow {B : Nat} (h : Below B w w') : Fr (fun k => B ≤ k) w w' := ⟨h.os, h.tape, h.output, h.size, fun k _ hs => h.block k (by omega)⟩
theorem toBelow (h : Fr S w w') {B : Nat} (hB : B ≤ w.heap.size) (hS : ∀ i, S i → B ≤ i) : Below B w w' :=
  ⟨h.os, h.tape, h.output, h.size, fun k hk => h.block k (by omega) (fun hs => by have := hS k hs; omega)⟩
theorem cell (h : Fr S w w') {p : Addr} (hp : p.block < w.heap.size) (hs : ¬ S p.block) : w'.cell? p = w.cell? p := World.cell?_of_block (h.block p.block hp hs)
theorem frozen (h : Fr S w w') {p : Addr} (hp : p.block < w.heap.size) (hs : ¬ S p.block) : w'.frozen? p = w.frozen? p := World.frozen?_of_block (h.block p.block hp hs)
end Fr

theorem below_drewN' {B : Nat} {a w : World} (h : Below B a w) (n : Nat) : Below B a (w.drewN n) := ⟨h.os, h.tape, h.output, h.size, h.block⟩
theorem add_lit' (b o j : Nat) : (⟨b, o, none⟩ : Addr).add j = ⟨b, o + j, none⟩ := by unfold Addr.add; split <;> simp_all

/-- The slice at A of n elements (size cells each) holds the cells xs, in a block below B. -/
def Rd (w : World) (B size : Nat) (A : Option Addr) (n : Nat) (xs : List Value) : Prop :=
  xs.length = n * size ∧ (0 < n → ∃ b o, A = some ⟨b, o, none⟩ ∧ b < B ∧ ∀ j u, xs[j]? = some u → w.cell? ⟨b, o + j, none⟩ = some u)

namespace Rd
variable {w w' : World} {B B' size n : Nat} {A : Option Addr} {xs : List Value}
theorem nil (w : World) (B size : Nat) (A : Option Addr) : Rd w B size A 0 [] := ⟨by simp, fun h => absurd h (Nat.lt_irrefl 0)⟩
theorem at_ (h : Rd w B size A n xs) (hn : 0 < n) : ∃ b o, A = some ⟨b, o, none⟩ ∧ b < B ∧ ∀ j u, xs[j]? = some u → w.cell? ⟨b, o + j, none⟩ = some u := h.2 hn
theorem keep (h : Rd w B size A n xs) (hk : ∀ p : Addr, p.block < B → w'.cell? p = w.cell? p) : Rd w' B size A n xs :=
  ⟨h.1, fun hn => by obtain ⟨b, o, e, hb, hc⟩ := h.2 hn; exact ⟨b, o, e, hb, fun j u hu => (hk ⟨b, o + j, none⟩ hb).trans (hc j u hu)⟩⟩
theorem more (h : Rd w B size A n xs) (hB : B ≤ B') : Rd w B' size A n xs := ⟨h.1, fun hn => by obtain ⟨b, o, e, hb, hc⟩ := h.2 hn; exact ⟨b, o, e, by omega, hc⟩⟩
theorem below (h : Rd w B size A n xs) (hb : Below B w w') : Rd w' B size A n xs := h.keep fun _ hp => hb.cell hp
theorem drew (h : Rd w B size A n xs) : Rd w.drew B size A n xs := h
theorem drewN (h : Rd w B size A n xs) (k : Nat) : Rd (w.drewN k) B size A n xs := h
theorem alloc (h : Rd w B size A n xs) (hB : B ≤ w.heap.size) (o : Obj) : Rd (w.alloc o) B size A n xs := h.below ((Below.refl _ _).alloc hB o)
/-- x[k:] with k below the capacity. -/
theorem cutFrom (h : Rd w B size A n xs) {k : Nat} (hk : k ≤ n) : Rd w B size (A.map (·.add (k * size))) (n - k) (xs.drop (k * size)) := by
  refine ⟨by rw [List.length_drop, h.1, Nat.sub_mul], fun hn => ?_⟩
  obtain ⟨b, o, rfl, hb, hc⟩ := h.2 (by omega)
  refine ⟨b, o + k * size, by simp [add_lit'], hb, fun j u hu => ?_⟩
  rw [Nat.add_assoc]
  exact hc _ u (by rw [← hu, List.getElem?_drop])
/-- x[:k]. -/
theorem cutTo (h : Rd w B size A n xs) {k : Nat} (hk : k ≤ n) : Rd w B size A k (xs.take (k * size)) := by
  refine ⟨by rw [List.length_take, h.1]; exact Nat.min_eq_left (Nat.mul_le_mul_right _ hk), fun hn => ?_⟩
  obtain ⟨b, o, e, hb, hc⟩ := h.2 (by omega)
  refine ⟨b, o, e, hb, fun j u hu => hc j u ?_⟩
  rw [List.getElem?_take] at hu
  split at hu
  · exact hu
  · cases hu
/-- A new row. -/
theorem new (w : World) (g : Nat) (hg : g = w.heap.size) (cs : List Value) (t : TypeId) (n size : Nat) (h : cs.length = n * size) : Rd (w.alloc (.cells cs.toArray t)) (g + 1) size (some ⟨g, 0, none⟩) n cs :=
  ⟨h, fun _ => ⟨g, 0, rfl, by omega, fun j u hu => by rw [World.cell?_alloc_at _ _ _ _ (by omega)]; simpa using hu⟩⟩
end Rd
theorem bcell {W w1 : World} (hb : Below W.heap.size W w1) : (∀ b o, b < W.heap.size → w1.cell? ⟨b, o, none⟩ = W.cell? ⟨b, o, none⟩) ∧ (∀ b o, b < W.heap.size → w1.frozen? ⟨b, o, none⟩ = W.frozen? ⟨b, o, none⟩) :=
  ⟨fun b o h => hb.cell (p := ⟨b, o, none⟩) h, fun b o h => hb.frozen (p := ⟨b, o, none⟩) h⟩

/-- No place below k bears the mark fr. -/
def freeOf (fr : Nat × Nat) (k : Nat) : Prop := fr.2 ≤ fr.1 ∨ k ≤ fr.1

/-- The slice v of n elements owns the cells xs: nil, or at the head of a row in a block from base on, whose cells may be written. -/
def Own (w : World) (base : Nat) (e : TypeId) (size : Nat) (v : Value) (n : Nat) (xs : List Value) : Prop :=
  xs.length = n * size ∧
  ((v = .slice none 0 0 ∧ n = 0) ∨
   ∃ g cap cur fr, v = .slice (some ⟨g, 0, none⟩) n cap ∧ base ≤ g ∧ w.heap[g]? = some (.cells cur e fr) ∧ freeOf fr (cap * size) ∧ n ≤ cap ∧ cap ≤ maxLen ∧ cur.size = cap * size ∧ cur.toList.take (n * size) = xs)

theorem run_storeCells_fr (P : Program) (g o : Nat) (t : TypeId) (fr : Nat × Nat) : ∀ (vs : List Value) (i : Nat) (cur : Array Value) (w : World), w.heap[g]? = some (.cells cur t fr) → freeOf fr cur.size → o + i + vs.length ≤ cur.size → (∀ v ∈ vs, v.oneCell' = true) →
    (storeCells ⟨g, o, none⟩ vs i).run P w = .ok () (w.setRow g (cur.toList.take (o + i) ++ vs ++ cur.toList.drop (o + i + vs.length)).toArray)
  | [], i, cur, w, hg, _, _, _ => by
    simp only [storeCells, List.append_nil, List.length_nil, Nat.add_zero, List.take_append_drop, Array.toArray_toList]
    rw [setRow_self w g cur t fr hg]
    rfl
  | v :: rest, i, cur, w, hg, hfr, hl, h1 => by
    have hi : o + i < cur.size := by simp at hl; omega
    have hadd : (⟨g, o, none⟩ : Addr).add i = ⟨g, o + i, none⟩ := by unfold Addr.add; split <;> simp_all
    have hcell : w.cell? ⟨g, o + i, none⟩ = some cur[o + i] := by simp [World.cell?, hg, hi]
    have hfro : w.frozen? ⟨g, o + i, none⟩ = false := by
      obtain ⟨lo, hi'⟩ := fr
      simp only [World.frozen?, hg]
      unfold freeOf at hfr
      simp only at hfr
      rw [Bool.and_eq_false_iff]
      rcases Nat.lt_or_ge (o + i) lo with h | h
      · exact .inl (by simp; omega)
      · exact .inr (by simp; omega)
    have hst : (store ((⟨g, o, none⟩ : Addr).add i) v).run P w = .ok () (w.setRow g (cur.setIfInBounds (o + i) v)) := by
      rw [hadd, run_store P w _ v _ (h1 v (by simp)), hcell]
      simp [hfro, setCell_eq_setRow w g (o + i) cur t fr v hg]
    have ih := run_storeCells_fr P g o t fr rest (i + 1) (cur.setIfInBounds (o + i) v) (w.setRow g (cur.setIfInBounds (o + i) v)) (setRow_heap w g cur _ t _ hg) (by simpa using hfr) (by simp at hl ⊢; omega) (fun x hx => h1 x (by simp [hx]))
    simp only [storeCells, Sem.run_bind, hst, Result.andThen_ok, ih, setRow_setRow]
    congr 3
    have e := list_seg_step cur.toList (o + i) v rest (by simp at hl ⊢; omega)
    simpa [Array.toList_setIfInBounds, Nat.add_assoc] using e

namespace Own
variable {w w' : World} {base e size : Nat} {v : Value} {n : Nat} {xs : List Value}
theorem nil (w : World) (base : Nat) (e : TypeId) (size : Nat) : Own w base e size (.slice none 0 0) 0 [] := ⟨by simp, .inl ⟨rfl, rfl⟩⟩
theorem of (h : w.ownsRow base e size v n xs) : Own w base e size v n xs :=
  ⟨h.1, h.2.imp id fun ⟨g, cap, cur, h1, h2, h3, h4, h5, h6, h7⟩ => ⟨g, cap, cur, (0, 0), h1, h2, h3, .inl (Nat.le_refl _), h4, h5, h6, h7⟩⟩
theorem lt (h : Own w base e size v n xs) : ∀ k, v.ownBlock = some k → base ≤ k ∧ k < w.heap.size := by
  intro k hk
  rcases h.2 with ⟨rfl, _⟩ | ⟨g, cap, cur, fr, rfl, hb, hg, _⟩
  · simp [Value.ownBlock] at hk
  · simp [Value.ownBlock] at hk
    subst hk
    exact ⟨hb, (Array.getElem?_eq_some_iff.1 hg).1⟩
theorem keep (h : Own w base e size v n xs) (hk : ∀ k, v.ownBlock = some k → w'.heap[k]? = w.heap[k]?) : Own w' base e size v n xs := by
  refine ⟨h.1, ?_⟩
  rcases h.2 with hn | ⟨g, cap, cur, fr, rfl, hb, hg, rest⟩
  · exact .inl hn
  · exact .inr ⟨g, cap, cur, fr, rfl, hb, by rw [hk g (by simp [Value.ownBlock])]; exact hg, rest⟩
theorem fr {S : Nat → Prop} (h : Own w base e size v n xs) (hf : Fr S w w') (hs : ∀ k, v.ownBlock = some k → ¬ S k) : Own w' base e size v n xs :=
  h.keep fun k hk => hf.block k (h.lt k hk).2 (hs k hk)
theorem grown {row : Option Nat} (h : Own w base e size v n xs) (hg : w.grownBy w' row) (hne : v.ownBlock = none ∨ v.ownBlock ≠ row) : Own w' base e size v n xs :=
  h.keep fun k hk => hg.block k (h.lt k hk).2 (fun e => by rcases hne with h1 | h1; rw [h1] at hk; cases hk; exact h1 (hk.trans e))
theorem below {B : Nat} (h : Own w base e size v n xs) (hb : Below B w w') (hB : ∀ k, v.ownBlock = some k → k < B) : Own w' base e size v n xs :=
  h.keep fun k hk => hb.block k (hB k hk)
theorem alloc (h : Own w base e size v n xs) (o : Obj) : Own (w.alloc o) base e size v n xs := h.keep fun k hk => Below.heap_alloc w o k (h.lt k hk).2
theorem drew (h : Own w base e size v n xs) : Own w.drew base e size v n xs := h
theorem drewN (h : Own w base e size v n xs) (m : Nat) : Own (w.drewN m) base e size v n xs := h
theorem base_le {base' : Nat} (h : Own w base e size v n xs) (hb : base' ≤ base) : Own w base' e size v n xs :=
  ⟨h.1, h.2.imp id fun ⟨g, cap, cur, fr, h1, h2, r⟩ => ⟨g, cap, cur, fr, h1, by omega, r⟩⟩
/-- What it holds may be read. -/
theorem rd (h : Own w base e size v n xs) : ∃ A c, v = .slice A n c ∧ n ≤ c ∧ c ≤ maxLen ∧ Rd w w.heap.size size A n xs ∧ (A = none → c = 0) := by
  rcases h.2 with ⟨rfl, rfl⟩ | ⟨g, cap, cur, fr, rfl, hb, hg, hfr, hnc, hcm, hcs, htk⟩
  · exact ⟨none, 0, rfl, Nat.le_refl _, Nat.zero_le _, ⟨h.1, fun h => absurd h (Nat.lt_irrefl 0)⟩, fun _ => rfl⟩
  · refine ⟨some ⟨g, 0, none⟩, cap, rfl, hnc, hcm, ⟨h.1, fun _ => ⟨g, 0, rfl, (Array.getElem?_eq_some_iff.1 hg).1, fun j u hu => ?_⟩⟩, by simp⟩
    rw [Nat.zero_add, cell_of_row w g j cur e fr hg]
    rw [← htk, List.getElem?_take] at hu
    split at hu
    · simpa using hu
    · cases hu
theorem form (h : Own w base e size v n xs) (hn : 0 < n) : ∃ g cap, v = .slice (some ⟨g, 0, none⟩) n cap ∧ base ≤ g ∧ g < w.heap.size ∧ n ≤ cap := by
  rcases h.2 with ⟨_, h0⟩ | ⟨g, cap, cur, fr, hv, hb, hg, _, hnc, _⟩
  · omega
  · exact ⟨g, cap, hv, hb, (Array.getElem?_eq_some_iff.1 hg).1, hnc⟩
/-- A cell that is owned is there, and may be written. -/
theorem cellAt {g cap : Nat} (h : Own w base e size (.slice (some ⟨g, 0, none⟩) n cap) n xs) (j : Nat) (hj : j < n * size) : w.cell? ⟨g, j, none⟩ = xs[j]? ∧ w.frozen? ⟨g, j, none⟩ = false := by
  rcases h.2 with ⟨h', _⟩ | ⟨g', cap', cur, fr, h', hb, hg, hfr, hnc, hcm, hcs, htk⟩
  · simp at h'
  · simp only [Value.slice.injEq, Option.some.injEq, Addr.mk.injEq, and_true, true_and] at h'
    obtain ⟨rfl, rfl⟩ := h'
    have hjc : j < cap * size := Nat.lt_of_lt_of_le hj (Nat.mul_le_mul_right _ hnc)
    refine ⟨?_, ?_⟩
    · rw [cell_of_row w g j cur e fr hg, ← htk, List.getElem?_take, if_pos hj]; simp
    · obtain ⟨lo, hi⟩ := fr
      simp only [World.frozen?, hg]
      unfold freeOf at hfr
      simp only at hfr
      rw [Bool.and_eq_false_iff]
      rcases Nat.lt_or_ge j lo with h | h
      · exact .inl (by simp; omega)
      · exact .inr (by simp; omega)
theorem stored {g cap : Nat} (h : Own w base e size (.slice (some ⟨g, 0, none⟩) n cap) n xs) (j : Nat) (u : Value) :
    Own (w.setCell ⟨g, j, none⟩ u) base e size (.slice (some ⟨g, 0, none⟩) n cap) n (xs.set j u) ∧ w.grownBy (w.setCell ⟨g, j, none⟩ u) (some g) := by
  rcases h.2 with ⟨h', _⟩ | ⟨g', cap', cur, fr, h', hb, hg, hfr, hnc, hcm, hcs, htk⟩
  · simp at h'
  · simp only [Value.slice.injEq, Option.some.injEq, Addr.mk.injEq, and_true, true_and] at h'
    obtain ⟨rfl, rfl⟩ := h'
    refine ⟨⟨by simpa using h.1, .inr ⟨g, cap, cur.setIfInBounds j u, fr, rfl, hb, ?_, hfr, hnc, hcm, by simpa using hcs, ?_⟩⟩,
      ⟨rfl, rfl, rfl, by simp [World.setCell], fun k _ hk => Below.heap_setCell w ⟨g, j, none⟩ u k (fun e => hk (by simp [e]))⟩⟩
    · simp [World.setCell, Array.getElem?_modify, hg]
    · rw [Array.toList_setIfInBounds, ← htk, List.take_set]
/-- v[:k], k within its length. -/
theorem cut (h : Own w base e size v n xs) {k : Nat} (hk : k ≤ n) (hv : 0 < n) : ∃ g cap, v = .slice (some ⟨g, 0, none⟩) n cap ∧ Own w base e size (.slice (some ⟨g, 0, none⟩) k cap) k (xs.take (k * size)) := by
  rcases h.2 with ⟨_, h0⟩ | ⟨g, cap, cur, fr, hv', hb, hg, hfr, hnc, hcm, hcs, htk⟩
  · omega
  · refine ⟨g, cap, hv', by rw [List.length_take, h.1]; exact Nat.min_eq_left (Nat.mul_le_mul_right _ hk), .inr ⟨g, cap, cur, fr, rfl, hb, hg, hfr, by omega, hcm, hcs, ?_⟩⟩
    rw [← htk, List.take_take, Nat.min_eq_left (Nat.mul_le_mul_right _ hk)]
end Own

/-- What may be appended: m elements, the cells news. -/
structure Src (P : Program) (w : World) (size : Nat) (x : Value) (m : Nat) (news : List Value) : Prop where
  len : ∀ w, (Builtin.lenOf x).run P w = .ok m w
  here : (Builtin.firstCells size m x).run P w = .ok news.toArray w
  drew : (Builtin.firstCells size m x).run P w.drew = .ok news.toArray w.drew
  one : ∀ u ∈ news, u.oneCell' = true
  long : news.length = m * size

theorem Src.of_rd {P : Program} {w : World} {B size : Nat} {A : Option Addr} {m c : Nat} {news : List Value} (h : Rd w B size A m news) (h1 : ∀ u ∈ news, u.oneCell' = true) : Src P w size (.slice A m c) m news := by
  have key : ∀ w0 : World, Rd w0 B size A m news → (Builtin.firstCells size m (.slice A m c)).run P w0 = .ok news.toArray w0 := by
    intro w0 h
    rcases Nat.eq_zero_or_pos m with rfl | hm
    · have hn : news = [] := List.eq_nil_of_length_eq_zero (by simpa using h.1)
      subst hn
      cases A with
      | none => simp [Builtin.firstCells]
      | some a => simp [Builtin.firstCells, loadCells, loadCellsFrom]
    · obtain ⟨b, o, rfl, _, hc⟩ := h.2 hm
      exact run_firstCells_some w0 size m ⟨b, o, none⟩ m c news h.1 (fun j u hu => by rw [add_lit']; exact hc j u hu)
  exact ⟨fun w => by simp [Builtin.lenOf], key w h, key _ h.drew, h1, h.1⟩
theorem Src.of_string {P : Program} {w : World} (l : Bs) : Src P w 1 (sv l) l.length (l.map bv) := by
  have key : ∀ w0 : World, (Builtin.firstCells 1 l.length (sv l)).run P w0 = .ok (l.map bv).toArray w0 := by
    intro w0
    simp [Builtin.firstCells, ByteArray.extract_mk]
  exact ⟨fun w => by simp [Builtin.lenOf, ByteArray.size], key w, key _, fun u hu => by obtain ⟨b, _, rfl⟩ := List.mem_map.1 hu; rfl, by simp⟩

theorem run_append_Own {P : Program} (w : World) (base : Nat) (t xt ty e : TypeId) (i : TypeInfo) (z : Value) (size bytes : Nat) (ht : P.underlying t = some (.slice e))
    (hxt : P.underlying xt = some (.slice e) ∨ P.underlying xt = some .string) (hi : P.info? e = some i) (hz : i.zero = some z)
    (hsize : i.size = size) (hby : i.bytes = bytes) (hzs : z.cells.size = size) (_hsz : 0 < size)
    (v : Value) (n : Nat) (xs : List Value) (hown : Own w base e size v n xs) (x : Value) (m : Nat) (news : List Value) (hx : Src P w size x m news)
    (h63 : n + m ≤ maxLen) (hbytes : (n + m) * bytes ≤ 140737488355328) (hbase : base ≤ w.heap.size) :
    ∃ v' w', (Builtin.append_ #[t, xt] ty #[v, x]).run P w = .ok v' w' ∧ Own w' base e size v' (n + m) (xs ++ news) ∧ w.grownBy w' v.ownBlock ∧
      (v'.ownBlock = v.ownBlock ∨ v'.ownBlock = some w.heap.size) := by
  subst hsize
  subst hby
  have hsmall : ¬ (9223372036854775807 < (n : Int) + (m : Int)) := by simp only [maxLen] at h63; omega
  have hlen : (xs ++ news).length = (n + m) * i.size := by rw [List.length_append, hown.1, hx.long, Nat.add_mul]
  have hl := hx.len
  have hh := hx.here
  have hd := hx.drew
  have grown : ∀ (old : Nat), old < n + m → ∀ (row : Option Nat),
      Own (w.drew.alloc (.cells (xs.toArray ++ news.toArray ++ Builtin.zeroCells z.cells (grownCap w (n + m) old e - (n + m))) e)) base e i.size
        (.slice (some ⟨w.heap.size, 0, none⟩) (n + m) (grownCap w (n + m) old e)) (n + m) (xs ++ news) ∧
      w.grownBy (w.drew.alloc (.cells (xs.toArray ++ news.toArray ++ Builtin.zeroCells z.cells (grownCap w (n + m) old e - (n + m))) e)) row := by
    intro old ho row
    have hge := grownCap_ge w (n + m) old e
    have hcm : grownCap w (n + m) old e ≤ maxLen := grownCap_le_maxLen w (n + m) old e h63
    refine ⟨⟨hlen, .inr ⟨w.heap.size, _, _, (0, 0), rfl, hbase, heap_alloc_new w.drew _, .inl (Nat.le_refl _), hge, hcm, ?_, ?_⟩⟩, ⟨rfl, rfl, rfl, by simp, fun k hk _ => Below.heap_alloc w.drew _ k hk⟩⟩
    · simp only [Array.size_append, List.size_toArray, size_zeroCells, hzs, hown.1, hx.long, ← Nat.add_mul]
      congr 1
      omega
    · simp only [Array.toList_append, List.append_assoc]
      rw [← List.append_assoc, ← hlen]
      exact List.take_left
  have hxt' : ∀ w0 : World, (do pure ((← underlying xt) matches .int _) : Sem Bool).run P w0 = .ok false w0 := by
    intro w0
    rcases hxt with h | h <;> simp [run_underlying h]
  rcases hown.2 with ⟨rfl, rfl⟩ | ⟨g, cap, cur, fr, rfl, hbg, hg, hfr, hnc, hcm, hcs, htake⟩
  · have hx0 : xs = [] := List.eq_nil_of_length_eq_zero (by simpa using hown.1)
    subst hx0
    by_cases hm : m = 0
    · subst hm
      have hn : news = [] := List.eq_nil_of_length_eq_zero (by simpa using hx.long)
      subst hn
      refine ⟨.slice none 0 0, w, ?_, Own.nil w base e i.size, ⟨rfl, rfl, rfl, Nat.le_refl _, fun _ _ _ => rfl⟩, .inl rfl⟩
      rcases hxt with h | h <;> simp [Builtin.append_, run_underlying ht, run_underlying h, sizeOf, typeInfo, hi, hl, hh]
    · have h48' : ¬ (281474976710656 < Builtin.nextslicecap m 0 * i.bytes) := by rw [nextslicecap_zero (by omega)]; simp only [Nat.zero_add] at hbytes; omega
      have hgr := grown 0 (by omega) (Value.ownBlock (.slice none 0 0))
      simp only [Nat.zero_add, List.nil_append, Array.empty_append] at hgr hsmall ⊢
      have hs' : ¬ (9223372036854775807 < (m : Int)) := by simp at hsmall; omega
      refine ⟨_, _, ?_, hgr.1, hgr.2, .inr rfl⟩
      rcases hxt with h | h <;> simp [Builtin.append_, run_underlying ht, run_underlying h, sizeOf, typeInfo, zeroValue, hi, hz, hl, hd, hm, hs', h48', Question.forced, run_firstCells_none, newRow, grownCap]
  · by_cases hroom : n + m ≤ cap
    · have hfit : n * i.size + news.length ≤ cur.size := by rw [hx.long, hcs, ← Nat.add_mul]; exact Nat.mul_le_mul_right _ hroom
      have hst := run_storeCells_fr P g (n * i.size) e fr news 0 cur w hg (by rw [hcs]; exact hfr) (by simpa using hfit) hx.one
      simp only [Nat.add_zero] at hst
      refine ⟨.slice (some ⟨g, 0, none⟩) (n + m) cap, w.setRow g (cur.toList.take (n * i.size) ++ news ++ cur.toList.drop (n * i.size + news.length)).toArray, ?_,
        ⟨hlen, .inr ⟨g, cap, _, fr, rfl, hbg, setRow_heap w g cur _ e _ hg, hfr, hroom, hcm, ?_, ?_⟩⟩,
        ⟨rfl, rfl, rfl, by simp [World.setRow], fun k _ hk => setRow_other w g k _ (fun e => hk (by simp [Value.ownBlock, e]))⟩, .inl rfl⟩
      · rcases hxt with h | h <;> simp [Builtin.append_, run_underlying ht, run_underlying h, sizeOf, typeInfo, hi, hl, hh, hroom, Addr.add_lit, hst]
      · simp only [List.size_toArray, List.length_append, List.length_take, List.length_drop, Array.length_toList]
        omega
      · rw [htake, ← hlen]
        exact List.take_left
    · have hn' : ¬ (n + m ≤ cap) := hroom
      have h48' : ¬ (281474976710656 < Builtin.nextslicecap (n + m) cap * i.bytes) := by have := growslice_fits (need := n + m) (old := cap) (by omega) hbytes; omega
      have hold : (Builtin.firstCells i.size n (.slice (some ⟨g, 0, none⟩) n cap)).run P w.drew = .ok xs.toArray w.drew := by
        refine run_firstCells_some w.drew i.size n ⟨g, 0, none⟩ n cap xs hown.1 (fun j u hu => ?_)
        rw [add_lit', Nat.zero_add]
        show w.cell? ⟨g, j, none⟩ = some u
        rw [cell_of_row w g j cur e fr hg]
        rw [← htake, List.getElem?_take] at hu
        split at hu
        · simpa using hu
        · cases hu
      have hgr := grown cap (by omega) (Value.ownBlock (.slice (some ⟨g, 0, none⟩) n cap))
      refine ⟨_, _, ?_, hgr.1, hgr.2, .inr rfl⟩
      have e3 : (xs.toArray ++ news.toArray ++ Builtin.zeroCells z.cells (grownCap w (n + m) cap e - (n + m))) = xs.toArray ++ (news.toArray ++ Builtin.zeroCells z.cells (grownCap w (n + m) cap e - (n + m))) := by rw [Array.append_assoc]
      rcases hxt with h | h <;> simp [Builtin.append_, run_underlying ht, run_underlying h, sizeOf, typeInfo, zeroValue, hi, hz, hl, hd, hn', hsmall, h48', hold, Question.forced, newRow, grownCap]
      all_goals (congr 2; apply Array.ext'; simp)

theorem wpList_append_Own {P : Program} (w : World) {ops : Array Oper} {rest : List Oper} {o : Oper} {a : Act} {Q : Exit → Act → World → Prop} (hgd : o.guard = none) (s x : Operand) (t xt : TypeId)
    (ho : o.op = .call { callee := .builtin .append, args := #[s, x], argTypes := #[t, xt] })
    (base : Nat) (e : TypeId) (i : TypeInfo) (z : Value) (size bytes : Nat) (ht : P.underlying t = some (.slice e)) (hxt : P.underlying xt = some (.slice e) ∨ P.underlying xt = some .string) (hi : P.info? e = some i) (hz : i.zero = some z)
    (hsize : i.size = size) (hby : i.bytes = bytes) (hzs : z.cells.size = size) (hsz : 0 < size)
    (v : Value) (n : Nat) (xs : List Value) (hs : a.eval s = v) (hown : Own w base e size v n xs) (xv : Value) (m : Nat) (news : List Value) (hx : a.eval x = xv) (hr : Src P w size xv m news)
    (h63 : n + m ≤ maxLen) (hbytes : (n + m) * bytes ≤ 140737488355328) (hbase : base ≤ w.heap.size)
    (h : ∀ v' w', Own w' base e size v' (n + m) (xs ++ news) → w.grownBy w' v.ownBlock → (v'.ownBlock = v.ownBlock ∨ v'.ownBlock = some w.heap.size) → wpList P ops Q rest (a.put o.dst v') w') : wpList P ops Q (o :: rest) a w :=
  wpList_plain hgd fun K hK => by
    obtain ⟨v', w', hrun, h2, h3, h4⟩ := run_append_Own (P := P) w base t xt o.type e i z size bytes ht hxt hi hz hsize hby hzs hsz v n xs hown xv m news hr h63 hbytes hbase
    unfold Oper.wp execOp
    simp only [ho, resolve, invoke, builtin, Sem.run_bind, Sem.run_pure, Result.andThen_ok, List.map_toArray, List.map_cons, List.map_nil, hs, hx, hrun]
    exact hK _ _ (h v' w' h2 h3 h4)

theorem strOfNums_bv (l : Bs) : strOfNums (l.map fun b => (b.toNat : Int)) = ⟨l.toArray⟩ := by
  unfold strOfNums
  congr 1
  rw [List.map_map]
  have : (l.map ((fun n : Int => UInt8.ofNat n.toNat) ∘ fun b : UInt8 => (b.toNat : Int))) = l := by
    rw [List.map_congr_left (g := id) (fun b _ => by simp), List.map_id]
  rw [this]
/-- string(b). -/
theorem run_str_rd {P : Program} {w : World} {B n : Nat} {A : Option Addr} {l : Bs} (h : Rd w B 1 A n (l.map bv)) (c : Nat) (src e dst : TypeId)
    (hs : P.underlying src = some (.slice e)) (he : P.underlying e = some (.int .u8)) (hd : P.underlying dst = some .string) :
    (convert src dst (.slice A n c)).run P w = .ok (sv l) w := by
  have hl : l.length = n := by simpa using h.1
  rcases Nat.eq_zero_or_pos n with h0 | h0
  · subst h0
    obtain rfl : l = [] := List.eq_nil_of_length_eq_zero hl
    cases A with
    | none => exact run_convert_bytes_nil w src e hs he 0 c dst hd
    | some a =>
      rw [run_convert_bytes_string w src dst e _ 0 c hs he hd]
      simp [Conv.bytesToString, loadCells, loadCellsFrom]
      rfl
  · obtain ⟨b, o, rfl, _, hc⟩ := h.2 h0
    rw [run_convert_bytes_arg w src e hs he b o n c (l.map fun b => (b.toNat : Int)) (by simpa using hl) (fun i hi => ?_) dst hd, strOfNums_bv]
    have hi' : i < l.length := by omega
    exact hc i _ (by simp [List.getD, hi'])
theorem run_byte_str {P : Program} (src e dst : TypeId) (hs : P.underlying src = some (.slice e)) (he : P.underlying e = some (.int .u8)) (hd : P.underlying dst = some .string) (W : World) (b : UInt8) :
    (convert src dst (.slice (some ⟨W.heap.size, 0, none⟩) 1 1)).run P (W.alloc (.cells #[.int .u8 (b.toNat : Int)] e)) = .ok (.string ⟨#[b]⟩) (W.alloc (.cells #[.int .u8 (b.toNat : Int)] e)) := by
  refine run_str_rd (l := [b]) (B := W.heap.size + 1) ⟨by simp, fun _ => ⟨W.heap.size, 0, rfl, by omega, fun j u hu => ?_⟩⟩ 1 src e dst hs he hd
  rw [World.cell?_alloc_at _ _ _ _ rfl]
  match j, hu with
  | 0, hu => simpa using hu

/-- []byte(s) of a string: the call's own row. -/
theorem wpList_toBytes {P : Program} (w : World) {ops : Array Oper} {rest : List Oper} {o : Oper} {a : Act} {Q : Exit → Act → World → Prop} (hgd : o.guard = none) (x : Operand) (src dst : TypeId)
    (ho : o.op = .convert src dst x) (e : TypeId) (base : Nat) (s : ByteArray) (hx : a.eval x = .string s)
    (hs : P.underlying src = some .string) (hd : P.underlying dst = some (.slice e)) (he : P.underlying e = some (.int .u8)) (hl : s.size ≤ maxLen) (hb : base ≤ w.heap.size)
    (h : ∀ cap w', s.size ≤ cap → Own w' base e 1 (.slice (some ⟨w.heap.size, 0, none⟩) s.size cap) s.size (s.data.toList.map bv) → w.grownBy w' none → w.heap.size < w'.heap.size → wpList P ops Q rest (a.put o.dst (.slice (some ⟨w.heap.size, 0, none⟩) s.size cap)) w') :
    wpList P ops Q (o :: rest) a w :=
  wpList_plain hgd fun K hK => by
    have hrun := Lib.run_convert_string_bytes (P := P) w src dst e s hs hd he
    have hge := grownCap_ge w s.size 0 e
    have hcm : grownCap w s.size 0 e ≤ maxLen := grownCap_le_maxLen w s.size 0 e hl
    have hcells : (Lib.bytesCells w e s).size = grownCap w s.size 0 e := by
      simp only [Lib.bytesCells, Array.size_append, Array.size_map, Array.size_replicate]
      have : s.data.size = s.size := rfl
      omega
    have hown : Own (Lib.bytesWorld w e s) base e 1 (.slice (some ⟨w.heap.size, 0, none⟩) s.size (grownCap w s.size 0 e)) s.size (s.data.toList.map bv) := by
      refine ⟨by simp, .inr ⟨w.heap.size, _, _, _, rfl, hb, Lib.bytesWorld_at_new w e s, .inr (by rw [hcells]; omega), hge, hcm, by rw [hcells]; omega, ?_⟩⟩
      simp only [Lib.bytesCells, Array.toList_append, Array.toList_map, Nat.mul_one]
      rw [List.take_append_of_le_length (by simp), List.take_of_length_le (by simp)]
    have hg : w.grownBy (Lib.bytesWorld w e s) none :=
      ⟨rfl, rfl, rfl, by rw [Lib.bytesWorld_size]; omega, fun k hk _ => Lib.bytesWorld_at_old w e s k hk⟩
    unfold Oper.wp execOp
    simp only [ho, hx, Sem.run_bind, Sem.run_pure, Result.andThen_ok, hrun]
    exact hK _ _ (h _ _ hge hown hg (by rw [Lib.bytesWorld_size]; omega))
/-- string(b). -/
theorem wpList_toString {P : Program} (w : World) {ops : Array Oper} {rest : List Oper} {o : Oper} {a : Act} {Q : Exit → Act → World → Prop} (hgd : o.guard = none) (x : Operand) (src dst : TypeId)
    (ho : o.op = .convert src dst x) (e : TypeId) (hs : P.underlying src = some (.slice e)) (he : P.underlying e = some (.int .u8)) (hd : P.underlying dst = some .string)
    (A : Option Addr) (n c B : Nat) (l : Bs) (hx : a.eval x = .slice A n c) (hr : Rd w B 1 A n (l.map bv)) (h : wpList P ops Q rest (a.put o.dst (sv l)) w) :
    wpList P ops Q (o :: rest) a w :=
  wpList_plain hgd fun K hK => by
    have hrun := run_str_rd (P := P) hr c src e dst hs he hd
    unfold Oper.wp execOp
    simp only [ho, hx, Sem.run_bind, Sem.run_pure, Result.andThen_ok, hrun]
    exact hK _ _ h
/-- A row that is filled from its own bytes, place by place. -/
theorem turn_step (l : Bs) (f : UInt8 → UInt8) (k : Nat) (b : UInt8) (r : Bs) (hl : l.drop k = b :: r) (hk : k < l.length) :
    (((l.take k).map f ++ l.drop k).map bv).set k (bv (f b)) = ((l.take (k + 1)).map f ++ l.drop (k + 1)).map bv := by
  have h1 : l.take (k + 1) = l.take k ++ [b] := by
    rw [List.take_succ_eq_append_getElem hk]
    congr 2
    rw [List.drop_eq_getElem_cons hk] at hl
    exact (List.cons.inj hl).1
  have h2 : l.drop (k + 1) = r := by
    rw [List.drop_eq_getElem_cons hk] at hl
    exact (List.cons.inj hl).2
  rw [h1, h2, hl, List.map_append, List.map_append, List.set_append_right _ _ (by simp; omega)]
  rw [show k - (List.map bv (List.map f (l.take k))).length = 0 by simp; omega]
  simp
theorem turn_same (l : Bs) (f : UInt8 → UInt8) (k : Nat) (b : UInt8) (r : Bs) (hl : l.drop k = b :: r) (hk : k < l.length) (hf : f b = b) :
    ((l.take k).map f ++ l.drop k).map bv = ((l.take (k + 1)).map f ++ l.drop (k + 1)).map bv := by
  have h1 : l.take (k + 1) = l.take k ++ [b] := by
    rw [List.take_succ_eq_append_getElem hk]
    congr 2
    rw [List.drop_eq_getElem_cons hk] at hl
    exact (List.cons.inj hl).1
  have h2 : l.drop (k + 1) = r := by
    rw [List.drop_eq_getElem_cons hk] at hl
    exact (List.cons.inj hl).2
  rw [h1, h2, hl]
  simp [hf]

/-- Block g is just the cells cs. -/
def Blk (w : World) (g : Nat) (t : TypeId) (cs : Array Value) : Prop := w.heap[g]? = some (.cells cs t (0, 0))
namespace Blk
variable {w w' : World} {g : Nat} {t : TypeId} {cs : Array Value}
theorem lt (h : Blk w g t cs) : g < w.heap.size := (Array.getElem?_eq_some_iff.1 h).1
theorem cell (h : Blk w g t cs) (i : Nat) : w.cell? ⟨g, i, none⟩ = cs[i]? := cell_of_row w g i cs t (0, 0) h
theorem frozen (h : Blk w g t cs) (i : Nat) : w.frozen? ⟨g, i, none⟩ = false := by
  unfold Blk at h
  simp [World.frozen?, h]
theorem new (w : World) (t : TypeId) (cs : Array Value) : Blk (w.alloc (.cells cs t)) w.heap.size t cs := heap_alloc_new w _
theorem new' (w : World) (g : Nat) (hg : g = w.heap.size) (t : TypeId) (cs : Array Value) : Blk (w.alloc (.cells cs t)) g t cs := hg ▸ heap_alloc_new w _
theorem drew (h : Blk w g t cs) : Blk w.drew g t cs := h
theorem drewN (h : Blk w g t cs) (n : Nat) : Blk (w.drewN n) g t cs := h
theorem alloc (h : Blk w g t cs) (o : Obj) : Blk (w.alloc o) g t cs := (Below.heap_alloc w o g h.lt).trans h
theorem set_ (h : Blk w g t cs) (i : Nat) (u : Value) : Blk (w.setCell ⟨g, i, none⟩ u) g t (cs.setIfInBounds i u) := by
  unfold Blk at h ⊢
  simp [World.setCell, Array.getElem?_modify, h]
theorem far (h : Blk w g t cs) {p : Addr} (hp : g ≠ p.block) (u : Value) : Blk (w.setCell p u) g t cs := (Below.heap_setCell w p u g hp).trans h
theorem below {B : Nat} (h : Blk w g t cs) (hb : Below B w w') (hg : g < B) : Blk w' g t cs := (hb.block g hg).trans h
theorem belowW (h : Blk w g t cs) (hb : Below w.heap.size w w') : Blk w' g t cs := (hb.block g h.lt).trans h
theorem fr {S : Nat → Prop} (h : Blk w g t cs) (hf : Fr S w w') (hg : ¬ S g) : Blk w' g t cs := (hf.block g h.lt hg).trans h
theorem grown {row : Option Nat} (h : Blk w g t cs) (hb : w.grownBy w' row) (hg : some g ≠ row) : Blk w' g t cs := (hb.block g h.lt hg).trans h
end Blk
theorem grown_nil {w w' : World} (h : w.grownBy w' (Value.ownBlock (.slice none 0 0))) : Below w.heap.size w w' := (Below.refl _ _).grown h (Nat.le_refl _) (by simp [Value.ownBlock])
theorem Blk.c1 {w : World} {g : Nat} {t : TypeId} {a0 : Value} (h : Blk w g t #[a0]) : w.cell? ⟨g, 0, none⟩ = some a0 ∧ w.frozen? ⟨g, 0, none⟩ = false :=
  ⟨h.cell 0, h.frozen 0⟩
theorem Blk.c2 {w : World} {g : Nat} {t : TypeId} {a0 a1 : Value} (h : Blk w g t #[a0, a1]) : w.cell? ⟨g, 0, none⟩ = some a0 ∧ w.cell? ⟨g, 1, none⟩ = some a1 ∧ w.frozen? ⟨g, 0, none⟩ = false ∧ w.frozen? ⟨g, 1, none⟩ = false :=
  ⟨h.cell 0, h.cell 1, h.frozen 0, h.frozen 1⟩
theorem Blk.c3 {w : World} {g : Nat} {t : TypeId} {a0 a1 a2 : Value} (h : Blk w g t #[a0, a1, a2]) : w.cell? ⟨g, 0, none⟩ = some a0 ∧ w.cell? ⟨g, 1, none⟩ = some a1 ∧ w.cell? ⟨g, 2, none⟩ = some a2 ∧ w.frozen? ⟨g, 0, none⟩ = false ∧ w.frozen? ⟨g, 1, none⟩ = false ∧ w.frozen? ⟨g, 2, none⟩ = false :=
  ⟨h.cell 0, h.cell 1, h.cell 2, h.frozen 0, h.frozen 1, h.frozen 2⟩
theorem Blk.c4 {w : World} {g : Nat} {t : TypeId} {a0 a1 a2 a3 : Value} (h : Blk w g t #[a0, a1, a2, a3]) : w.cell? ⟨g, 0, none⟩ = some a0 ∧ w.cell? ⟨g, 1, none⟩ = some a1 ∧ w.cell? ⟨g, 2, none⟩ = some a2 ∧ w.cell? ⟨g, 3, none⟩ = some a3 ∧ w.frozen? ⟨g, 0, none⟩ = false ∧ w.frozen? ⟨g, 1, none⟩ = false ∧ w.frozen? ⟨g, 2, none⟩ = false ∧ w.frozen? ⟨g, 3, none⟩ = false :=
  ⟨h.cell 0, h.cell 1, h.cell 2, h.cell 3, h.frozen 0, h.frozen 1, h.frozen 2, h.frozen 3⟩
theorem Blk.c5 {w : World} {g : Nat} {t : TypeId} {a0 a1 a2 a3 a4 : Value} (h : Blk w g t #[a0, a1, a2, a3, a4]) : w.cell? ⟨g, 0, none⟩ = some a0 ∧ w.cell? ⟨g, 1, none⟩ = some a1 ∧ w.cell? ⟨g, 2, none⟩ = some a2 ∧ w.cell? ⟨g, 3, none⟩ = some a3 ∧ w.cell? ⟨g, 4, none⟩ = some a4 ∧ w.frozen? ⟨g, 0, none⟩ = false ∧ w.frozen? ⟨g, 1, none⟩ = false ∧ w.frozen? ⟨g, 2, none⟩ = false ∧ w.frozen? ⟨g, 3, none⟩ = false ∧ w.frozen? ⟨g, 4, none⟩ = false :=
  ⟨h.cell 0, h.cell 1, h.cell 2, h.cell 3, h.cell 4, h.frozen 0, h.frozen 1, h.frozen 2, h.frozen 3, h.frozen 4⟩
theorem Blk.c6 {w : World} {g : Nat} {t : TypeId} {a0 a1 a2 a3 a4 a5 : Value} (h : Blk w g t #[a0, a1, a2, a3, a4, a5]) : w.cell? ⟨g, 0, none⟩ = some a0 ∧ w.cell? ⟨g, 1, none⟩ = some a1 ∧ w.cell? ⟨g, 2, none⟩ = some a2 ∧ w.cell? ⟨g, 3, none⟩ = some a3 ∧ w.cell? ⟨g, 4, none⟩ = some a4 ∧ w.cell? ⟨g, 5, none⟩ = some a5 ∧ w.frozen? ⟨g, 0, none⟩ = false ∧ w.frozen? ⟨g, 1, none⟩ = false ∧ w.frozen? ⟨g, 2, none⟩ = false ∧ w.frozen? ⟨g, 3, none⟩ = false ∧ w.frozen? ⟨g, 4, none⟩ = false ∧ w.frozen? ⟨g, 5, none⟩ = false :=
  ⟨h.cell 0, h.cell 1, h.cell 2, h.cell 3, h.cell 4, h.cell 5, h.frozen 0, h.frozen 1, h.frozen 2, h.frozen 3, h.frozen 4, h.frozen 5⟩
theorem Blk.c7 {w : World} {g : Nat} {t : TypeId} {a0 a1 a2 a3 a4 a5 a6 : Value} (h : Blk w g t #[a0, a1, a2, a3, a4, a5, a6]) : w.cell? ⟨g, 0, none⟩ = some a0 ∧ w.cell? ⟨g, 1, none⟩ = some a1 ∧ w.cell? ⟨g, 2, none⟩ = some a2 ∧ w.cell? ⟨g, 3, none⟩ = some a3 ∧ w.cell? ⟨g, 4, none⟩ = some a4 ∧ w.cell? ⟨g, 5, none⟩ = some a5 ∧ w.cell? ⟨g, 6, none⟩ = some a6 ∧ w.frozen? ⟨g, 0, none⟩ = false ∧ w.frozen? ⟨g, 1, none⟩ = false ∧ w.frozen? ⟨g, 2, none⟩ = false ∧ w.frozen? ⟨g, 3, none⟩ = false ∧ w.frozen? ⟨g, 4, none⟩ = false ∧ w.frozen? ⟨g, 5, none⟩ = false ∧ w.frozen? ⟨g, 6, none⟩ = false :=
  ⟨h.cell 0, h.cell 1, h.cell 2, h.cell 3, h.cell 4, h.cell 5, h.cell 6, h.frozen 0, h.frozen 1, h.frozen 2, h.frozen 3, h.frozen 4, h.frozen 5, h.frozen 6⟩
theorem Blk.c8 {w : World} {g : Nat} {t : TypeId} {a0 a1 a2 a3 a4 a5 a6 a7 : Value} (h : Blk w g t #[a0, a1, a2, a3, a4, a5, a6, a7]) : w.cell? ⟨g, 0, none⟩ = some a0 ∧ w.cell? ⟨g, 1, none⟩ = some a1 ∧ w.cell? ⟨g, 2, none⟩ = some a2 ∧ w.cell? ⟨g, 3, none⟩ = some a3 ∧ w.cell? ⟨g, 4, none⟩ = some a4 ∧ w.cell? ⟨g, 5, none⟩ = some a5 ∧ w.cell? ⟨g, 6, none⟩ = some a6 ∧ w.cell? ⟨g, 7, none⟩ = some a7 ∧ w.frozen? ⟨g, 0, none⟩ = false ∧ w.frozen? ⟨g, 1, none⟩ = false ∧ w.frozen? ⟨g, 2, none⟩ = false ∧ w.frozen? ⟨g, 3, none⟩ = false ∧ w.frozen? ⟨g, 4, none⟩ = false ∧ w.frozen? ⟨g, 5, none⟩ = false ∧ w.frozen? ⟨g, 6, none⟩ = false ∧ w.frozen? ⟨g, 7, none⟩ = false :=
  ⟨h.cell 0, h.cell 1, h.cell 2, h.cell 3, h.cell 4, h.cell 5, h.cell 6, h.cell 7, h.frozen 0, h.frozen 1, h.frozen 2, h.frozen 3, h.frozen 4, h.frozen 5, h.frozen 6, h.frozen 7⟩
theorem Blk.c9 {w : World} {g : Nat} {t : TypeId} {a0 a1 a2 a3 a4 a5 a6 a7 a8 : Value} (h : Blk w g t #[a0, a1, a2, a3, a4, a5, a6, a7, a8]) : w.cell? ⟨g, 0, none⟩ = some a0 ∧ w.cell? ⟨g, 1, none⟩ = some a1 ∧ w.cell? ⟨g, 2, none⟩ = some a2 ∧ w.cell? ⟨g, 3, none⟩ = some a3 ∧ w.cell? ⟨g, 4, none⟩ = some a4 ∧ w.cell? ⟨g, 5, none⟩ = some a5 ∧ w.cell? ⟨g, 6, none⟩ = some a6 ∧ w.cell? ⟨g, 7, none⟩ = some a7 ∧ w.cell? ⟨g, 8, none⟩ = some a8 ∧ w.frozen? ⟨g, 0, none⟩ = false ∧ w.frozen? ⟨g, 1, none⟩ = false ∧ w.frozen? ⟨g, 2, none⟩ = false ∧ w.frozen? ⟨g, 3, none⟩ = false ∧ w.frozen? ⟨g, 4, none⟩ = false ∧ w.frozen? ⟨g, 5, none⟩ = false ∧ w.frozen? ⟨g, 6, none⟩ = false ∧ w.frozen? ⟨g, 7, none⟩ = false ∧ w.frozen? ⟨g, 8, none⟩ = false :=
  ⟨h.cell 0, h.cell 1, h.cell 2, h.cell 3, h.cell 4, h.cell 5, h.cell 6, h.cell 7, h.cell 8, h.frozen 0, h.frozen 1, h.frozen 2, h.frozen 3, h.frozen 4, h.frozen 5, h.frozen 6, h.frozen 7, h.frozen 8⟩
end Go.Proofs.YtmjekdnfkgalbaaGreatDoor
namespace Go.Proofs.YtmjekdnfkgalbaaGreatDoor
open Go.RowKit

def numF (base : Int) : Bs → Int → Option Int
  | [], n => some n
  | b :: r, n => if digB b.toNat < 0 ∨ base ≤ digB b.toNat then none else numF base r (n * base + digB b.toNat)
def numR (base : Int) (most : Nat) (l : Bs) : Option Int := if l.length < 1 ∨ most < l.length then none else numF base l 0
def numV (o : Option Int) : Value := .tuple #[.int .i64 (o.getD 0), .bool o.isSome]

theorem pow_step (n : Int) (base k : Nat) (d : Int) (h : n < (base : Int) ^ k) (hd : d < base) (hb : 0 ≤ (base : Int)) : n * base + d < (base : Int) ^ (k + 1) := by
  rw [Int.pow_succ]
  have : (n + 1) * (base : Int) ≤ (base : Int) ^ k * (base : Int) := Int.mul_le_mul_of_nonneg_right (by omega) hb
  rw [Int.add_mul] at this
  omega
theorem pow_le (n : Int) (base k m : Nat) (h : n < (base : Int) ^ k) (hk : k ≤ m) (hb : 1 ≤ base) : n < (base : Int) ^ m := by
  have h1 : base ^ k ≤ base ^ m := Nat.pow_le_pow_right hb hk
  have h2 : ((base ^ k : Nat) : Int) ≤ ((base ^ m : Nat) : Int) := by omega
  rw [Int.natCast_pow, Int.natCast_pow] at h2
  omega

theorem pow_le10 (n : Int) (k : Nat) (h : n < (10 : Int) ^ k) (hk : k ≤ 14) : n < 100000000000000 := by
  have := pow_le n 10 k 14 (by simpa using h) hk (by omega)
  simpa using this
theorem pow_le16 (n : Int) (k : Nat) (h : n < (16 : Int) ^ k) (hk : k ≤ 11) : n < 17592186044416 := by
  have := pow_le n 16 k 11 (by simpa using h) hk (by omega)
  simpa using this
theorem digB_ge (c : Int) : -1 ≤ digB c := by unfold digB; split <;> (try split) <;> omega
theorem digB_le (c : Int) (h0 : 0 ≤ c) (h1 : c ≤ 255) : digB c ≤ 15 := by
  unfold digB lowB; split <;> (try split) <;> (try split) <;> omega

set_option maxHeartbeats 800000 in
theorem ref_number_10 (s : ByteArray) (w : World) (hs : s.size ≤ maxLen) :
    Calls Tryz.prog 96 #[.string s, .int .i64 10, .int .i64 15] w fun e w' => e = .returned (numV (numR 10 15 s.data.toList)) ∧ w = w' := by
  unfold maxLen at hs
  have hdl : s.data.toList.length = s.size := len_data s
  have Hdl := Lib.hid hdl; clear hdl
  by_cases hsz : s.size < 1 ∨ 15 < s.size
  · have hR : numR 10 15 s.data.toList = none := by unfold numR; rw [Hdl.out, if_pos hsz]
    have HR := Lib.hid hR; clear hR
    rcases hsz with h | h
    all_goals
      go_enter Tryz.func96, Tryz.ntmps96
      go_wp2
      go_ret2
      exact ⟨by rw [HR.out]; rfl, rfl⟩
  · have hR : numR 10 15 s.data.toList = numF 10 s.data.toList 0 := by unfold numR; rw [Hdl.out, if_neg hsz]
    have HR := Lib.hid hR; clear hR
    have hsz1 : 1 ≤ s.size := by omega
    have hsz2 : s.size ≤ 15 := by omega
    clear hsz
    go_enter Tryz.func96, Tryz.ntmps96
    go_wp2
    go_loop [8, 9] (fun a i => ∃ (k : Nat) (n : Int), k ≤ s.size ∧ i = .int .i64 k ∧ a = .int .i64 n ∧ 0 ≤ n ∧ Hid (n < (10 : Int) ^ k) ∧ Hid (numF 10 s.data.toList 0 = numF 10 (s.data.toList.drop k) n)) (fun _ i => s.size - (intOf i).toNat)
    case atStart => exact ⟨0, 0, Nat.zero_le _, rfl, rfl, Int.le_refl _, show (0 : Int) < 1 by decide, rfl⟩
    case round =>
      obtain ⟨k, n, hk, rfl, rfl, hn0, Hn, H⟩ := hrel
      by_cases hlt : k < s.size
      · obtain ⟨b, hb, hbt⟩ := drop_bt s k hlt
        have Hb := Lib.hid hb; clear hb
        have hbs := PlainAid.get_bt s
        have hn1 := pow_le10 n k Hn.out (by omega)
        have hd1 := digB_le b.toNat (by omega) (u8lt b)
        have hd0 := digB_ge b.toNat
        go_wp2_with (go_at_call 118; refine (ref_Digit _ _ (by omega) (u8lt _)).mono ?_; rintro e w' ⟨rfl, rfl⟩)
        all_goals first
          | (have ht : digB b.toNat < 0 ∨ 10 ≤ digB b.toNat := by omega
             go_ret2
             exact ⟨by rw [HR.out, H.out, Hb.out, numF, if_pos ht]; rfl, rfl⟩)
          | (have ht : ¬ (digB b.toNat < 0 ∨ 10 ≤ digB b.toNat) := by omega
             go_round
             case rel => exact ⟨k + 1, _, by omega, by go_num, rfl, by omega, pow_step n 10 k _ Hn.out (by omega) (by decide), by rw [H.out, Hb.out, numF, if_neg ht]; rfl⟩
             case measure => simp [intOf]; omega)
      · go_wp2
        go_ret2
        exact ⟨by rw [HR.out, H.out, drop_end s k (by omega)]; rfl, rfl⟩

set_option maxHeartbeats 800000 in
theorem ref_number_16 (s : ByteArray) (w : World) (hs : s.size ≤ maxLen) :
    Calls Tryz.prog 96 #[.string s, .int .i64 16, .int .i64 12] w fun e w' => e = .returned (numV (numR 16 12 s.data.toList)) ∧ w = w' := by
  unfold maxLen at hs
  have hdl : s.data.toList.length = s.size := len_data s
  have Hdl := Lib.hid hdl; clear hdl
  by_cases hsz : s.size < 1 ∨ 12 < s.size
  · have hR : numR 16 12 s.data.toList = none := by unfold numR; rw [Hdl.out, if_pos hsz]
    have HR := Lib.hid hR; clear hR
    rcases hsz with h | h
    all_goals
      go_enter Tryz.func96, Tryz.ntmps96
      go_wp2
      go_ret2
      exact ⟨by rw [HR.out]; rfl, rfl⟩
  · have hR : numR 16 12 s.data.toList = numF 16 s.data.toList 0 := by unfold numR; rw [Hdl.out, if_neg hsz]
    have HR := Lib.hid hR; clear hR
    have hsz1 : 1 ≤ s.size := by omega
    have hsz2 : s.size ≤ 12 := by omega
    clear hsz
    go_enter Tryz.func96, Tryz.ntmps96
    go_wp2
    go_loop [8, 9] (fun a i => ∃ (k : Nat) (n : Int), k ≤ s.size ∧ i = .int .i64 k ∧ a = .int .i64 n ∧ 0 ≤ n ∧ Hid (n < (16 : Int) ^ k) ∧ Hid (numF 16 s.data.toList 0 = numF 16 (s.data.toList.drop k) n)) (fun _ i => s.size - (intOf i).toNat)
    case atStart => exact ⟨0, 0, Nat.zero_le _, rfl, rfl, Int.le_refl _, show (0 : Int) < 1 by decide, rfl⟩
    case round =>
      obtain ⟨k, n, hk, rfl, rfl, hn0, Hn, H⟩ := hrel
      by_cases hlt : k < s.size
      · obtain ⟨b, hb, hbt⟩ := drop_bt s k hlt
        have Hb := Lib.hid hb; clear hb
        have hbs := PlainAid.get_bt s
        have hn1 := pow_le16 n k Hn.out (by omega)
        have hd1 := digB_le b.toNat (by omega) (u8lt b)
        have hd0 := digB_ge b.toNat
        go_wp2_with (go_at_call 118; refine (ref_Digit _ _ (by omega) (u8lt _)).mono ?_; rintro e w' ⟨rfl, rfl⟩)
        all_goals first
          | (have ht : digB b.toNat < 0 ∨ 16 ≤ digB b.toNat := by omega
             go_ret2
             exact ⟨by rw [HR.out, H.out, Hb.out, numF, if_pos ht]; rfl, rfl⟩)
          | (have ht : ¬ (digB b.toNat < 0 ∨ 16 ≤ digB b.toNat) := by omega
             go_round
             case rel => exact ⟨k + 1, _, by omega, by go_num, rfl, by omega, pow_step n 16 k _ Hn.out (by omega) (by decide), by rw [H.out, Hb.out, numF, if_neg ht]; rfl⟩
             case measure => simp [intOf]; omega)
      · go_wp2
        go_ret2
        exact ⟨by rw [HR.out, H.out, drop_end s k (by omega)]; rfl, rfl⟩

set_option maxHeartbeats 400000 in
theorem ref_Num (s : ByteArray) (w : World) (hs : s.size ≤ maxLen) :
    Calls Tryz.prog 71 #[.string s] w fun e w' => e = .returned (numV (numR 10 15 s.data.toList)) ∧ w = w' := by
  go_enter Tryz.func71, Tryz.ntmps71
  go_wp2_with (go_at_call 96; refine (ref_number_10 _ _ hs).mono ?_; rintro e w' ⟨rfl, rfl⟩; unfold numV)
  go_ret2
  exact ⟨rfl, rfl⟩
set_option maxHeartbeats 400000 in
theorem ref_Hex (s : ByteArray) (w : World) (hs : s.size ≤ maxLen) :
    Calls Tryz.prog 97 #[.string s] w fun e w' => e = .returned (numV (numR 16 12 s.data.toList)) ∧ w = w' := by
  go_enter Tryz.func97, Tryz.ntmps97
  go_wp2_with (go_at_call 96; refine (ref_number_16 _ _ hs).mono ?_; rintro e w' ⟨rfl, rfl⟩; unfold numV)
  go_ret2
  exact ⟨rfl, rfl⟩

def low (b : UInt8) : UInt8 := if 65 ≤ b.toNat ∧ b.toNat ≤ 90 then UInt8.ofNat (b.toNat + 32) else b
theorem low_num (b : UInt8) : lowB b.toNat = ((low b).toNat : Int) := by
  unfold lowB low
  by_cases h : 65 ≤ b.toNat ∧ b.toNat ≤ 90
  · rw [if_pos (by omega), if_pos h, UInt8.toNat_ofNat_of_lt' (by simp [UInt8.size]; omega)]; omega
  · rw [if_neg (by omega), if_neg h]
def lowL (l : Bs) : Bs := l.map low

end Go.Proofs.YtmjekdnfkgalbaaGreatDoor
namespace Go.Proofs.YtmjekdnfkgalbaaGreatDoor
open Go.RowKit

def hexs : Bs := [48, 49, 50, 51, 52, 53, 54, 55, 56, 57, 97, 98, 99, 100, 101, 102]
def dch (d : Nat) : UInt8 := hexs.getD d 0
def digF (b : Nat) : Nat → Nat → Bs
  | 0, _ => []
  | f + 1, u => if u / b = 0 then [dch (u % b)] else digF b f (u / b) ++ [dch (u % b)]
theorem digF_fuel (b : Nat) (hb : 2 ≤ b) : ∀ (f g u : Nat), u < f → u < g → digF b f u = digF b g u := by
  intro f
  induction f with
  | zero => intro g u h; omega
  | succ f ih =>
    intro g u h1 h2
    cases g with
    | zero => omega
    | succ g =>
      simp only [digF]
      split
      · rfl
      · rename_i h
        have hlt : u / b < u := Nat.div_lt_self (by rcases Nat.eq_zero_or_pos u with h0 | h0; subst h0; simp at h; exact h0) (by omega)
        rw [ih g (u / b) (by omega) (by omega)]
/-- A number in digits. -/
def digs (b u : Nat) : Bs := digF b (u + 1) u
theorem digs_step (b u : Nat) (hb : 2 ≤ b) : digs b u = if u / b = 0 then [dch (u % b)] else digs b (u / b) ++ [dch (u % b)] := by
  unfold digs
  rw [digF]
  split
  · rfl
  · rename_i h
    have hlt : u / b < u := Nat.div_lt_self (by rcases Nat.eq_zero_or_pos u with h0 | h0; subst h0; simp at h; exact h0) (by omega)
    rw [digF_fuel b hb u (u / b + 1) (u / b) hlt (by omega)]
theorem hexs_bt (d : Nat) (h : d < 16) : PlainAid.bt ⟨#[48, 49, 50, 51, 52, 53, 54, 55, 56, 57, 97, 98, 99, 100, 101, 102]⟩ d = ((dch d).toNat : Int) := by
  have : ∀ e : Fin 16, PlainAid.bt ⟨#[48, 49, 50, 51, 52, 53, 54, 55, 56, 57, 97, 98, 99, 100, 101, 102]⟩ e.val = ((dch e.val).toNat : Int) := by decide
  exact this ⟨d, h⟩
theorem pow_bound (m k N : Nat) (h : m * 2 ^ k ≤ N) (hN : N < 2 ^ 63) (hm : k = 0 ∨ 1 ≤ m) : k ≤ 62 := by
  rcases hm with rfl | hm
  · omega
  · have h1 : 2 ^ k ≤ m * 2 ^ k := Nat.le_mul_of_pos_left _ hm
    have h2 : 2 ^ k < 2 ^ 63 := by omega
    have := (Nat.pow_lt_pow_iff_right (by omega : 1 < 2)).1 h2
    omega

set_option maxRecDepth 100000 in
set_option maxHeartbeats 800000 in
theorem ref_text_10 (n : Int) (N : Nat) (w : World) (hn : (n < 0 ∧ N = 0) ∨ n = N) (hN : N ≤ 9223372036854775807) :
    Calls Tryz.prog 56 #[.int .i64 n, .int .i64 10] w fun e w' => e = .returned (sv (digs 10 N)) ∧ Below w.heap.size w w' := by
  have hcv := run_byte_str (P := Tryz.prog) 22 5 9 Tryz.underlying22 Tryz.underlying5 Tryz.underlying9
  have hn3 : (n < 0 ∧ N = 0) ∨ (n = 0 ∧ N = 0) ∨ (n = N ∧ 0 < N) := by omega
  rcases hn3 with ⟨h0, h00⟩ | ⟨rfl, h00⟩ | ⟨rfl, h00⟩
  all_goals have H00 := Lib.hid h00; clear h00; have hn3 := True.intro; clear hn
  all_goals
    go_enter Tryz.func56, Tryz.ntmps56
    go_wp2
    go_loopw [0, 5] (fun a v wr => ∃ (m : Nat) (s : ByteArray), a = .int .i64 m ∧ v = .string s ∧ m ≤ N ∧ Hid (m * 2 ^ s.size ≤ N) ∧ (s.size = 0 ∨ 1 ≤ m) ∧ Hid (digs 10 N = digs 10 m ++ s.data.toList) ∧ Below w.heap.size w wr) (fun a _ _ => (intOf a).toNat)
    case atStart => exact ⟨N, ⟨#[]⟩, by have := H00.out; go_num, rfl, Nat.le_refl _, show N * 2 ^ 0 ≤ N by omega, .inl rfl, by show digs 10 N = digs 10 N ++ []; rw [List.append_nil], Below.refl _ _⟩
    case round =>
      obtain ⟨m, s, rfl, rfl, hm, Hp, hz, H, hbel⟩ := hrel
      have hs62 := pow_bound m s.size N Hp.out (by omega) hz
      clear hz
      have hbs := PlainAid.get_bt ⟨#[48, 49, 50, 51, 52, 53, 54, 55, 56, 57, 97, 98, 99, 100, 101, 102]⟩
      have hd := hexs_bt (m % 10) (by omega)
      by_cases hq : m / 10 = 0
      · have Hq := Lib.hid hq
        go_wp2
        go_ret
        exact ⟨retS (by rw [H.out, digs_step 10 m (by omega), if_pos Hq.out]), hbel.alloc hbel.size _⟩
      · have Hq := Lib.hid hq
        go_wp2
        go_roundw
        case rel =>
          refine ⟨m / 10, _, by go_num, rfl, by omega, ?_, .inr (by omega), ?_, hbel.alloc hbel.size _⟩
          · show (m / 10) * 2 ^ (⟨#[dch (m % 10)]⟩ ++ s : ByteArray).size ≤ N
            rw [ByteArray.size_append]
            have h1 : (m / 10) * 2 ≤ m := by omega
            have h2 : (m / 10) * 2 * 2 ^ s.size ≤ m * 2 ^ s.size := Nat.mul_le_mul_right _ h1
            have h3 := Hp.out
            have h4 : 2 ^ ((⟨#[dch (m % 10)]⟩ : ByteArray).size + s.size) = 2 * 2 ^ s.size := by
              rw [show (⟨#[dch (m % 10)]⟩ : ByteArray).size = 1 from rfl, Nat.add_comm, Nat.pow_succ, Nat.mul_comm]
            rw [h4, ← Nat.mul_assoc]
            omega
          · show digs 10 N = _
            rw [H.out, digs_step 10 m (by omega), if_neg Hq.out]; simp
        case measure => simp [intOf]; omega

set_option maxRecDepth 100000 in
set_option maxHeartbeats 800000 in
theorem ref_text_16 (n : Int) (N : Nat) (w : World) (hn : (n < 0 ∧ N = 0) ∨ n = N) (hN : N ≤ 9223372036854775807) :
    Calls Tryz.prog 56 #[.int .i64 n, .int .i64 16] w fun e w' => e = .returned (sv (digs 16 N)) ∧ Below w.heap.size w w' := by
  have hcv := run_byte_str (P := Tryz.prog) 22 5 9 Tryz.underlying22 Tryz.underlying5 Tryz.underlying9
  have hn3 : (n < 0 ∧ N = 0) ∨ (n = 0 ∧ N = 0) ∨ (n = N ∧ 0 < N) := by omega
  rcases hn3 with ⟨h0, h00⟩ | ⟨rfl, h00⟩ | ⟨rfl, h00⟩
  all_goals have H00 := Lib.hid h00; clear h00; have hn3 := True.intro; clear hn
  all_goals
    go_enter Tryz.func56, Tryz.ntmps56
    go_wp2
    go_loopw [0, 5] (fun a v wr => ∃ (m : Nat) (s : ByteArray), a = .int .i64 m ∧ v = .string s ∧ m ≤ N ∧ Hid (m * 2 ^ s.size ≤ N) ∧ (s.size = 0 ∨ 1 ≤ m) ∧ Hid (digs 16 N = digs 16 m ++ s.data.toList) ∧ Below w.heap.size w wr) (fun a _ _ => (intOf a).toNat)
    case atStart => exact ⟨N, ⟨#[]⟩, by have := H00.out; go_num, rfl, Nat.le_refl _, show N * 2 ^ 0 ≤ N by omega, .inl rfl, by show digs 16 N = digs 16 N ++ []; rw [List.append_nil], Below.refl _ _⟩
    case round =>
      obtain ⟨m, s, rfl, rfl, hm, Hp, hz, H, hbel⟩ := hrel
      have hs62 := pow_bound m s.size N Hp.out (by omega) hz
      clear hz
      have hbs := PlainAid.get_bt ⟨#[48, 49, 50, 51, 52, 53, 54, 55, 56, 57, 97, 98, 99, 100, 101, 102]⟩
      have hd := hexs_bt (m % 16) (by omega)
      by_cases hq : m / 16 = 0
      · have Hq := Lib.hid hq
        go_wp2
        go_ret
        exact ⟨retS (by rw [H.out, digs_step 16 m (by omega), if_pos Hq.out]), hbel.alloc hbel.size _⟩
      · have Hq := Lib.hid hq
        go_wp2
        go_roundw
        case rel =>
          refine ⟨m / 16, _, by go_num, rfl, by omega, ?_, .inr (by omega), ?_, hbel.alloc hbel.size _⟩
          · show (m / 16) * 2 ^ (⟨#[dch (m % 16)]⟩ ++ s : ByteArray).size ≤ N
            rw [ByteArray.size_append]
            have h1 : (m / 16) * 2 ≤ m := by omega
            have h2 : (m / 16) * 2 * 2 ^ s.size ≤ m * 2 ^ s.size := Nat.mul_le_mul_right _ h1
            have h3 := Hp.out
            have h4 : 2 ^ ((⟨#[dch (m % 16)]⟩ : ByteArray).size + s.size) = 2 * 2 ^ s.size := by
              rw [show (⟨#[dch (m % 16)]⟩ : ByteArray).size = 1 from rfl, Nat.add_comm, Nat.pow_succ, Nat.mul_comm]
            rw [h4, ← Nat.mul_assoc]
            omega
          · show digs 16 N = _
            rw [H.out, digs_step 16 m (by omega), if_neg Hq.out]; simp
        case measure => simp [intOf]; omega

set_option maxHeartbeats 400000 in
theorem ref_Dec (n : Int) (w : World) (h1 : n ≤ 9223372036854775807) :
    Calls Tryz.prog 28 #[.int .i64 n] w fun e w' => e = .returned (sv (digs 10 n.toNat)) ∧ Below w.heap.size w w' := by
  go_enter Tryz.func28, Tryz.ntmps28
  go_wp2_with (go_at_call 56; refine (ref_text_10 n n.toNat _ (by omega) (by omega)).mono ?_; rintro e w' ⟨rfl, hb⟩)
  go_ret
  exact ⟨rfl, hb⟩
set_option maxHeartbeats 400000 in
theorem ref_HexText (n : Int) (w : World) (h1 : n ≤ 9223372036854775807) :
    Calls Tryz.prog 57 #[.int .i64 n] w fun e w' => e = .returned (sv (digs 16 n.toNat)) ∧ Below w.heap.size w w' := by
  go_enter Tryz.func57, Tryz.ntmps57
  go_wp2_with (go_at_call 56; refine (ref_text_16 n n.toNat _ (by omega) (by omega)).mono ?_; rintro e w' ⟨rfl, hb⟩)
  go_ret
  exact ⟨rfl, hb⟩

theorem info_u8 : (Tryz.prog.info? 5).map (fun i => (i.zero, i.size, i.bytes)) = some (some (.int .u8 0), 1, 1) := by kernel_rfl

/-- What a loop that fills a row of bytes one by one leaves. -/
theorem fill_step (l : Bs) (f : UInt8 → UInt8) (k n : Nat) (b : UInt8) (r : Bs) (hl : l.drop k = b :: r) (hk : k < l.length) (hn : l.length = n) :
    (((l.take k).map (fun b => bv (f b)) ++ List.replicate (n - k) (Value.int .u8 0)).set k (bv (f b))) = (l.take (k + 1)).map (fun b => bv (f b)) ++ List.replicate (n - (k + 1)) (Value.int .u8 0) := by
  have h1 : l.take (k + 1) = l.take k ++ [b] := by
    rw [List.take_succ_eq_append_getElem hk]
    congr 2
    rw [List.drop_eq_getElem_cons hk] at hl
    exact (List.cons.inj hl).1
  rw [h1, List.map_append, List.set_append_right _ _ (by simp; omega)]
  have h2 : n - k = n - (k + 1) + 1 := by omega
  rw [show k - (List.map (fun b => bv (f b)) (l.take k)).length = 0 by simp; omega, h2, List.replicate_succ]
  simp

set_option maxHeartbeats 400000 in
theorem ref_LowerS (s : ByteArray) (w : World) (hs : s.size ≤ 140737488355328) :
    Calls Tryz.prog 106 #[.string s] w fun e w' => e = .returned (sv (lowL s.data.toList)) ∧ Below w.heap.size w w' := by
  obtain ⟨i0, hi, hz0, hz1, hz2⟩ := info_parts info_u8
  go_enter Tryz.func106, Tryz.ntmps106
  go_wp2_with (at_make; refine wpList_make_full _ rfl _ _ 22 rfl w.heap.size 5 i0 (.int .u8 0) 1 Tryz.underlying22 hi hz0 hz1 .i64 .i64 _ _ s.size rfl rfl rfl rfl (by rw [hz2]; omega) (by unfold maxLen; omega) (Nat.le_refl _) ?_; intro w1 hown hg)
  have hown' : Own w1 w.heap.size 5 1 (.slice (some ⟨w.heap.size, 0, none⟩) s.size s.size) s.size ((s.data.toList.take 0).map (fun b => bv (low b)) ++ List.replicate (s.size - 0) (Value.int .u8 0)) := by
    have := Own.of hown
    rw [show (Value.int IntKind.u8 0).cells = #[Value.int .u8 0] from rfl, Nat.mul_one, toList_madeCells_one] at this
    simpa using this
  have hb1 : Below w.heap.size w w1 := (Below.refl _ _).grown hg (Nat.le_refl _) (by simp)
  clear hown hg
  go_loopw [4] (fun i wr => ∃ k : Nat, k ≤ s.size ∧ i = .int .i64 k ∧ Own wr w.heap.size 5 1 (.slice (some ⟨w.heap.size, 0, none⟩) s.size s.size) s.size ((s.data.toList.take k).map (fun b => bv (low b)) ++ List.replicate (s.size - k) (Value.int .u8 0)) ∧ Below w.heap.size w wr) (fun i _ => s.size - (intOf i).toNat)
  case atStart => exact ⟨0, Nat.zero_le _, rfl, hown', hb1⟩
  case round =>
    obtain ⟨k, hk, rfl, ho, hb⟩ := hrel
    clear hown' hb1
    by_cases hlt : k < s.size
    · obtain ⟨b, hd, hbt⟩ := drop_bt s k hlt
      have Hd := Lib.hid hd; clear hd
      have hbs := PlainAid.get_bt s
      have hc := (ho.cellAt k (by omega)).1
      have hf := (ho.cellAt k (by omega)).2
      have hlow := low_num b
      rw [List.getElem?_append_right (by simp; omega), List.getElem?_replicate, if_pos (by simp; omega)] at hc
      go_wp2_with (go_at_call 125; refine (ref_lower _ _ (by omega) (u8lt _)).mono ?_; rintro e w' ⟨rfl, rfl⟩)
      go_roundw
      case rel =>
        have hst := ho.stored k (bv (low b))
        rw [fill_step s.data.toList low k s.size b _ Hd.out (by rw [len_data]; exact hlt) (len_data s)] at hst
        exact ⟨k + 1, by omega, by go_num, hst.1, hb.grown hst.2 hb.size (fun j hj => by cases hj; exact Nat.le_refl _)⟩
      case measure => simp [intOf]; omega
    · obtain rfl : k = s.size := by omega
      have hr : ∃ A c, (Value.slice (some ⟨w.heap.size, 0, none⟩) s.size s.size) = .slice A s.size c ∧ Rd wr wr.heap.size 1 A s.size ((lowL s.data.toList).map bv) := by
        obtain ⟨A, c, e, _, _, hr, _⟩ := ho.rd
        refine ⟨A, c, e, ?_⟩
        rw [List.take_of_length_le (by rw [len_data]; exact Nat.le_refl _), Nat.sub_self, List.replicate_zero, List.append_nil] at hr
        rw [lowL, List.map_map]
        exact hr
      obtain ⟨A, c, e, hr⟩ := hr
      injection e with e1 e2 e3
      subst e1; subst e3
      have hcv := run_str_rd hr s.size 22 5 9 Tryz.underlying22 Tryz.underlying5 Tryz.underlying9
      clear ho hr
      go_wp2
      go_ret
      exact ⟨rfl, hb⟩
end Go.Proofs.YtmjekdnfkgalbaaGreatDoor
namespace Go.Proofs.YtmjekdnfkgalbaaGreatDoor
open Go.RowKit

theorem stepW {a w w' : World} (L : Below a.heap.size a w) (hb : Below w.heap.size w w') : Below a.heap.size a w' := L.trans (hb.mono L.size)
theorem allocW {a w : World} (L : Below a.heap.size a w) (o : Obj) : Below a.heap.size a (w.alloc o) := L.alloc L.size o
theorem setW {a w : World} (L : Below a.heap.size a w) {p : Addr} (hp : a.heap.size ≤ p.block) (u : Value) : Below a.heap.size a (w.setCell p u) := L.setCell hp u
theorem growW {a w w' : World} {row : Option Nat} (L : Below a.heap.size a w) (hg : w.grownBy w' row) (hr : ∀ k, row = some k → a.heap.size ≤ k) : Below a.heap.size a w' := L.grown hg L.size hr
theorem below_of_none {w w' : World} (h : w.grownBy w' none) : Below w.heap.size w w' := (Below.refl _ _).grown h (Nat.le_refl _) (by simp)
theorem Own.belowW {w w' : World} {base e size n : Nat} {v : Value} {xs : List Value} (h : Own w base e size v n xs) (hb : Below w.heap.size w w') : Own w' base e size v n xs :=
  h.below hb fun k hk => (h.lt k hk).2
theorem Own.far {w : World} {base e size n : Nat} {v : Value} {xs : List Value} (h : Own w base e size v n xs) {p : Addr} (hp : ∀ k, v.ownBlock = some k → k ≠ p.block) (u : Value) : Own (w.setCell p u) base e size v n xs :=
  h.keep fun k hk => Below.heap_setCell w p u k (hp k hk)
theorem Rd.belowW {w w' : World} {B size n : Nat} {A : Option Addr} {xs : List Value} (h : Rd w B size A n xs) (hB : B ≤ w.heap.size) (hb : Below w.heap.size w w') : Rd w' B size A n xs := h.below (hb.mono hB)
theorem Rd.far {w : World} {B size n : Nat} {A : Option Addr} {xs : List Value} (h : Rd w B size A n xs) {p : Addr} (hp : B ≤ p.block) (u : Value) : Rd (w.setCell p u) B size A n xs :=
  h.below ((Below.refl B w).setCell hp u)
theorem Rd.grownW {w w' : World} {B size n : Nat} {A : Option Addr} {xs : List Value} {row : Option Nat} (h : Rd w B size A n xs) (hB : B ≤ w.heap.size) (hg : w.grownBy w' row) (hr : ∀ k, row = some k → B ≤ k) : Rd w' B size A n xs :=
  h.below ((Below.refl B w).grown hg hB hr)
theorem ite_prop {α : Type} {Q : α → Prop} {p : Prop} [Decidable p] {a b : α} (ha : Q a) (hb : Q b) : Q (if p then a else b) := by split <;> assumption
/-- What an owned slice holds, read off its own form. -/
theorem Own.rdS {w : World} {base e size n c : Nat} {A : Option Addr} {xs : List Value} (h : Own w base e size (.slice A n c) n xs) : n ≤ c ∧ c ≤ maxLen ∧ Rd w w.heap.size size A n xs := by
  obtain ⟨A', c', e', h1, h2, h3, _⟩ := h.rd
  injection e' with e1 e2 e3
  subst e1; subst e3
  exact ⟨h1, h2, h3⟩
end Go.Proofs.YtmjekdnfkgalbaaGreatDoor

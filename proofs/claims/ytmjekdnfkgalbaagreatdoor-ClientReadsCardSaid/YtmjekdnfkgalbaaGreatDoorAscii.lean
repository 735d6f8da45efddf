/- The functions of ascii: what each returns. ascii: numbers. -/
import Derived.Test.YtmjekdnfkgalbaaGreatDoorPlain
import Derived.Test.YtmjekdnfkgalbaaGreatDoorShelf
import Derived.Shelf.Strings.SlTrimAscii
import Derived.Lib.Join
import Derived.Lib.SmallJoins
import Derived.Lib.Atoi
namespace Go.Proofs.YtmjekdnfkgalbaaGreatDoor
open Go.RowKit

set_option maxHeartbeats 400000 in
theorem asc_isUpper (c : Int) (w : World) (_h0 : 0 ≤ c) (_h1 : c ≤ 255) :
    Calls Tryz.prog 144 #[.int .u8 c] w fun e w' => e = .returned (.bool (decide (65 ≤ c ∧ c ≤ 90))) ∧ w = w' := by
  go_enter Tryz.func144, Tryz.ntmps144
  go_wp2
  all_goals (go_ret; exact ⟨retB (by rw [Bool.eq_iff_iff]; simp; try omega), rfl⟩)
def letB (c : Int) : Bool := (65 ≤ c && c ≤ 90) || (97 ≤ c && c ≤ 122)
set_option maxHeartbeats 400000 in
theorem asc_isLetter (c : Int) (w : World) (h0 : 0 ≤ c) (h1 : c ≤ 255) :
    Calls Tryz.prog 141 #[.int .u8 c] w fun e w' => e = .returned (.bool (letB c)) ∧ w = w' := by
  go_enter Tryz.func141, Tryz.ntmps141
  go_wp2
  all_goals (go_ret; exact ⟨retB (by rw [Bool.eq_iff_iff]; simp [letB]; try omega), rfl⟩)

set_option maxHeartbeats 400000 in
theorem asc_Lower (s : ByteArray) (w : World) (hs : s.size ≤ maxLen) :
    Calls Tryz.prog 121 #[.string s] w fun e w' => e = .returned (sv (lowL s.data.toList)) ∧ Below w.heap.size w w' := by
  have hs' := hs
  unfold maxLen at hs
  go_enter Tryz.func121, Tryz.ntmps121
  go_wp2_with (refine wpList_toBytes _ rfl _ 9 22 rfl 5 w.heap.size s rfl Tryz.underlying9 Tryz.underlying22 Tryz.underlying5 hs' (Nat.le_refl _) ?_; intro cap w1 hcap ho1 hg1 hz1)
  have hb1 : Below w.heap.size w w1 := (Below.refl _ _).grown hg1 (Nat.le_refl _) (by simp)
  have ho1' : Own w1 w.heap.size 5 1 (.slice (some ⟨w.heap.size, 0, none⟩) s.size cap) s.size (((s.data.toList.take 0).map low ++ s.data.toList.drop 0).map bv) := by simpa using ho1
  clear hg1 hz1 ho1
  go_loopw [10] (fun i wr => ∃ k : Nat, k ≤ s.size ∧ i = .int .i64 k ∧ Own wr w.heap.size 5 1 (.slice (some ⟨w.heap.size, 0, none⟩) s.size cap) s.size (((s.data.toList.take k).map low ++ s.data.toList.drop k).map bv) ∧ Below w.heap.size w wr) (fun i _ => s.size - (intOf i).toNat)
  case atStart => exact ⟨0, Nat.zero_le _, rfl, ho1', hb1⟩
  case round =>
    obtain ⟨k, hk, rfl, ho, hb⟩ := hrel
    clear ho1' hb1
    by_cases hlt : k < s.size
    · obtain ⟨b, hd, hbt⟩ := drop_bt s k hlt
      have Hd := Lib.hid hd; clear hd
      have hc := (ho.cellAt k (by omega)).1
      have hf := (ho.cellAt k (by omega)).2
      have hc2 : wr.cell? ⟨w.heap.size, k, none⟩ = some (bv b) := by
        rw [hc, Hd.out]
        simp [Nat.min_eq_left hk]
      clear hc
      have hlen : k < s.data.toList.length := by rw [len_data]; exact hlt
      by_cases hu : 65 ≤ (b.toNat : Int) ∧ (b.toNat : Int) ≤ 90
      · have hl := low_num b
        have hlow : (low b).toNat = b.toNat + 32 := by unfold lowB at hl; rw [if_pos hu] at hl; omega
        have Hl := Lib.hid hlow; clear hl hlow
        obtain ⟨hu1, hu2⟩ := hu
        go_wp2
        go_roundw
        case rel =>
          have hst := ho.stored k (bv (low b))
          rw [turn_step s.data.toList low k b _ Hd.out hlen] at hst
          have e2 : (bv (low b)) = Value.int .u8 ((b.toNat : Int) + 97 - 65) := by unfold bv; rw [Hl.out]; congr 1; omega
          rw [e2] at hst
          exact ⟨k + 1, by omega, by go_num, hst.1, hb.grown hst.2 hb.size (fun j hj => by cases hj; exact Nat.le_refl _)⟩
        case measure => simp [intOf]; omega
      · have hlow : low b = b := by unfold low; rw [if_neg (by omega)]
        have hs := turn_same s.data.toList low k b _ Hd.out hlen hlow
        rw [hs] at ho
        have hb8 := u8lt b
        clear hs
        go_wp2
        all_goals
          go_roundw
          case rel => exact ⟨k + 1, by omega, by go_num, ho, hb⟩
          case measure => simp [intOf]; omega
    · obtain rfl : k = s.size := by omega
      obtain ⟨A, c, e, _, _, hr, _⟩ := ho.rd
      injection e with e1 e2 e3
      subst e1; subst e3
      rw [List.take_of_length_le (by rw [len_data]; exact Nat.le_refl _), drop_end s _ (Nat.le_refl _), List.append_nil] at hr
      go_wp2_with (refine wpList_toString _ rfl _ 22 9 rfl 5 Tryz.underlying22 Tryz.underlying5 Tryz.underlying9 _ _ _ _ _ rfl hr ?_)
      go_ret
      exact ⟨rfl, hb⟩

set_option maxHeartbeats 400000 in
theorem asc_Same (a b : ByteArray) (w : World) (ha : a.size ≤ maxLen) (hb : b.size ≤ maxLen) :
    Calls Tryz.prog 99 #[.string a, .string b] w fun e w' => e = .returned (.bool (lowL a.data.toList == lowL b.data.toList)) ∧ Below w.heap.size w w' := by
  go_enter Tryz.func99, Tryz.ntmps99
  go_wp2_with fail
  refine (asc_Lower a _ ha).mono ?_
  rintro e w1 ⟨rfl, h1⟩
  go_wp2_with fail
  refine (asc_Lower b _ hb).mono ?_
  rintro e w2 ⟨rfl, h2⟩
  go_wp2
  go_ret
  exact ⟨rfl, h1.trans (h2.mono h1.size)⟩

theorem dropWhile_append' {α : Type} (p : α → Bool) (a b : List α) : (a ++ b).dropWhile p = if a.dropWhile p = [] then b.dropWhile p else a.dropWhile p ++ b := by
  induction a with
  | nil => simp
  | cons x a ih =>
    simp only [List.cons_append, List.dropWhile_cons]
    by_cases h : p x = true
    · simp only [h, if_true]; exact ih
    · simp [h]
theorem rdrop_cons (p : UInt8 → Bool) (a : UInt8) (t : Bs) : ((a :: t).reverse.dropWhile p).reverse = if (t.reverse.dropWhile p).reverse = [] ∧ p a = true then [] else a :: (t.reverse.dropWhile p).reverse := by
  rw [List.reverse_cons, dropWhile_append']
  by_cases h : t.reverse.dropWhile p = []
  · by_cases h' : p a = true <;> simp [h, h']
  · simp [h]
theorem trim_comm (p : UInt8 → Bool) (l : Bs) : ((l.reverse.dropWhile p).reverse).dropWhile p = ((l.dropWhile p).reverse.dropWhile p).reverse := by
  induction l with
  | nil => rfl
  | cons a t ih =>
    rw [rdrop_cons]
    by_cases ha : p a = true
    · rw [List.dropWhile_cons_of_pos ha, ← ih]
      by_cases h : (t.reverse.dropWhile p).reverse = []
      · rw [if_pos ⟨h, ha⟩, h]
      · rw [if_neg (fun hh => h hh.1), List.dropWhile_cons_of_pos ha]
    · rw [if_neg (fun hh => ha hh.2), List.dropWhile_cons_of_neg ha, List.dropWhile_cons_of_neg ha, rdrop_cons, if_neg (fun hh => ha hh.2)]
theorem trimS_eq (l : Bs) : Lib.trimS l [9, 32] = trimL l := by
  have e : (fun b : UInt8 => ([9, 32] : Bs).contains b) = isB := by
    funext b
    cases h1 : (b == 9) <;> cases h2 : (b == 32) <;> simp [isB, List.contains, List.elem, h1, h2]
  unfold Lib.trimS Lib.trimLeftS Lib.trimRightS trimL trimE trimF
  rw [e, trim_comm]

set_option maxHeartbeats 400000 in
theorem asc_Trim (s : ByteArray) (w : World) (hs : s.size ≤ maxLen) :
    Calls Tryz.prog 111 #[.string s] w fun e w' => e = .returned (sv (trimL s.data.toList)) ∧ Below w.heap.size w w' := by
  go_enter Tryz.func111, Tryz.ntmps111
  go_wp2_with fail
  refine (Any.strings_Trim_laid Tryz.lays160 (by kernel_rfl) s ⟨#[9, 32]⟩ _ hs (by decide) (ascii_of_all (by decide))).mono ?_
  rintro e w' ⟨rfl, hb⟩
  go_wp2
  go_ret
  exact ⟨by rw [← trimS_eq]; rfl, hb⟩

theorem join_flat (xs : List Bs) : Lib.join xs [] = xs.flatten := by
  induction xs with
  | nil => rfl
  | cons x r ih =>
    rw [Lib.join_cons, List.flatten_cons]
    congr 1
    unfold Lib.joinTail
    congr 1
    exact (List.map_congr_left fun a _ => by simp).trans (List.map_id r)

set_option maxHeartbeats 400000 in
theorem asc_Join (A : Option Addr) (n c B : Nat) (xs : List ByteArray) (w : World) (hB : B ≤ w.heap.size) (hr : Rd w B 1 A n (xs.map Value.string)) (hc : n ≤ c) (hlen : (xs.map (·.data.toList)).flatten.length ≤ 140737488355328) (hn : n ≤ 140737488355328) :
    Calls Tryz.prog 44 #[.slice A n c] w fun e w' => e = .returned (sv (xs.map (·.data.toList)).flatten) ∧ Below w.heap.size w w' := by
  have hl : xs.length = n := by simpa using hr.1
  rcases Nat.eq_zero_or_pos n with h0 | h0
  · subst h0
    obtain rfl : xs = [] := List.eq_nil_of_length_eq_zero hl
    go_enter Tryz.func44, Tryz.ntmps44
    go_wp2_with fail
    refine (Tryz.strings_Join_none A c ⟨#[]⟩ _).mono ?_
    rintro e w' ⟨rfl, rfl⟩
    go_wp2
    go_ret
    exact ⟨rfl, Below.refl _ _⟩
  · obtain ⟨b, o, rfl, hb, hcell⟩ := hr.2 h0
    subst hl
    have hJ := Tryz.strings_Join b o c xs ⟨#[]⟩ w (fun j x hx => hcell j _ (by simp [hx])) (by omega) hn hc (by rw [show (⟨#[]⟩ : ByteArray).data.toList = [] from rfl, join_flat]; exact hlen)
    rw [show (⟨#[]⟩ : ByteArray).data.toList = [] from rfl, join_flat] at hJ
    have HJ := Lib.hid hJ
    clear hJ hlen hn hc hcell hr hB
    go_enter Tryz.func44, Tryz.ntmps44
    go_wp2_with fail
    refine HJ.out.mono ?_
    rintro e w' ⟨rfl, hb⟩
    go_wp2
    go_ret
    exact ⟨rfl, hb⟩

theorem idx_in (l : Bs) (c : UInt8) : (0 ≤ Lib.indexByte l c) ↔ l.contains c = true := by
  induction l with
  | nil => simp [Lib.indexByte]
  | cons b l ih =>
    have hge := Lib.indexByte_ge l c
    simp only [Lib.indexByte]
    by_cases h : (b == c) = true
    · have hm : b = c := beq_iff_eq.1 h
      subst hm
      simp
    · rw [if_neg h]
      have h' : (c == b) = false := by rw [Bool.eq_false_iff]; intro hh; exact h (by rw [beq_iff_eq] at hh ⊢; exact hh.symm)
      rw [List.contains_cons, h', Bool.false_or, ← ih]
      by_cases h2 : Lib.indexByte l c = -1
      · rw [h2]; simp
      · rw [if_neg (by simpa using h2)]; omega
theorem inL_contains (c : UInt8) (l : Bs) : inL c.toNat l = l.contains c := by
  unfold inL
  rw [Bool.eq_iff_iff]
  simp only [List.any_eq_true, beq_iff_eq, List.contains_iff_mem]
  constructor
  · rintro ⟨b, hb, h⟩
    have : b = c := u8inj (by omega)
    exact this ▸ hb
  · intro h; exact ⟨c, h, rfl⟩
def tokAll : Bs := [48, 49, 50, 51, 52, 53, 54, 55, 56, 57] ++ signs
theorem tok_eq (b : UInt8) : tokB b.toNat = (letB b.toNat || tokAll.contains b) := by
  have : ∀ x : Fin 256, tokB ((UInt8.ofNat x.val).toNat : Int) = (letB ((UInt8.ofNat x.val).toNat : Int) || tokAll.contains (UInt8.ofNat x.val)) := by decide +kernel
  have h := this ⟨b.toNat, b.toNat_lt⟩
  simpa using h

set_option maxHeartbeats 400000 in
theorem asc_tok1 (b : UInt8) (w : World) :
    Calls Tryz.prog 140 #[.int .u8 (b.toNat : Int)] w fun e w' => e = .returned (.bool (tokB b.toNat)) ∧ w = w' := by
  have h1 := u8lt b
  have hi := idx_in tokAll b
  have Hi := Lib.hid hi; clear hi
  have Ht := Lib.hid (tok_eq b)
  go_enter Tryz.func140, Tryz.ntmps140
  go_wp2_with (first
    | (go_at_call 141; refine (asc_isLetter _ _ (by omega) h1).mono ?_; rintro e w' ⟨rfl, rfl⟩)
    | (go_at_call 142; refine (Tryz.strings_IndexByte _ _ _).mono ?_; rintro e w' ⟨rfl, rfl⟩))
  · go_ret
    exact ⟨retB (by rw [Ht.out]; simp [*]), rfl⟩
  · go_ret
    exact ⟨retB (by
      rw [Ht.out, Bool.eq_iff_iff]
      have := Hi.out
      have hl : letB b.toNat = false := by simpa using ‹¬letB (b.toNat : Int) = true›
      rw [hl, Bool.false_or, ← this]
      simp [tokAll, signs]), rfl⟩

set_option maxHeartbeats 400000 in
theorem asc_val1 (c : Int) (w : World) (_h0 : 0 ≤ c) (_h1 : c ≤ 255) :
    Calls Tryz.prog 143 #[.int .u8 c] w fun e w' => e = .returned (.bool (valueB c)) ∧ w = w' := by
  go_enter Tryz.func143, Tryz.ntmps143
  go_wp2
  all_goals (go_ret; exact ⟨retB (by rw [Bool.eq_iff_iff]; simp [valueB]; try omega), rfl⟩)

set_option maxHeartbeats 400000 in
theorem asc_allT (s : ByteArray) (w : World) (hs : s.size ≤ maxLen) :
    Calls Tryz.prog 139 #[.string s, .func (.func 140) #[] #[]] w fun e w' => e = .returned (.bool (allT s.data.toList)) ∧ w = w' := by
  unfold maxLen at hs
  go_enter Tryz.func139, Tryz.ntmps139
  go_wp2
  go_loop [8] (fun i => ∃ k : Nat, k ≤ s.size ∧ i = .int .i64 k ∧ Hid (allT s.data.toList = allT (s.data.toList.drop k))) (fun i => s.size - (intOf i).toNat)
  case atStart => exact ⟨0, Nat.zero_le _, rfl, rfl⟩
  case round =>
    obtain ⟨k, hk, rfl, H⟩ := hrel
    by_cases hlt : k < s.size
    · obtain ⟨b, hb, hbt⟩ := drop_bt s k hlt
      have Hb := Lib.hid hb; clear hb
      have hbs := PlainAid.get_bt s
      go_wp2_with (go_at_call 140; refine (asc_tok1 _ _).mono ?_; rintro e w' ⟨rfl, rfl⟩)
      · have ht := notT ‹(!tokB (b.toNat : Int)) = true›
        go_ret
        exact ⟨retB (by rw [H.out, Hb.out, allT, List.all_cons, ht]; rfl), rfl⟩
      · have ht := notF ‹(!tokB (b.toNat : Int)) = false›
        go_round
        case rel => exact ⟨k + 1, by omega, by go_num, by rw [H.out, Hb.out, allT, List.all_cons, ht]; rfl⟩
        case measure => simp [intOf]; omega
    · go_wp2
      go_ret
      exact ⟨retB (by rw [H.out, drop_end s k (by omega)]; simp [allT]), rfl⟩
set_option maxHeartbeats 400000 in
theorem asc_allV (s : ByteArray) (w : World) (hs : s.size ≤ maxLen) :
    Calls Tryz.prog 139 #[.string s, .func (.func 143) #[] #[]] w fun e w' => e = .returned (.bool (allV s.data.toList)) ∧ w = w' := by
  unfold maxLen at hs
  go_enter Tryz.func139, Tryz.ntmps139
  go_wp2
  go_loop [8] (fun i => ∃ k : Nat, k ≤ s.size ∧ i = .int .i64 k ∧ Hid (allV s.data.toList = allV (s.data.toList.drop k))) (fun i => s.size - (intOf i).toNat)
  case atStart => exact ⟨0, Nat.zero_le _, rfl, rfl⟩
  case round =>
    obtain ⟨k, hk, rfl, H⟩ := hrel
    by_cases hlt : k < s.size
    · obtain ⟨b, hb, hbt⟩ := drop_bt s k hlt
      have Hb := Lib.hid hb; clear hb
      have hbs := PlainAid.get_bt s
      go_wp2_with (go_at_call 143; refine (asc_val1 _ _ (by omega) (u8lt _)).mono ?_; rintro e w' ⟨rfl, rfl⟩)
      · have ht := notT ‹(!valueB (b.toNat : Int)) = true›
        go_ret
        exact ⟨retB (by rw [H.out, Hb.out, allV, List.all_cons, ht]; rfl), rfl⟩
      · have ht := notF ‹(!valueB (b.toNat : Int)) = false›
        go_round
        case rel => exact ⟨k + 1, by omega, by go_num, by rw [H.out, Hb.out, allV, List.all_cons, ht]; rfl⟩
        case measure => simp [intOf]; omega
    · go_wp2
      go_ret
      exact ⟨retB (by rw [H.out, drop_end s k (by omega)]; simp [allV]), rfl⟩

set_option maxHeartbeats 400000 in
theorem asc_IsToken (s : ByteArray) (w : World) (hs : s.size ≤ maxLen) :
    Calls Tryz.prog 119 #[.string s] w fun e w' => e = .returned (.bool (allT s.data.toList && decide (0 < s.data.toList.length))) ∧ w = w' := by
  rcases Nat.eq_zero_or_pos s.size with h0 | h0
  · have hl : s.data.toList = [] := List.eq_nil_of_length_eq_zero (by rw [len_data]; exact h0)
    obtain rfl : s = ⟨#[]⟩ := str_ext hl
    go_enter Tryz.func119, Tryz.ntmps119
    go_wp2
    go_ret
    exact ⟨rfl, rfl⟩
  · have hne : s.toList.isEmpty = false := by
      rw [ByteArray.toList_eq, List.isEmpty_eq_false_iff]
      intro h; rw [← len_data, h] at h0; simp at h0
    have hd : decide (0 < s.data.toList.length) = true := by simp [h0]
    have Hd := Lib.hid hd; clear hd
    go_enter Tryz.func119, Tryz.ntmps119
    go_wp2_with (go_at_call 139; refine (asc_allT s _ hs).mono ?_; rintro e w' ⟨rfl, rfl⟩)
    go_ret
    exact ⟨retB (by rw [Hd.out, Bool.and_true]), rfl⟩
set_option maxHeartbeats 400000 in
theorem asc_IsValue (s : ByteArray) (w : World) (hs : s.size ≤ maxLen) :
    Calls Tryz.prog 120 #[.string s] w fun e w' => e = .returned (.bool (allV s.data.toList)) ∧ w = w' := by
  go_enter Tryz.func120, Tryz.ntmps120
  go_wp2_with (go_at_call 139; refine (asc_allV s _ hs).mono ?_; rintro e w' ⟨rfl, rfl⟩)
  go_ret
  exact ⟨rfl, rfl⟩
end Go.Proofs.YtmjekdnfkgalbaaGreatDoor
namespace Go.Proofs.YtmjekdnfkgalbaaGreatDoor
open Go.RowKit

theorem dropWhile_nil {p : UInt8 → Bool} {l : Bs} : l.dropWhile p = [] ↔ l.all p = true := by
  induction l with
  | nil => simp
  | cons a l ih =>
    by_cases h : p a = true
    · rw [List.dropWhile_cons_of_pos h, ih]; simp [h]
    · rw [List.dropWhile_cons_of_neg h]; simp [h]
theorem trimS_nil (l cs : Bs) : Lib.trimS l cs = [] ↔ l.all (cs.contains ·) = true := by
  unfold Lib.trimS Lib.trimLeftS Lib.trimRightS
  rw [trim_comm, List.reverse_eq_nil_iff, dropWhile_nil, List.all_reverse]
  constructor
  · intro h
    by_cases h2 : l.dropWhile (fun x => cs.contains x) = []
    · exact dropWhile_nil.1 h2
    · exfalso
      obtain ⟨a, r, hr⟩ := List.exists_cons_of_ne_nil h2
      have hh := List.head_dropWhile_not (fun x => cs.contains x) h2
      rw [hr, List.all_cons, Bool.and_eq_true] at h
      simp only [hr, List.head_cons] at hh
      rw [h.1] at hh; cases hh
  · intro h
    rw [dropWhile_nil.2 h]; rfl

def decS : Bs := [48, 49, 50, 51, 52, 53, 54, 55, 56, 57]
def hexS : Bs := decS ++ [97, 98, 99, 100, 101, 102, 65, 66, 67, 68, 69, 70]
theorem dec_dig (b : UInt8) : decS.contains b = decide (0 ≤ digB b.toNat ∧ digB b.toNat < 10) := by
  have : ∀ x : Fin 256, decS.contains (UInt8.ofNat x.val) = decide (0 ≤ digB ((UInt8.ofNat x.val).toNat : Int) ∧ digB ((UInt8.ofNat x.val).toNat : Int) < 10) := by decide +kernel
  have h := this ⟨b.toNat, b.toNat_lt⟩
  simpa using h
theorem hex_dig (b : UInt8) : hexS.contains b = decide (0 ≤ digB b.toNat ∧ digB b.toNat < 16) := by
  have : ∀ x : Fin 256, hexS.contains (UInt8.ofNat x.val) = decide (0 ≤ digB ((UInt8.ofNat x.val).toNat : Int) ∧ digB ((UInt8.ofNat x.val).toNat : Int) < 16) := by decide +kernel
  have h := this ⟨b.toNat, b.toNat_lt⟩
  simpa using h
/-- The digits' value, behind a number. -/
theorem numF_some (base : Int) : ∀ (l : Bs) (n : Int), (numF base l n).isSome = l.all fun b => decide (0 ≤ digB b.toNat ∧ digB b.toNat < base)
  | [], n => rfl
  | b :: r, n => by
    rw [numF, List.all_cons]
    by_cases h : digB b.toNat < 0 ∨ base ≤ digB b.toNat
    · rw [if_pos h, show decide (0 ≤ digB b.toNat ∧ digB b.toNat < base) = false by simp; omega]; rfl
    · rw [if_neg h, show decide (0 ≤ digB b.toNat ∧ digB b.toNat < base) = true by simp; omega, numF_some base r]; rfl
theorem numR_10 (l : Bs) : (numR 10 15 l).isSome = (decide (1 ≤ l.length) && decide (l.length ≤ 15) && l.all (decS.contains ·)) := by
  unfold numR
  by_cases h : l.length < 1 ∨ 15 < l.length
  · rw [if_pos h]; symm; simp; omega
  · rw [if_neg h, numF_some, show decide (1 ≤ l.length) = true by simp; omega, show decide (l.length ≤ 15) = true by simp; omega]
    simp only [Bool.true_and]
    congr 1; funext b; rw [dec_dig]
theorem numR_16 (l : Bs) : (numR 16 12 l).isSome = (decide (1 ≤ l.length) && decide (l.length ≤ 12) && l.all (hexS.contains ·)) := by
  unfold numR
  by_cases h : l.length < 1 ∨ 12 < l.length
  · rw [if_pos h]; symm; simp; omega
  · rw [if_neg h, numF_some, show decide (1 ≤ l.length) = true by simp; omega, show decide (l.length ≤ 12) = true by simp; omega]
    simp only [Bool.true_and]
    congr 1; funext b; rw [hex_dig]

theorem empty_size {s : ByteArray} (h : s.size = 0) : s = ⟨#[]⟩ := str_ext (List.eq_nil_of_length_eq_zero (by rw [len_data]; exact h))
theorem ne_isEmpty {s : ByteArray} (h : 0 < s.size) : s.toList.isEmpty = false := by
  rw [ByteArray.toList_eq, List.isEmpty_eq_false_iff]
  intro h'; rw [← len_data, h'] at h; simp at h

set_option maxHeartbeats 400000 in
theorem asc_digits_10 (s : ByteArray) (w : World) (hs : s.size ≤ maxLen) :
    Calls Tryz.prog 91 #[.string s, .string ⟨#[48, 49, 50, 51, 52, 53, 54, 55, 56, 57]⟩, .int .i64 15] w fun e w' => e = .returned (.bool (numR 10 15 s.data.toList).isSome) ∧ Below w.heap.size w w' := by
  have hR := numR_10 s.data.toList
  have HR := Lib.hid hR; clear hR
  unfold maxLen at hs
  rcases Nat.eq_zero_or_pos s.size with h0 | h0
  · obtain rfl := empty_size h0
    go_enter Tryz.func91, Tryz.ntmps91
    go_wp2
    go_ret
    exact ⟨retB (by rw [HR.out]; rfl), Below.refl _ _⟩
  · have hne := ne_isEmpty h0
    by_cases hm : s.size ≤ 15
    · have HC := Lib.hid (Any.strings_Trim_laid Tryz.lays160 (by kernel_rfl) s ⟨#[48, 49, 50, 51, 52, 53, 54, 55, 56, 57]⟩ w hs (by decide) (ascii_of_all (by decide)))
      have hnil := trimS_nil s.data.toList [48, 49, 50, 51, 52, 53, 54, 55, 56, 57]
      go_enter Tryz.func91, Tryz.ntmps91
      go_wp2_with (go_at_call 113; refine HC.out.mono ?_; rintro e w' ⟨rfl, hb⟩)
      go_ret
      refine ⟨retB ?_, hb⟩
      rw [HR.out, len_data, show decide (1 ≤ s.size) = true by simp; omega, show decide (s.size ≤ 15) = true by simp; omega, Bool.eq_iff_iff]
      simp only [Bool.true_and]
      rw [show decS = [48, 49, 50, 51, 52, 53, 54, 55, 56, 57] from rfl, ← hnil]
      simp
    · go_enter Tryz.func91, Tryz.ntmps91
      go_wp2
      go_ret
      exact ⟨retB (by rw [HR.out, len_data, show decide (s.size ≤ 15) = false by simp; omega]; simp), Below.refl _ _⟩

set_option maxHeartbeats 400000 in
theorem asc_digits_16 (s : ByteArray) (w : World) (hs : s.size ≤ maxLen) :
    Calls Tryz.prog 91 #[.string s, .string ⟨#[48, 49, 50, 51, 52, 53, 54, 55, 56, 57, 97, 98, 99, 100, 101, 102, 65, 66, 67, 68, 69, 70]⟩, .int .i64 12] w fun e w' => e = .returned (.bool (numR 16 12 s.data.toList).isSome) ∧ Below w.heap.size w w' := by
  have hR := numR_16 s.data.toList
  have HR := Lib.hid hR; clear hR
  unfold maxLen at hs
  rcases Nat.eq_zero_or_pos s.size with h0 | h0
  · obtain rfl := empty_size h0
    go_enter Tryz.func91, Tryz.ntmps91
    go_wp2
    go_ret
    exact ⟨retB (by rw [HR.out]; rfl), Below.refl _ _⟩
  · have hne := ne_isEmpty h0
    by_cases hm : s.size ≤ 12
    · have HC := Lib.hid (Any.strings_Trim_laid Tryz.lays160 (by kernel_rfl) s ⟨#[48, 49, 50, 51, 52, 53, 54, 55, 56, 57, 97, 98, 99, 100, 101, 102, 65, 66, 67, 68, 69, 70]⟩ w hs (by decide) (ascii_of_all (by decide)))
      have hnil := trimS_nil s.data.toList [48, 49, 50, 51, 52, 53, 54, 55, 56, 57, 97, 98, 99, 100, 101, 102, 65, 66, 67, 68, 69, 70]
      go_enter Tryz.func91, Tryz.ntmps91
      go_wp2_with (go_at_call 113; refine HC.out.mono ?_; rintro e w' ⟨rfl, hb⟩)
      go_ret
      refine ⟨retB ?_, hb⟩
      rw [HR.out, len_data, show decide (1 ≤ s.size) = true by simp; omega, show decide (s.size ≤ 12) = true by simp; omega, Bool.eq_iff_iff]
      simp only [Bool.true_and]
      rw [show hexS = [48, 49, 50, 51, 52, 53, 54, 55, 56, 57, 97, 98, 99, 100, 101, 102, 65, 66, 67, 68, 69, 70] from rfl, ← hnil]
      simp
    · go_enter Tryz.func91, Tryz.ntmps91
      go_wp2
      go_ret
      exact ⟨retB (by rw [HR.out, len_data, show decide (s.size ≤ 12) = false by simp; omega]; simp), Below.refl _ _⟩

theorem digV (b : UInt8) (h : decS.contains b = true) : Lib.digitVal b = some (b.toNat - 48) ∧ digB b.toNat = ((b.toNat - 48 : Nat) : Int) ∧ b ≠ 45 ∧ b ≠ 43 := by
  have : ∀ x : Fin 256, decS.contains (UInt8.ofNat x.val) = true → Lib.digitVal (UInt8.ofNat x.val) = some ((UInt8.ofNat x.val).toNat - 48) ∧ digB ((UInt8.ofNat x.val).toNat : Int) = (((UInt8.ofNat x.val).toNat - 48 : Nat) : Int) ∧ (UInt8.ofNat x.val) ≠ 45 ∧ (UInt8.ofNat x.val) ≠ 43 := by decide +kernel
  have h' := this ⟨b.toNat, b.toNat_lt⟩
  simp only [UInt8.ofNat_toNat] at h'
  exact h' h
theorem decFrom_numF : ∀ (l : Bs) (n : Nat), l.all (decS.contains ·) = true → ∃ m : Nat, Lib.decFrom n l = some m ∧ numF 10 l n = some (m : Int)
  | [], n, _ => ⟨n, rfl, rfl⟩
  | b :: r, n, h => by
    rw [List.all_cons, Bool.and_eq_true] at h
    obtain ⟨h1, h2, _, _⟩ := digV b h.1
    obtain ⟨m, e1, e2⟩ := decFrom_numF r (n * 10 + (b.toNat - 48)) h.2
    refine ⟨m, by rw [Lib.decFrom, h1]; exact e1, ?_⟩
    have hd := dec_dig b
    rw [h.1] at hd
    have hd' : 0 ≤ digB b.toNat ∧ digB b.toNat < 10 := of_decide_eq_true hd.symm
    rw [numF, if_neg (by omega), h2]
    rw [Int.natCast_add, Int.natCast_mul] at e2
    exact e2
theorem atoi_numR (l : Bs) (h : (numR 10 15 l).isSome = true) : ∃ m : Nat, Lib.atoi l = some (m : Int) ∧ numR 10 15 l = some (m : Int) := by
  have h' := h
  rw [numR_10] at h
  simp only [Bool.and_eq_true, decide_eq_true_eq] at h
  obtain ⟨⟨h1, h2⟩, h3⟩ := h
  obtain ⟨m, e1, e2⟩ := decFrom_numF l 0 h3
  refine ⟨m, ?_, ?_⟩
  · cases l with
    | nil => simp at h1
    | cons b r =>
      rw [List.all_cons, Bool.and_eq_true] at h3
      obtain ⟨_, _, n1, n2⟩ := digV b h3.1
      unfold Lib.atoi
      simp only []
      rw [if_neg (by simpa using n1), if_neg (by simpa using n2)]
      unfold Lib.decNat
      simp only [List.isEmpty_cons, Bool.false_eq_true, if_false, e1, Option.map_some]
  · unfold numR; rw [if_neg (by omega)]; exact e2

set_option maxHeartbeats 400000 in
theorem asc_Num (s : ByteArray) (w : World) (hs : s.size ≤ maxLen) :
    Calls Tryz.prog 63 #[.string s] w fun e w' => e = .returned (numV (numR 10 15 s.data.toList)) ∧ Below w.heap.size w w' := by
  have HD := Lib.hid (asc_digits_10 s w hs)
  by_cases h : (numR 10 15 s.data.toList).isSome = true
  · obtain ⟨m, h1, h2⟩ := atoi_numR _ h
    have hsz : s.size ≤ 18 := by
      rw [numR_10, len_data] at h
      simp only [Bool.and_eq_true, decide_eq_true_eq] at h
      omega
    have HA := fun W : World => Tryz.strconv_Atoi s m hsz h1 W
    have HA' := Lib.hid HA
    have H2 := Lib.hid h2
    clear HA h1 h2 hsz
    go_enter Tryz.func63, Tryz.ntmps63
    go_wp2_with fail
    refine HD.out.mono ?_
    rintro e w1 ⟨rfl, hb1⟩
    go_wp2_with fail
    refine (HA'.out _).mono ?_
    rintro e w2 ⟨rfl, t, rfl⟩
    go_wp2
    go_ret2
    refine ⟨by rw [H2.out]; rfl, hb1.trans ?_⟩
    exact ⟨rfl, rfl, rfl, by rw [Lib.bytesWorld_size]; omega, fun k hk => Lib.bytesWorld_at_old w1 _ t k (by have := hb1.size; omega)⟩
  · have h0 : (numR 10 15 s.data.toList).isSome = false := by simpa using h
    have hn : numR 10 15 s.data.toList = none := by simpa using h0
    have HN := Lib.hid hn
    clear h hn
    go_enter Tryz.func63, Tryz.ntmps63
    go_wp2_with fail
    refine HD.out.mono ?_
    rintro e w1 ⟨rfl, hb1⟩
    go_wp2
    go_ret2
    exact ⟨by rw [HN.out]; rfl, hb1⟩

theorem digs_dec (u : Nat) : digs 10 u = Lib.decDigits u := by
  induction u using Nat.strongRecOn with
  | ind u ih =>
    rw [digs_step 10 u (by omega), Lib.decDigits]
    have hd : ∀ d : Fin 10, dch d.val = UInt8.ofNat (48 + d.val) := by decide
    by_cases h : u < 10
    · rw [if_pos (by omega), dif_pos h, Nat.mod_eq_of_lt h, hd ⟨u, h⟩]
    · rw [if_neg (by omega), dif_neg h, ih (u / 10) (by omega), hd ⟨u % 10, by omega⟩]

/-- The table of powers is there. -/
def Tab10 (w : World) : Prop := Lib.TabIs Tryz.prog w "internal/strconv.uint64pow10" .u64 Lib.pow10Tab
theorem tab_below {w w' : World} {B : Nat} (h : Tab10 w) (hb : Below B w w') (hB : w.heap.size ≤ B) : Tab10 w' := Joins.tab_stays (g := 3) (by kernel_rfl) h hb hB
theorem below_grow' (w : World) (k : Nat) (os : Array Obj) : Below w.heap.size w (Sort.grow (w.drewN k) os) :=
  ⟨rfl, rfl, rfl, by simp [Sort.grow], fun i hi => by simp only [Sort.grow]; exact Array.getElem?_append_left hi⟩

set_option maxRecDepth 100000 in
set_option maxHeartbeats 400000 in
theorem asc_Dec (n : Int) (w : World) (h0 : -9223372036854775808 ≤ n) (h1 : n ≤ 9223372036854775807) (ht : Tab10 w) :
    Calls Tryz.prog 45 #[.int .i64 n] w fun e w' => e = .returned (sv (digs 10 n.toNat)) ∧ Below w.heap.size w w' := by
  have key : ∀ m : Int, 0 ≤ m → m ≤ 9223372036854775807 → Calls Tryz.prog 79 #[.int .i64 m] w fun e w' => e = .returned (sv (digs 10 m.toNat)) ∧ Below w.heap.size w w' := fun m m0 m1 =>
    (Tryz.strconv_Itoa m (by omega) m1 w ht).mono fun e w' ⟨he, k, os, hw⟩ => by
      subst hw
      refine ⟨?_, below_grow' _ _ _⟩
      rw [he, digs_dec]
      unfold Lib.itoa
      rw [if_neg (by omega)]
  have Key := Lib.hid key
  clear key ht
  go_enter Tryz.func45, Tryz.ntmps45
  go_wp2_with fail
  refine (Key.out (max 0 n) (by omega) (by omega)).mono ?_
  rintro e w' ⟨rfl, hb⟩
  go_wp2
  go_ret
  exact ⟨by rw [show (max 0 n).toNat = n.toNat by omega]; rfl, hb⟩
end Go.Proofs.YtmjekdnfkgalbaaGreatDoor

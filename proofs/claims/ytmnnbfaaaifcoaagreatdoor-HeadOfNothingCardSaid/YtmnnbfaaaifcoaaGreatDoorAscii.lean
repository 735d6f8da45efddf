/- The functions of ascii: what each returns. -/
import Derived.Test.YtmnnbfaaaifcoaaGreatDoorRef1c
import Derived.Test.YtmnnbfaaaifcoaaGreatDoorShelf
import Derived.Shelf.Strings.SlTrimAscii
import Derived.Lib.Join
namespace Go.Proofs.YtmnnbfaaaifcoaaGreatDoor
open Go.RowKit

set_option maxHeartbeats 400000 in
theorem asc_isUpper (c : Int) (w : World) (_h0 : 0 ≤ c) (_h1 : c ≤ 255) :
    Calls Tryz.prog 137 #[.int .u8 c] w fun e w' => e = .returned (.bool (decide (65 ≤ c ∧ c ≤ 90))) ∧ w = w' := by
  go_enter Tryz.func137, Tryz.ntmps137
  go_wp2
  all_goals (go_ret; exact ⟨retB (by rw [Bool.eq_iff_iff]; simp; try omega), rfl⟩)
def letB (c : Int) : Bool := (65 ≤ c && c ≤ 90) || (97 ≤ c && c ≤ 122)
set_option maxHeartbeats 400000 in
theorem asc_isLetter (c : Int) (w : World) (h0 : 0 ≤ c) (h1 : c ≤ 255) :
    Calls Tryz.prog 104 #[.int .u8 c] w fun e w' => e = .returned (.bool (letB c)) ∧ w = w' := by
  go_enter Tryz.func104, Tryz.ntmps104
  go_wp2
  all_goals (go_ret; exact ⟨retB (by rw [Bool.eq_iff_iff]; simp [letB]; try omega), rfl⟩)

set_option maxHeartbeats 400000 in
theorem asc_Lower (s : ByteArray) (w : World) (hs : s.size ≤ maxLen) :
    Calls Tryz.prog 108 #[.string s] w fun e w' => e = .returned (sv (lowL s.data.toList)) ∧ Below w.heap.size w w' := by
  have hs' := hs
  unfold maxLen at hs
  go_enter Tryz.func108, Tryz.ntmps108
  go_wp2_with (refine wpList_toBytes _ rfl _ 9 61 rfl 5 w.heap.size s rfl Tryz.underlying9 Tryz.underlying61 Tryz.underlying5 hs' (Nat.le_refl _) ?_; intro cap w1 hcap ho1 hg1 hz1)
  have hb1 : Below w.heap.size w w1 := (Below.refl _ _).grown hg1 (Nat.le_refl _) (by simp)
  have ho1' : Own w1 w.heap.size 5 1 (.slice (some ⟨w.heap.size, 0, none⟩) s.size cap) s.size (((s.data.toList.take 0).map low ++ s.data.toList.drop 0).map bv) := by simpa using ho1
  clear hg1 hz1 ho1
  go_loopw [10] (fun i wr => ∃ k : Nat, k ≤ s.size ∧ i = .int .i64 k ∧ Own wr w.heap.size 5 1 (.slice (some ⟨w.heap.size, 0, none⟩) s.size cap) s.size (((s.data.toList.take k).map low ++ s.data.toList.drop k).map bv) ∧ Below w.heap.size w wr) (fun i _ => s.size - (intOf i).toNat)
  case atStart => exact ⟨0, Nat.zero_le _, rfl, ho1', hb1⟩
  case round =>
    obtain ⟨k, hk, rfl, ho, hb⟩ := hrel
    clear ho1' hb1
    by_cases hlt : k < s.size
    · obtain ⟨b, hd, hbt⟩ := drop_bt s k hlt
      have Hd := Lib.hid hd; clear hd
      have hc := (ho.cellAt k (by omega)).1
      have hf := (ho.cellAt k (by omega)).2
      have hc2 : wr.cell? ⟨w.heap.size, k, none⟩ = some (bv b) := by
        rw [hc, Hd.out]
        simp [Nat.min_eq_left hk]
      clear hc
      have hlen : k < s.data.toList.length := by rw [len_data]; exact hlt
      by_cases hu : 65 ≤ (b.toNat : Int) ∧ (b.toNat : Int) ≤ 90
      · have hl := low_num b
        have hlow : (low b).toNat = b.toNat + 32 := by unfold lowB at hl; rw [if_pos hu] at hl; omega
        have Hl := Lib.hid hlow; clear hl hlow
        obtain ⟨hu1, hu2⟩ := hu
        go_wp2
        go_roundw
        case rel =>
          have hst := ho.stored k (bv (low b))
          rw [turn_step s.data.toList low k b _ Hd.out hlen] at hst
          have e2 : (bv (low b)) = Value.int .u8 ((b.toNat : Int) + 97 - 65) := by unfold bv; rw [Hl.out]; congr 1; omega
          rw [e2] at hst
          exact ⟨k + 1, by omega, by go_num, hst.1, hb.grown hst.2 hb.size (fun j hj => by cases hj; exact Nat.le_refl _)⟩
        case measure => simp [intOf]; omega
      · have hlow : low b = b := by unfold low; rw [if_neg (by omega)]
        have hs := turn_same s.data.toList low k b _ Hd.out hlen hlow
        rw [hs] at ho
        have hb8 := u8lt b
        clear hs
        go_wp2
        all_goals
          go_roundw
          case rel => exact ⟨k + 1, by omega, by go_num, ho, hb⟩
          case measure => simp [intOf]; omega
    · obtain rfl : k = s.size := by omega
      obtain ⟨A, c, e, _, _, hr, _⟩ := ho.rd
      injection e with e1 e2 e3
      subst e1; subst e3
      rw [List.take_of_length_le (by rw [len_data]; exact Nat.le_refl _), drop_end s _ (Nat.le_refl _), List.append_nil] at hr
      go_wp2_with (refine wpList_toString _ rfl _ 61 9 rfl 5 Tryz.underlying61 Tryz.underlying5 Tryz.underlying9 _ _ _ _ _ rfl hr ?_)
      go_ret
      exact ⟨rfl, hb⟩

set_option maxHeartbeats 400000 in
theorem asc_Same (a b : ByteArray) (w : World) (ha : a.size ≤ maxLen) (hb : b.size ≤ maxLen) :
    Calls Tryz.prog 81 #[.string a, .string b] w fun e w' => e = .returned (.bool (lowL a.data.toList == lowL b.data.toList)) ∧ Below w.heap.size w w' := by
  go_enter Tryz.func81, Tryz.ntmps81
  go_wp2_with fail
  refine (asc_Lower a _ ha).mono ?_
  rintro e w1 ⟨rfl, h1⟩
  go_wp2_with fail
  refine (asc_Lower b _ hb).mono ?_
  rintro e w2 ⟨rfl, h2⟩
  go_wp2
  go_ret
  exact ⟨rfl, h1.trans (h2.mono h1.size)⟩

theorem dropWhile_append' {α : Type} (p : α → Bool) (a b : List α) : (a ++ b).dropWhile p = if a.dropWhile p = [] then b.dropWhile p else a.dropWhile p ++ b := by
  induction a with
  | nil => simp
  | cons x a ih =>
    simp only [List.cons_append, List.dropWhile_cons]
    by_cases h : p x = true
    · simp only [h, if_true]; exact ih
    · simp [h]
theorem rdrop_cons (p : UInt8 → Bool) (a : UInt8) (t : Bs) : ((a :: t).reverse.dropWhile p).reverse = if (t.reverse.dropWhile p).reverse = [] ∧ p a = true then [] else a :: (t.reverse.dropWhile p).reverse := by
  rw [List.reverse_cons, dropWhile_append']
  by_cases h : t.reverse.dropWhile p = []
  · by_cases h' : p a = true <;> simp [h, h']
  · simp [h]
theorem trim_comm (p : UInt8 → Bool) (l : Bs) : ((l.reverse.dropWhile p).reverse).dropWhile p = ((l.dropWhile p).reverse.dropWhile p).reverse := by
  induction l with
  | nil => rfl
  | cons a t ih =>
    rw [rdrop_cons]
    by_cases ha : p a = true
    · rw [List.dropWhile_cons_of_pos ha, ← ih]
      by_cases h : (t.reverse.dropWhile p).reverse = []
      · rw [if_pos ⟨h, ha⟩, h]
      · rw [if_neg (fun hh => h hh.1), List.dropWhile_cons_of_pos ha]
    · rw [if_neg (fun hh => ha hh.2), List.dropWhile_cons_of_neg ha, List.dropWhile_cons_of_neg ha, rdrop_cons, if_neg (fun hh => ha hh.2)]
theorem trimS_eq (l : Bs) : Lib.trimS l [9, 32] = trimL l := by
  have e : (fun b : UInt8 => ([9, 32] : Bs).contains b) = isB := by
    funext b
    cases h1 : (b == 9) <;> cases h2 : (b == 32) <;> simp [isB, List.contains, List.elem, h1, h2]
  unfold Lib.trimS Lib.trimLeftS Lib.trimRightS trimL trimE trimF
  rw [e, trim_comm]

set_option maxHeartbeats 400000 in
theorem asc_Trim (s : ByteArray) (w : World) (hs : s.size ≤ maxLen) :
    Calls Tryz.prog 116 #[.string s] w fun e w' => e = .returned (sv (trimL s.data.toList)) ∧ Below w.heap.size w w' := by
  go_enter Tryz.func116, Tryz.ntmps116
  go_wp2_with fail
  refine (Any.strings_Trim_laid Tryz.lays160 (by kernel_rfl) s ⟨#[9, 32]⟩ _ hs (by decide) (ascii_of_all (by decide))).mono ?_
  rintro e w' ⟨rfl, hb⟩
  go_wp2
  go_ret
  exact ⟨by rw [← trimS_eq]; rfl, hb⟩

theorem join_flat (xs : List Bs) : Lib.join xs [] = xs.flatten := by
  induction xs with
  | nil => rfl
  | cons x r ih =>
    rw [Lib.join_cons, List.flatten_cons]
    congr 1
    unfold Lib.joinTail
    congr 1
    exact (List.map_congr_left fun a _ => by simp).trans (List.map_id r)

set_option maxHeartbeats 400000 in
theorem asc_Join (A : Option Addr) (n c B : Nat) (xs : List ByteArray) (w : World) (hB : B ≤ w.heap.size) (hr : Rd w B 1 A n (xs.map Value.string)) (hc : n ≤ c) (hlen : (xs.map (·.data.toList)).flatten.length ≤ 140737488355328) (hn : n ≤ 140737488355328) :
    Calls Tryz.prog 66 #[.slice A n c] w fun e w' => e = .returned (sv (xs.map (·.data.toList)).flatten) ∧ Below w.heap.size w w' := by
  have hl : xs.length = n := by simpa using hr.1
  rcases Nat.eq_zero_or_pos n with h0 | h0
  · subst h0
    obtain rfl : xs = [] := List.eq_nil_of_length_eq_zero hl
    go_enter Tryz.func66, Tryz.ntmps66
    go_wp2_with fail
    refine (Tryz.strings_Join_none A c ⟨#[]⟩ _).mono ?_
    rintro e w' ⟨rfl, rfl⟩
    go_wp2
    go_ret
    exact ⟨rfl, Below.refl _ _⟩
  · obtain ⟨b, o, rfl, hb, hcell⟩ := hr.2 h0
    subst hl
    have hJ := Tryz.strings_Join b o c xs ⟨#[]⟩ w (fun j x hx => hcell j _ (by simp [hx])) (by omega) hn hc (by rw [show (⟨#[]⟩ : ByteArray).data.toList = [] from rfl, join_flat]; exact hlen)
    rw [show (⟨#[]⟩ : ByteArray).data.toList = [] from rfl, join_flat] at hJ
    have HJ := Lib.hid hJ
    clear hJ hlen hn hc hcell hr hB
    go_enter Tryz.func66, Tryz.ntmps66
    go_wp2_with fail
    refine HJ.out.mono ?_
    rintro e w' ⟨rfl, hb⟩
    go_wp2
    go_ret
    exact ⟨rfl, hb⟩

theorem idx_in (l : Bs) (c : UInt8) : (0 ≤ Lib.indexByte l c) ↔ l.contains c = true := by
  induction l with
  | nil => simp [Lib.indexByte]
  | cons b l ih =>
    have hge := Lib.indexByte_ge l c
    simp only [Lib.indexByte]
    by_cases h : (b == c) = true
    · have hm : b = c := beq_iff_eq.1 h
      subst hm
      simp
    · rw [if_neg h]
      have h' : (c == b) = false := by rw [Bool.eq_false_iff]; intro hh; exact h (by rw [beq_iff_eq] at hh ⊢; exact hh.symm)
      rw [List.contains_cons, h', Bool.false_or, ← ih]
      by_cases h2 : Lib.indexByte l c = -1
      · rw [h2]; simp
      · rw [if_neg (by simpa using h2)]; omega
theorem inL_contains (c : UInt8) (l : Bs) : inL c.toNat l = l.contains c := by
  unfold inL
  rw [Bool.eq_iff_iff]
  simp only [List.any_eq_true, beq_iff_eq, List.contains_iff_mem]
  constructor
  · rintro ⟨b, hb, h⟩
    have : b = c := u8inj (by omega)
    exact this ▸ hb
  · intro h; exact ⟨c, h, rfl⟩
def tokAll : Bs := [48, 49, 50, 51, 52, 53, 54, 55, 56, 57] ++ signs
theorem tok_eq (b : UInt8) : tokB b.toNat = (letB b.toNat || tokAll.contains b) := by
  have : ∀ x : Fin 256, tokB ((UInt8.ofNat x.val).toNat : Int) = (letB ((UInt8.ofNat x.val).toNat : Int) || tokAll.contains (UInt8.ofNat x.val)) := by decide +kernel
  have h := this ⟨b.toNat, b.toNat_lt⟩
  simpa using h

set_option maxHeartbeats 400000 in
theorem asc_tok1 (b : UInt8) (w : World) :
    Calls Tryz.prog 103 #[.int .u8 (b.toNat : Int)] w fun e w' => e = .returned (.bool (tokB b.toNat)) ∧ w = w' := by
  have h1 := u8lt b
  have hi := idx_in tokAll b
  have Hi := Lib.hid hi; clear hi
  have Ht := Lib.hid (tok_eq b)
  go_enter Tryz.func103, Tryz.ntmps103
  go_wp2_with (first
    | (go_at_call 104; refine (asc_isLetter _ _ (by omega) h1).mono ?_; rintro e w' ⟨rfl, rfl⟩)
    | (go_at_call 105; refine (Tryz.strings_IndexByte _ _ _).mono ?_; rintro e w' ⟨rfl, rfl⟩))
  · go_ret
    exact ⟨retB (by rw [Ht.out]; simp [*]), rfl⟩
  · go_ret
    exact ⟨retB (by
      rw [Ht.out, Bool.eq_iff_iff]
      have := Hi.out
      have hl : letB b.toNat = false := by simpa using ‹¬letB (b.toNat : Int) = true›
      rw [hl, Bool.false_or, ← this]
      simp [tokAll, signs]), rfl⟩

set_option maxHeartbeats 400000 in
theorem asc_val1 (c : Int) (w : World) (_h0 : 0 ≤ c) (_h1 : c ≤ 255) :
    Calls Tryz.prog 174 #[.int .u8 c] w fun e w' => e = .returned (.bool (valueB c)) ∧ w = w' := by
  go_enter Tryz.func174, Tryz.ntmps174
  go_wp2
  all_goals (go_ret; exact ⟨retB (by rw [Bool.eq_iff_iff]; simp [valueB]; try omega), rfl⟩)

set_option maxHeartbeats 400000 in
theorem asc_allT (s : ByteArray) (w : World) (hs : s.size ≤ maxLen) :
    Calls Tryz.prog 102 #[.string s, .func (.func 103) #[] #[]] w fun e w' => e = .returned (.bool (allT s.data.toList)) ∧ w = w' := by
  unfold maxLen at hs
  go_enter Tryz.func102, Tryz.ntmps102
  go_wp2
  go_loop [8] (fun i => ∃ k : Nat, k ≤ s.size ∧ i = .int .i64 k ∧ Hid (allT s.data.toList = allT (s.data.toList.drop k))) (fun i => s.size - (intOf i).toNat)
  case atStart => exact ⟨0, Nat.zero_le _, rfl, rfl⟩
  case round =>
    obtain ⟨k, hk, rfl, H⟩ := hrel
    by_cases hlt : k < s.size
    · obtain ⟨b, hb, hbt⟩ := drop_bt s k hlt
      have Hb := Lib.hid hb; clear hb
      have hbs := PlainAid.get_bt s
      go_wp2_with (go_at_call 103; refine (asc_tok1 _ _).mono ?_; rintro e w' ⟨rfl, rfl⟩)
      · have ht := notT ‹(!tokB (b.toNat : Int)) = true›
        go_ret
        exact ⟨retB (by rw [H.out, Hb.out, allT, List.all_cons, ht]; rfl), rfl⟩
      · have ht := notF ‹(!tokB (b.toNat : Int)) = false›
        go_round
        case rel => exact ⟨k + 1, by omega, by go_num, by rw [H.out, Hb.out, allT, List.all_cons, ht]; rfl⟩
        case measure => simp [intOf]; omega
    · go_wp2
      go_ret
      exact ⟨retB (by rw [H.out, drop_end s k (by omega)]; simp [allT]), rfl⟩
set_option maxHeartbeats 400000 in
theorem asc_allV (s : ByteArray) (w : World) (hs : s.size ≤ maxLen) :
    Calls Tryz.prog 102 #[.string s, .func (.func 174) #[] #[]] w fun e w' => e = .returned (.bool (allV s.data.toList)) ∧ w = w' := by
  unfold maxLen at hs
  go_enter Tryz.func102, Tryz.ntmps102
  go_wp2
  go_loop [8] (fun i => ∃ k : Nat, k ≤ s.size ∧ i = .int .i64 k ∧ Hid (allV s.data.toList = allV (s.data.toList.drop k))) (fun i => s.size - (intOf i).toNat)
  case atStart => exact ⟨0, Nat.zero_le _, rfl, rfl⟩
  case round =>
    obtain ⟨k, hk, rfl, H⟩ := hrel
    by_cases hlt : k < s.size
    · obtain ⟨b, hb, hbt⟩ := drop_bt s k hlt
      have Hb := Lib.hid hb; clear hb
      have hbs := PlainAid.get_bt s
      go_wp2_with (go_at_call 174; refine (asc_val1 _ _ (by omega) (u8lt _)).mono ?_; rintro e w' ⟨rfl, rfl⟩)
      · have ht := notT ‹(!valueB (b.toNat : Int)) = true›
        go_ret
        exact ⟨retB (by rw [H.out, Hb.out, allV, List.all_cons, ht]; rfl), rfl⟩
      · have ht := notF ‹(!valueB (b.toNat : Int)) = false›
        go_round
        case rel => exact ⟨k + 1, by omega, by go_num, by rw [H.out, Hb.out, allV, List.all_cons, ht]; rfl⟩
        case measure => simp [intOf]; omega
    · go_wp2
      go_ret
      exact ⟨retB (by rw [H.out, drop_end s k (by omega)]; simp [allV]), rfl⟩

set_option maxHeartbeats 400000 in
theorem asc_IsToken (s : ByteArray) (w : World) (hs : s.size ≤ maxLen) :
    Calls Tryz.prog 69 #[.string s] w fun e w' => e = .returned (.bool (allT s.data.toList && decide (0 < s.data.toList.length))) ∧ w = w' := by
  rcases Nat.eq_zero_or_pos s.size with h0 | h0
  · have hl : s.data.toList = [] := List.eq_nil_of_length_eq_zero (by rw [len_data]; exact h0)
    obtain rfl : s = ⟨#[]⟩ := str_ext hl
    go_enter Tryz.func69, Tryz.ntmps69
    go_wp2
    go_ret
    exact ⟨rfl, rfl⟩
  · have hne : s.toList.isEmpty = false := by
      rw [ByteArray.toList_eq, List.isEmpty_eq_false_iff]
      intro h; rw [← len_data, h] at h0; simp at h0
    have hd : decide (0 < s.data.toList.length) = true := by simp [h0]
    have Hd := Lib.hid hd; clear hd
    go_enter Tryz.func69, Tryz.ntmps69
    go_wp2_with (go_at_call 102; refine (asc_allT s _ hs).mono ?_; rintro e w' ⟨rfl, rfl⟩)
    go_ret
    exact ⟨retB (by rw [Hd.out, Bool.and_true]), rfl⟩
set_option maxHeartbeats 400000 in
theorem asc_IsValue (s : ByteArray) (w : World) (hs : s.size ≤ maxLen) :
    Calls Tryz.prog 147 #[.string s] w fun e w' => e = .returned (.bool (allV s.data.toList)) ∧ w = w' := by
  go_enter Tryz.func147, Tryz.ntmps147
  go_wp2_with (go_at_call 102; refine (asc_allV s _ hs).mono ?_; rintro e w' ⟨rfl, rfl⟩)
  go_ret
  exact ⟨rfl, rfl⟩
end Go.Proofs.YtmnnbfaaaifcoaaGreatDoor

/- ascii: numbers. -/
import Derived.Test.YtmnnbfaaaifcoaaGreatDoorAscii
import Derived.Lib.SmallJoins
import Derived.Lib.Atoi
namespace Go.Proofs.YtmnnbfaaaifcoaaGreatDoor
open Go.RowKit

theorem dropWhile_nil {p : UInt8 → Bool} {l : Bs} : l.dropWhile p = [] ↔ l.all p = true := by
  induction l with
  | nil => simp
  | cons a l ih =>
    by_cases h : p a = true
    · rw [List.dropWhile_cons_of_pos h, ih]; simp [h]
    · rw [List.dropWhile_cons_of_neg h]; simp [h]
theorem trimS_nil (l cs : Bs) : Lib.trimS l cs = [] ↔ l.all (cs.contains ·) = true := by
  unfold Lib.trimS Lib.trimLeftS Lib.trimRightS
  rw [trim_comm, List.reverse_eq_nil_iff, dropWhile_nil, List.all_reverse]
  constructor
  · intro h
    by_cases h2 : l.dropWhile (fun x => cs.contains x) = []
    · exact dropWhile_nil.1 h2
    · exfalso
      obtain ⟨a, r, hr⟩ := List.exists_cons_of_ne_nil h2
      have hh := List.head_dropWhile_not (fun x => cs.contains x) h2
      rw [hr, List.all_cons, Bool.and_eq_true] at h
      simp only [hr, List.head_cons] at hh
      rw [h.1] at hh; cases hh
  · intro h
    rw [dropWhile_nil.2 h]; rfl

def decS : Bs := [48, 49, 50, 51, 52, 53, 54, 55, 56, 57]
def hexS : Bs := decS ++ [97, 98, 99, 100, 101, 102, 65, 66, 67, 68, 69, 70]
theorem dec_dig (b : UInt8) : decS.contains b = decide (0 ≤ digB b.toNat ∧ digB b.toNat < 10) := by
  have : ∀ x : Fin 256, decS.contains (UInt8.ofNat x.val) = decide (0 ≤ digB ((UInt8.ofNat x.val).toNat : Int) ∧ digB ((UInt8.ofNat x.val).toNat : Int) < 10) := by decide +kernel
  have h := this ⟨b.toNat, b.toNat_lt⟩
  simpa using h
theorem hex_dig (b : UInt8) : hexS.contains b = decide (0 ≤ digB b.toNat ∧ digB b.toNat < 16) := by
  have : ∀ x : Fin 256, hexS.contains (UInt8.ofNat x.val) = decide (0 ≤ digB ((UInt8.ofNat x.val).toNat : Int) ∧ digB ((UInt8.ofNat x.val).toNat : Int) < 16) := by decide +kernel
  have h := this ⟨b.toNat, b.toNat_lt⟩
  simpa using h
/-- The digits' value, behind a number. -/
theorem numF_some (base : Int) : ∀ (l : Bs) (n : Int), (numF base l n).isSome = l.all fun b => decide (0 ≤ digB b.toNat ∧ digB b.toNat < base)
  | [], n => rfl
  | b :: r, n => by
    rw [numF, List.all_cons]
    by_cases h : digB b.toNat < 0 ∨ base ≤ digB b.toNat
    · rw [if_pos h, show decide (0 ≤ digB b.toNat ∧ digB b.toNat < base) = false by simp; omega]; rfl
    · rw [if_neg h, show decide (0 ≤ digB b.toNat ∧ digB b.toNat < base) = true by simp; omega, numF_some base r]; rfl
theorem numR_10 (l : Bs) : (numR 10 15 l).isSome = (decide (1 ≤ l.length) && decide (l.length ≤ 15) && l.all (decS.contains ·)) := by
  unfold numR
  by_cases h : l.length < 1 ∨ 15 < l.length
  · rw [if_pos h]; symm; simp; omega
  · rw [if_neg h, numF_some, show decide (1 ≤ l.length) = true by simp; omega, show decide (l.length ≤ 15) = true by simp; omega]
    simp only [Bool.true_and]
    congr 1; funext b; rw [dec_dig]
theorem numR_16 (l : Bs) : (numR 16 12 l).isSome = (decide (1 ≤ l.length) && decide (l.length ≤ 12) && l.all (hexS.contains ·)) := by
  unfold numR
  by_cases h : l.length < 1 ∨ 12 < l.length
  · rw [if_pos h]; symm; simp; omega
  · rw [if_neg h, numF_some, show decide (1 ≤ l.length) = true by simp; omega, show decide (l.length ≤ 12) = true by simp; omega]
    simp only [Bool.true_and]
    congr 1; funext b; rw [hex_dig]

theorem empty_size {s : ByteArray} (h : s.size = 0) : s = ⟨#[]⟩ := str_ext (List.eq_nil_of_length_eq_zero (by rw [len_data]; exact h))
theorem ne_isEmpty {s : ByteArray} (h : 0 < s.size) : s.toList.isEmpty = false := by
  rw [ByteArray.toList_eq, List.isEmpty_eq_false_iff]
  intro h'; rw [← len_data, h'] at h; simp at h

set_option maxHeartbeats 400000 in
theorem asc_digits_10 (s : ByteArray) (w : World) (hs : s.size ≤ maxLen) :
    Calls Tryz.prog 143 #[.string s, .string ⟨#[48, 49, 50, 51, 52, 53, 54, 55, 56, 57]⟩, .int .i64 15] w fun e w' => e = .returned (.bool (numR 10 15 s.data.toList).isSome) ∧ Below w.heap.size w w' := by
  have hR := numR_10 s.data.toList
  have HR := Lib.hid hR; clear hR
  unfold maxLen at hs
  rcases Nat.eq_zero_or_pos s.size with h0 | h0
  · obtain rfl := empty_size h0
    go_enter Tryz.func143, Tryz.ntmps143
    go_wp2
    go_ret
    exact ⟨retB (by rw [HR.out]; rfl), Below.refl _ _⟩
  · have hne := ne_isEmpty h0
    by_cases hm : s.size ≤ 15
    · have HC := Lib.hid (Any.strings_Trim_laid Tryz.lays160 (by kernel_rfl) s ⟨#[48, 49, 50, 51, 52, 53, 54, 55, 56, 57]⟩ w hs (by decide) (ascii_of_all (by decide)))
      have hnil := trimS_nil s.data.toList [48, 49, 50, 51, 52, 53, 54, 55, 56, 57]
      go_enter Tryz.func143, Tryz.ntmps143
      go_wp2_with (go_at_call 146; refine HC.out.mono ?_; rintro e w' ⟨rfl, hb⟩)
      go_ret
      refine ⟨retB ?_, hb⟩
      rw [HR.out, len_data, show decide (1 ≤ s.size) = true by simp; omega, show decide (s.size ≤ 15) = true by simp; omega, Bool.eq_iff_iff]
      simp only [Bool.true_and]
      rw [show decS = [48, 49, 50, 51, 52, 53, 54, 55, 56, 57] from rfl, ← hnil]
      simp
    · go_enter Tryz.func143, Tryz.ntmps143
      go_wp2
      go_ret
      exact ⟨retB (by rw [HR.out, len_data, show decide (s.size ≤ 15) = false by simp; omega]; simp), Below.refl _ _⟩

set_option maxHeartbeats 400000 in
theorem asc_digits_16 (s : ByteArray) (w : World) (hs : s.size ≤ maxLen) :
    Calls Tryz.prog 143 #[.string s, .string ⟨#[48, 49, 50, 51, 52, 53, 54, 55, 56, 57, 97, 98, 99, 100, 101, 102, 65, 66, 67, 68, 69, 70]⟩, .int .i64 12] w fun e w' => e = .returned (.bool (numR 16 12 s.data.toList).isSome) ∧ Below w.heap.size w w' := by
  have hR := numR_16 s.data.toList
  have HR := Lib.hid hR; clear hR
  unfold maxLen at hs
  rcases Nat.eq_zero_or_pos s.size with h0 | h0
  · obtain rfl := empty_size h0
    go_enter Tryz.func143, Tryz.ntmps143
    go_wp2
    go_ret
    exact ⟨retB (by rw [HR.out]; rfl), Below.refl _ _⟩
  · have hne := ne_isEmpty h0
    by_cases hm : s.size ≤ 12
    · have HC := Lib.hid (Any.strings_Trim_laid Tryz.lays160 (by kernel_rfl) s ⟨#[48, 49, 50, 51, 52, 53, 54, 55, 56, 57, 97, 98, 99, 100, 101, 102, 65, 66, 67, 68, 69, 70]⟩ w hs (by decide) (ascii_of_all (by decide)))
      have hnil := trimS_nil s.data.toList [48, 49, 50, 51, 52, 53, 54, 55, 56, 57, 97, 98, 99, 100, 101, 102, 65, 66, 67, 68, 69, 70]
      go_enter Tryz.func143, Tryz.ntmps143
      go_wp2_with (go_at_call 146; refine HC.out.mono ?_; rintro e w' ⟨rfl, hb⟩)
      go_ret
      refine ⟨retB ?_, hb⟩
      rw [HR.out, len_data, show decide (1 ≤ s.size) = true by simp; omega, show decide (s.size ≤ 12) = true by simp; omega, Bool.eq_iff_iff]
      simp only [Bool.true_and]
      rw [show hexS = [48, 49, 50, 51, 52, 53, 54, 55, 56, 57, 97, 98, 99, 100, 101, 102, 65, 66, 67, 68, 69, 70] from rfl, ← hnil]
      simp
    · go_enter Tryz.func143, Tryz.ntmps143
      go_wp2
      go_ret
      exact ⟨retB (by rw [HR.out, len_data, show decide (s.size ≤ 12) = false by simp; omega]; simp), Below.refl _ _⟩

theorem digV (b : UInt8) (h : decS.contains b = true) : Lib.digitVal b = some (b.toNat - 48) ∧ digB b.toNat = ((b.toNat - 48 : Nat) : Int) ∧ b ≠ 45 ∧ b ≠ 43 := by
  have : ∀ x : Fin 256, decS.contains (UInt8.ofNat x.val) = true → Lib.digitVal (UInt8.ofNat x.val) = some ((UInt8.ofNat x.val).toNat - 48) ∧ digB ((UInt8.ofNat x.val).toNat : Int) = (((UInt8.ofNat x.val).toNat - 48 : Nat) : Int) ∧ (UInt8.ofNat x.val) ≠ 45 ∧ (UInt8.ofNat x.val) ≠ 43 := by decide +kernel
  have h' := this ⟨b.toNat, b.toNat_lt⟩
  simp only [UInt8.ofNat_toNat] at h'
  exact h' h
theorem decFrom_numF : ∀ (l : Bs) (n : Nat), l.all (decS.contains ·) = true → ∃ m : Nat, Lib.decFrom n l = some m ∧ numF 10 l n = some (m : Int)
  | [], n, _ => ⟨n, rfl, rfl⟩
  | b :: r, n, h => by
    rw [List.all_cons, Bool.and_eq_true] at h
    obtain ⟨h1, h2, _, _⟩ := digV b h.1
    obtain ⟨m, e1, e2⟩ := decFrom_numF r (n * 10 + (b.toNat - 48)) h.2
    refine ⟨m, by rw [Lib.decFrom, h1]; exact e1, ?_⟩
    have hd := dec_dig b
    rw [h.1] at hd
    have hd' : 0 ≤ digB b.toNat ∧ digB b.toNat < 10 := of_decide_eq_true hd.symm
    rw [numF, if_neg (by omega), h2]
    rw [Int.natCast_add, Int.natCast_mul] at e2
    exact e2
theorem atoi_numR (l : Bs) (h : (numR 10 15 l).isSome = true) : ∃ m : Nat, Lib.atoi l = some (m : Int) ∧ numR 10 15 l = some (m : Int) := by
  have h' := h
  rw [numR_10] at h
  simp only [Bool.and_eq_true, decide_eq_true_eq] at h
  obtain ⟨⟨h1, h2⟩, h3⟩ := h
  obtain ⟨m, e1, e2⟩ := decFrom_numF l 0 h3
  refine ⟨m, ?_, ?_⟩
  · cases l with
    | nil => simp at h1
    | cons b r =>
      rw [List.all_cons, Bool.and_eq_true] at h3
      obtain ⟨_, _, n1, n2⟩ := digV b h3.1
      unfold Lib.atoi
      simp only []
      rw [if_neg (by simpa using n1), if_neg (by simpa using n2)]
      unfold Lib.decNat
      simp only [List.isEmpty_cons, Bool.false_eq_true, if_false, e1, Option.map_some]
  · unfold numR; rw [if_neg (by omega)]; exact e2

set_option maxHeartbeats 400000 in
theorem asc_Num (s : ByteArray) (w : World) (hs : s.size ≤ maxLen) :
    Calls Tryz.prog 112 #[.string s] w fun e w' => e = .returned (numV (numR 10 15 s.data.toList)) ∧ Below w.heap.size w w' := by
  have HD := Lib.hid (asc_digits_10 s w hs)
  by_cases h : (numR 10 15 s.data.toList).isSome = true
  · obtain ⟨m, h1, h2⟩ := atoi_numR _ h
    have hsz : s.size ≤ 18 := by
      rw [numR_10, len_data] at h
      simp only [Bool.and_eq_true, decide_eq_true_eq] at h
      omega
    have HA := fun W : World => Tryz.strconv_Atoi s m hsz h1 W
    have HA' := Lib.hid HA
    have H2 := Lib.hid h2
    clear HA h1 h2 hsz
    go_enter Tryz.func112, Tryz.ntmps112
    go_wp2_with fail
    refine HD.out.mono ?_
    rintro e w1 ⟨rfl, hb1⟩
    go_wp2_with fail
    refine (HA'.out _).mono ?_
    rintro e w2 ⟨rfl, t, rfl⟩
    go_wp2
    go_ret2
    refine ⟨by rw [H2.out]; rfl, hb1.trans ?_⟩
    exact ⟨rfl, rfl, rfl, by rw [Lib.bytesWorld_size]; omega, fun k hk => Lib.bytesWorld_at_old w1 _ t k (by have := hb1.size; omega)⟩
  · have h0 : (numR 10 15 s.data.toList).isSome = false := by simpa using h
    have hn : numR 10 15 s.data.toList = none := by simpa using h0
    have HN := Lib.hid hn
    clear h hn
    go_enter Tryz.func112, Tryz.ntmps112
    go_wp2_with fail
    refine HD.out.mono ?_
    rintro e w1 ⟨rfl, hb1⟩
    go_wp2
    go_ret2
    exact ⟨by rw [HN.out]; rfl, hb1⟩

theorem digs_dec (u : Nat) : digs 10 u = Lib.decDigits u := by
  induction u using Nat.strongRecOn with
  | ind u ih =>
    rw [digs_step 10 u (by omega), Lib.decDigits]
    have hd : ∀ d : Fin 10, dch d.val = UInt8.ofNat (48 + d.val) := by decide
    by_cases h : u < 10
    · rw [if_pos (by omega), dif_pos h, Nat.mod_eq_of_lt h, hd ⟨u, h⟩]
    · rw [if_neg (by omega), dif_neg h, ih (u / 10) (by omega), hd ⟨u % 10, by omega⟩]

/-- The table of powers is there. -/
def Tab10 (w : World) : Prop := Lib.TabIs Tryz.prog w "internal/strconv.uint64pow10" .u64 Lib.pow10Tab
theorem tab_below {w w' : World} {B : Nat} (h : Tab10 w) (hb : Below B w w') (hB : w.heap.size ≤ B) : Tab10 w' := Joins.tab_stays (g := 1) (by kernel_rfl) h hb hB
theorem below_grow' (w : World) (k : Nat) (os : Array Obj) : Below w.heap.size w (Sort.grow (w.drewN k) os) :=
  ⟨rfl, rfl, rfl, by simp [Sort.grow], fun i hi => by simp only [Sort.grow]; exact Array.getElem?_append_left hi⟩

set_option maxRecDepth 100000 in
set_option maxHeartbeats 400000 in
theorem asc_Dec (n : Int) (w : World) (h0 : -9223372036854775808 ≤ n) (h1 : n ≤ 9223372036854775807) (ht : Tab10 w) :
    Calls Tryz.prog 64 #[.int .i64 n] w fun e w' => e = .returned (sv (digs 10 n.toNat)) ∧ Below w.heap.size w w' := by
  have key : ∀ m : Int, 0 ≤ m → m ≤ 9223372036854775807 → Calls Tryz.prog 99 #[.int .i64 m] w fun e w' => e = .returned (sv (digs 10 m.toNat)) ∧ Below w.heap.size w w' := fun m m0 m1 =>
    (Tryz.strconv_Itoa m (by omega) m1 w ht).mono fun e w' ⟨he, k, os, hw⟩ => by
      subst hw
      refine ⟨?_, below_grow' _ _ _⟩
      rw [he, digs_dec]
      unfold Lib.itoa
      rw [if_neg (by omega)]
  have Key := Lib.hid key
  clear key ht
  go_enter Tryz.func64, Tryz.ntmps64
  go_wp2_with fail
  refine (Key.out (max 0 n) (by omega) (by omega)).mono ?_
  rintro e w' ⟨rfl, hb⟩
  go_wp2
  go_ret
  exact ⟨by rw [show (max 0 n).toNat = n.toNat by omega]; rfl, hb⟩
end Go.Proofs.YtmnnbfaaaifcoaaGreatDoor

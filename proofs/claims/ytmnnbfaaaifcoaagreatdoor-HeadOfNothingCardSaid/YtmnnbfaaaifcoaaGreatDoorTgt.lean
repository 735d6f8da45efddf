/- The functions of target, first part: isOf, Host, Decode. -/
import Derived.Test.YtmnnbfaaaifcoaaGreatDoorHex
import Derived.Test.YtmnnbfaaaifcoaaGreatDoorTPlain
import Derived.Deep.QuietTactic
import Derived.BigQuiet
namespace Go.Proofs.YtmnnbfaaaifcoaaGreatDoor
open Go.RowKit
set_option maxRecDepth 100000
set_option maxHeartbeats 2000000

/-- The library's bound on short searches has some value. -/
def ML (w : World) : Prop := ∃ m : Int, w.cell? ⟨0, 0, none⟩ = some (.int .i64 m)
theorem ML.below {w w' : World} {B : Nat} (h : ML w) (hb : Below B w w') (hB : w.heap.size ≤ B) : ML w' := by
  obtain ⟨m, hm⟩ := h
  have h1 : 0 < w.heap.size := by
    rcases Nat.lt_or_ge 0 w.heap.size with h1 | h1
    · exact h1
    · simp [World.cell?, Array.getElem?_eq_none h1] at hm
  exact ⟨m, (hb.cell (p := ⟨0, 0, none⟩) (Nat.lt_of_lt_of_le h1 hB)).trans hm⟩
theorem ML.drewN {w : World} (h : ML w) (n : Nat) : ML (w.drewN n) := h

def inB (o : Bs) (b : UInt8) : Bool := o.contains b
/-- A letter, a digit, or one of some. -/
def ofB (o : Bs) (b : UInt8) : Bool := alnumB b.toNat || inB o b
def allOf (o l : Bs) : Bool := l.all (ofB o)
theorem idx_neg (l : Bs) (c : UInt8) : decide (Lib.indexByte l c < 0) = !inB l c := by
  have h := idx_in l c
  unfold inB
  cases hc : l.contains c
  · rw [hc] at h
    have : ¬ 0 ≤ Lib.indexByte l c := fun hh => by simpa using h.1 hh
    simp; omega
  · have := h.2 hc
    simp; omega
theorem allOf_cons (o : Bs) (b : UInt8) (l : Bs) : allOf o (b :: l) = (ofB o b && allOf o l) := by rw [allOf, allOf, List.all_cons]

theorem tgt_isLetter (c : Int) (w : World) (_h0 : 0 ≤ c) (_h1 : c ≤ 255) :
    Calls Tryz.prog 145 #[.int .u8 c] w fun e w' => e = .returned (.bool (alnumB c)) ∧ w = w' := by
  go_enter Tryz.func145, Tryz.ntmps145
  go_wp2
  all_goals (go_ret; exact ⟨retB (by rw [Bool.eq_iff_iff]; simp [alnumB]; try omega), rfl⟩)

theorem tgt_isOf (s o : ByteArray) (w : World) (hs : s.size ≤ maxLen) :
    Calls Tryz.prog 113 #[.string s, .string o] w fun e w' => e = .returned (.bool (allOf o.data.toList s.data.toList)) ∧ w = w' := by
  unfold maxLen at hs
  go_enter Tryz.func113, Tryz.ntmps113
  go_wp2
  go_loop [8] (fun i => ∃ k : Nat, k ≤ s.size ∧ i = .int .i64 k ∧ Hid (allOf o.data.toList s.data.toList = allOf o.data.toList (s.data.toList.drop k))) (fun i => s.size - (intOf i).toNat)
  case atStart => exact ⟨0, Nat.zero_le _, rfl, rfl⟩
  case round =>
    obtain ⟨k, hk, rfl, H⟩ := hrel
    by_cases hlt : k < s.size
    · obtain ⟨b, hb, hbt⟩ := drop_bt s k hlt
      have Hb := Lib.hid hb; clear hb
      have hbs := PlainAid.get_bt s
      have hb8 := u8lt b
      have hx := idx_neg o.data.toList b
      have hub : (b.toNat : Int).toNat.toUInt8 = b := by simp
      cases hA : alnumB b.toNat <;> cases hO : inB o.data.toList b
      all_goals
        go_wp2_with (first
          | (go_at_call 145; refine (tgt_isLetter _ _ (by omega) hb8).mono ?_; rintro e w' ⟨rfl, rfl⟩)
          | (go_at_call 105; refine (Tryz.strings_IndexByte _ _ _).mono ?_; rintro e w' ⟨rfl, rfl⟩))
      · go_ret
        exact ⟨retB (by rw [H.out, Hb.out, allOf_cons, ofB, hA, hO]; rfl), rfl⟩
      all_goals
        go_round
        case rel => exact ⟨k + 1, by omega, by go_num, by rw [H.out, Hb.out, allOf_cons, ofB, hA, hO]; rfl⟩
        case measure => simp [intOf]; omega
    · go_wp2
      go_ret
      exact ⟨retB (by rw [H.out, drop_end s k (by omega)]; rfl), rfl⟩

/-! ### Host -/
theorem index_1 (c : UInt8) : ∀ (l : Bs), (Lib.index l [c] = -1 ∧ l.takeWhile (· != c) = l ∧ l.dropWhile (· != c) = []) ∨ (∃ r, l.dropWhile (· != c) = c :: r ∧ Lib.index l [c] = ((l.takeWhile (· != c)).length : Nat) ∧ l = l.takeWhile (· != c) ++ c :: r)
  | [] => .inl ⟨by simp [Lib.index], rfl, rfl⟩
  | b :: l => by
    by_cases h : b = c
    · subst h
      refine .inr ⟨l, by simp, ?_, by simp⟩
      have hp : ([b].isPrefixOf (b :: l)) = true := by show (b == b && ([] : Bs).isPrefixOf l) = true; simp
      rw [Lib.index, hp]; simp
    · have hn : (b != c) = true := by simpa using h
      have hp : ([c].isPrefixOf (b :: l)) = false := by show (c == b && ([] : Bs).isPrefixOf l) = false; rw [show (c == b) = false by simpa using fun e => h e.symm]; rfl
      simp only [List.takeWhile_cons, List.dropWhile_cons, hn, if_true, Lib.index, hp]
      rcases index_1 c l with ⟨h1, h2, h3⟩ | ⟨r, h1, h2, h3⟩
      · exact .inl ⟨by simp [h1], by rw [h2], h3⟩
      · refine .inr ⟨r, h1, ?_, ?_⟩
        · rw [h2]
          simp
        · simp only [List.cons_append]; rw [← h3]
/-- strings.Cut at one byte. -/
theorem cut_1 (c : UInt8) (l : Bs) : Lib.cut l [c] = (l.takeWhile (· != c), (l.dropWhile (· != c)).tail, !(l.dropWhile (· != c)).isEmpty) := by
  unfold Lib.cut
  rcases index_1 c l with ⟨h1, h2, h3⟩ | ⟨r, h1, h2, h3⟩
  · rw [h1, h2, h3]; rfl
  · rw [if_pos (by omega), h1, h2]
    generalize l.takeWhile (· != c) = t at h3
    subst h3
    simp

def fstB (c : UInt8) (l : Bs) : Bs := l.takeWhile (· != c)
def sndB (c : UInt8) (l : Bs) : Bs := (l.dropWhile (· != c)).tail
def hasB (c : UInt8) (l : Bs) : Bool := !(l.dropWhile (· != c)).isEmpty
theorem lib_cut1 (s : ByteArray) (c : UInt8) (w : World) (hs : s.size < 4294967281) (hm : ML w) :
    Calls Tryz.prog 111 #[.string s, .string ⟨#[c]⟩] w fun e w' => e = .returned (.tuple #[sv (fstB c s.data.toList), sv (sndB c s.data.toList), .bool (hasB c s.data.toList)]) ∧ Below w.heap.size w w' := by
  obtain ⟨m, hm⟩ := hm
  refine (Tryz.strings_Cut s ⟨#[c]⟩ m w hs hm).mono ?_
  rw [show (⟨#[c]⟩ : ByteArray).data.toList = [c] from rfl, cut_1]
  rintro e w' ⟨rfl, n, rfl⟩
  exact ⟨rfl, below_drewN' (Below.refl _ _) n⟩
theorem fstB_len (c : UInt8) (l : Bs) : (fstB c l).length ≤ l.length := (List.takeWhile_sublist _).length_le
theorem sndB_len (c : UInt8) (l : Bs) : (sndB c l).length ≤ l.length := by
  unfold sndB
  have := (List.dropWhile_sublist (l := l) (· != c)).length_le
  simp; omega
def numO (l : Bs) : Option Int := numR 10 15 l
theorem num_O (s : ByteArray) (w : World) (hs : s.size ≤ maxLen) :
    Calls Tryz.prog 112 #[.string s] w fun e w' => e = .returned (.tuple #[.int .i64 ((numO s.data.toList).getD 0), .bool (numO s.data.toList).isSome]) ∧ Below w.heap.size w w' := asc_Num s w hs
theorem hostB_of (b : UInt8) : hostB b = ofB [45, 46] b := by
  have : ∀ x : Fin 256, hostB (UInt8.ofNat x.val) = ofB [45, 46] (UInt8.ofNat x.val) := by decide +kernel
  have h := this ⟨b.toNat, b.toNat_lt⟩
  simpa using h
theorem hostL_parts (l : Bs) : hostL l = ((!hasB 58 l || portL (sndB 58 l)) && decide (1 ≤ (fstB 58 l).length) && decide ((fstB 58 l).length ≤ 100) && allOf [45, 46] (fstB 58 l)) := by
  have e : hostB = ofB [45, 46] := funext hostB_of
  simp only [hostL, hasB, sndB, fstB, allOf, Bool.not_not, e]
  rfl
theorem tgt_Host (s : ByteArray) (w : World) (hs : s.size < 4294967281) (hm : ML w) :
    Calls Tryz.prog 76 #[.string s] w fun e w' => e = .returned (.bool (hostL s.data.toList)) ∧ Below w.heap.size w w' := by
  have h1 := fstB_len 58 s.data.toList
  have h2 := sndB_len 58 s.data.toList
  rw [len_data] at h1 h2
  have HP := Lib.hid (hostL_parts s.data.toList)
  generalize hh : hostL s.data.toList = Hst at HP
  clear hh
  go_enter Tryz.func76, Tryz.ntmps76
  go_wp2_with fail
  refine (lib_cut1 s 58 w hs hm).mono ?_
  rintro e w1 ⟨rfl, L1⟩
  have hF : (⟨(fstB 58 s.data.toList).toArray⟩ : ByteArray).size ≤ maxLen := by show (fstB 58 s.data.toList).length ≤ maxLen; unfold maxLen; omega
  have hT : (⟨(sndB 58 s.data.toList).toArray⟩ : ByteArray).size ≤ maxLen := by show (sndB 58 s.data.toList).length ≤ maxLen; unfold maxLen; omega
  clear hm
  cases hB : hasB 58 s.data.toList
  all_goals
    rw [hB] at HP
    clear hB
    generalize fstB 58 s.data.toList = F at *
    generalize sndB 58 s.data.toList = T at *
  · go_wp2_with (go_at_call 113; refine (tgt_isOf ⟨F.toArray⟩ ⟨#[45, 46]⟩ _ hF).mono ?_; rintro e w' ⟨rfl, rfl⟩)
    all_goals go_ret
    all_goals exact ⟨retB (by rw [HP.out]; by_cases a1 : 1 ≤ F.length <;> by_cases a2 : F.length ≤ 100 <;> simp [a1, a2] <;> omega), L1⟩
  · cases hN : numO T
    all_goals
      have HN := Lib.hid hN
      clear hN
      go_wp2_with fail
      refine (num_O ⟨T.toArray⟩ _ hT).mono ?_
      rw [show (⟨T.toArray⟩ : ByteArray).data.toList = T from rfl, HN.out]
      rintro e w2 ⟨rfl, L2⟩
      have K2 := stepW L1 L2
      have HQ := Lib.hid (show portL T = (decide (T.length ≤ 5) && (numO T).any fun n => decide (n ≤ 65535)) from rfl)
      go_wp2_with (go_at_call 113; refine (tgt_isOf ⟨F.toArray⟩ ⟨#[45, 46]⟩ _ hF).mono ?_; rintro e w' ⟨rfl, rfl⟩)
      all_goals go_ret
      all_goals exact ⟨retB (by rw [HP.out, HQ.out, HN.out]; by_cases a1 : 1 ≤ F.length <;> by_cases a2 : F.length ≤ 100 <;> by_cases a3 : T.length ≤ 5 <;> simp [a1, a2, a3] <;> omega), K2⟩

/-! ### Decode -/
/-- What numR says of two digits. -/
theorem hex_two (a b : UInt8) : numR 16 12 [a, b] = if digB a.toNat < 0 ∨ digB b.toNat < 0 then none else some (digB a.toNat * 16 + digB b.toNat) := by
  have h1 := digB_le a.toNat (by omega) (u8lt a)
  have h2 := digB_le b.toNat (by omega) (u8lt b)
  simp only [numR, numF, List.length_cons, List.length_nil]
  rw [if_neg (by omega)]
  split
  · rw [if_pos (by omega)]
  · split
    · rw [if_pos (by omega)]
    · rw [if_neg (by omega)]; congr 1; omega
theorem pct_some (a b x : UInt8) (h : pctL a b = some x) : ∃ n : Int, numR 16 12 [a, b] = some n ∧ n = x.toNat ∧ 1 ≤ n ∧ n ≤ 255 := by
  have h1 := digB_le a.toNat (by omega) (u8lt a)
  have h2 := digB_le b.toNat (by omega) (u8lt b)
  unfold pctL at h
  split at h
  · cases h
  · rename_i hc
    injection h with h
    rw [hex_two, if_neg (by omega)]
    refine ⟨_, rfl, ?_, by omega, by omega⟩
    rw [← h, UInt8.toNat_ofNat']
    omega
theorem pct_none (a b : UInt8) (h : pctL a b = none) : numR 16 12 [a, b] = none ∨ numR 16 12 [a, b] = some 0 := by
  unfold pctL at h
  rw [hex_two]
  split at h
  · rename_i hc
    by_cases h0 : digB a.toNat < 0 ∨ digB b.toNat < 0
    · exact .inl (by rw [if_pos h0])
    · exact .inr (by rw [if_neg h0]; congr 1; omega)
  · cases h
end Go.Proofs.YtmnnbfaaaifcoaaGreatDoor

/- usherlaw1: the laws of ascii. -/
import Derived.Test.YteikfilflgfhnaaDoorHex
namespace Go.Proofs.YteikfilflgfhnaaDoor
open Go.RowKit
set_option maxRecDepth 100000
set_option maxHeartbeats 2000000

theorem dropA {α : Type} (l : List α) (k : Nat) (h : k < l.length) : ∃ x, l[k]? = some x ∧ l.drop k = x :: l.drop (k + 1) := ⟨l[k], List.getElem?_eq_getElem h, List.drop_eq_getElem_cons h⟩
theorem mapA {α β : Type} (f : α → β) (l : List α) (k : Nat) (x : α) (h : l[k]? = some x) : (l.map f)[k]? = some (f x) := by simp [h]

theorem hex_T (s : ByteArray) (w : World) (hs : s.size ≤ maxLen) :
    Calls Tryd.prog 46 #[.string s] w fun e w' => e = .returned (.tuple #[.int .i64 ((numR 16 12 s.data.toList).getD 0), .bool (numR 16 12 s.data.toList).isSome]) ∧ Below w.heap.size w w' := asc_Hex s w hs
theorem num_T (s : ByteArray) (w : World) (hs : s.size ≤ maxLen) :
    Calls Tryd.prog 44 #[.string s] w fun e w' => e = .returned (.tuple #[.int .i64 ((numR 10 15 s.data.toList).getD 0), .bool (numR 10 15 s.data.toList).isSome]) ∧ Below w.heap.size w w' := asc_Num s w hs
theorem rhex_T (s : ByteArray) (w : World) (hs : s.size ≤ maxLen) :
    Calls Tryd.prog 47 #[.string s] w fun e w' => e = .returned (.tuple #[.int .i64 ((numR 16 12 s.data.toList).getD 0), .bool (numR 16 12 s.data.toList).isSome]) ∧ w = w' := ref_Hex s w hs
theorem rnum_T (s : ByteArray) (w : World) (hs : s.size ≤ maxLen) :
    Calls Tryd.prog 45 #[.string s] w fun e w' => e = .returned (.tuple #[.int .i64 ((numR 10 15 s.data.toList).getD 0), .bool (numR 10 15 s.data.toList).isSome]) ∧ w = w' := ref_Num s w hs
theorem hex_0aF : numR 16 12 [48, 97, 70] = some 175 := by decide +kernel

theorem law1_known (w : World) :
    Calls Tryd.prog 35 #[] w fun e w' => e = .returned (.bool true) ∧ Below w.heap.size w w' := by
  go_enter Tryd.func35, Tryd.ntmps35
  go_wp2_with fail
  refine (hex_T ⟨#[48, 97, 70]⟩ w (by decide)).mono ?_
  rw [show (⟨#[48, 97, 70]⟩ : ByteArray).data.toList = [48, 97, 70] from rfl, hex_0aF]
  rintro e w1 ⟨rfl, L1⟩
  go_wp2_with fail
  refine (asc_Same ⟨#[72, 111, 115, 116]⟩ ⟨#[104, 79, 83, 84]⟩ w1 (by decide) (by decide)).mono ?_
  rw [show (lowL (⟨#[72, 111, 115, 116]⟩ : ByteArray).data.toList == lowL (⟨#[104, 79, 83, 84]⟩ : ByteArray).data.toList) = true by decide +kernel]
  rintro e w2 ⟨rfl, L2⟩
  have K2 := stepW L1 L2
  go_wp2_with fail
  refine (asc_IsToken ⟨#[97, 32, 98]⟩ w2 (by decide)).mono ?_
  rw [show (allT (⟨#[97, 32, 98]⟩ : ByteArray).data.toList && decide (0 < (⟨#[97, 32, 98]⟩ : ByteArray).data.toList.length)) = false by decide +kernel]
  rintro e w3 ⟨rfl, rfl⟩
  go_wp2_with fail
  refine (asc_Join _ 3 3 (w2.heap.size + 1) [⟨#[97]⟩, ⟨#[]⟩, ⟨#[98]⟩] _ (by simp) (Rd.new w2 _ rfl [.string ⟨#[97]⟩, .string ⟨#[]⟩, .string ⟨#[98]⟩] 9 3 1 rfl) (by decide) (by decide) (by decide)).mono ?_
  rintro e w4 ⟨rfl, L4⟩
  have K4 := stepW (allocW K2 _) L4
  go_wp2
  all_goals go_ret
  all_goals exact ⟨rfl, K4⟩

theorem law_Words (s : ByteArray) (w : World) (hs : s.size ≤ maxLen) :
    Calls Tryd.prog 12 #[.string s] w fun e w' => e = .returned (.bool true) ∧ Below w.heap.size w w' := by
  have hs' := hs
  unfold maxLen at hs'
  go_enter Tryd.func12, Tryd.ntmps12
  by_cases h2 : s.size ≤ 2000
  · go_wp2_with fail
    refine (asc_Lower s w hs).mono ?_
    rintro e w1 ⟨rfl, L1⟩
    go_wp2_with fail
    refine (ref_LowerS s w1 (by omega)).mono ?_
    rintro e w2 ⟨rfl, L2⟩
    have K2 := stepW L1 L2
    go_wp2_with fail
    refine (asc_IsToken s w2 hs).mono ?_
    rintro e w3 ⟨rfl, rfl⟩
    go_wp2_with fail
    refine (ref_IsToken s w2 hs).mono ?_
    rintro e w3 ⟨rfl, rfl⟩
    go_wp2_with fail
    refine (asc_IsValue s w2 hs).mono ?_
    rintro e w3 ⟨rfl, rfl⟩
    go_wp2_with fail
    refine (ref_IsValue s w2 hs).mono ?_
    rintro e w3 ⟨rfl, rfl⟩
    go_wp2_with fail
    refine (asc_Trim s w2 hs).mono ?_
    rintro e w3 ⟨rfl, L3⟩
    have K3 := stepW K2 L3
    go_wp2_with fail
    refine (ref_Trim s w3 hs).mono ?_
    rintro e w4 ⟨t, rfl, htd, rfl⟩
    obtain rfl : t = ⟨(trimL s.data.toList).toArray⟩ := str_ext (by simpa using htd)
    clear htd
    go_wp2_with fail
    refine (law1_known w3).mono ?_
    rintro e w5 ⟨rfl, L5⟩
    have K5 := stepW K3 L5
    go_wp2
    all_goals go_ret
    all_goals exact ⟨rfl, K5⟩
  · go_wp2
    all_goals go_ret
    all_goals exact ⟨rfl, Below.refl _ _⟩

theorem law_Numbers (s : ByteArray) (w : World) (hs : s.size ≤ maxLen) :
    Calls Tryd.prog 13 #[.string s] w fun e w' => e = .returned (.bool true) ∧ Below w.heap.size w w' := by
  have hs' := hs
  unfold maxLen at hs'
  go_enter Tryd.func13, Tryd.ntmps13
  by_cases h2 : s.size ≤ 2000
  · go_wp2_with fail
    refine (num_T s w hs).mono ?_
    rintro e w1 ⟨rfl, L1⟩
    go_wp2_with fail
    refine (rnum_T s w1 hs).mono ?_
    rintro e w2 ⟨rfl, rfl⟩
    go_wp2_with fail
    refine (hex_T s w1 hs).mono ?_
    rintro e w2 ⟨rfl, L2⟩
    have K2 := stepW L1 L2
    go_wp2_with fail
    refine (rhex_T s w2 hs).mono ?_
    rintro e w3 ⟨rfl, rfl⟩
    go_wp2_with fail
    refine (law1_known w2).mono ?_
    rintro e w5 ⟨rfl, L5⟩
    have K5 := stepW K2 L5
    go_wp2
    all_goals go_ret
    all_goals exact ⟨rfl, K5⟩
  · go_wp2
    all_goals go_ret
    all_goals exact ⟨rfl, Below.refl _ _⟩

theorem low_low (b : UInt8) : low (low b) = low b := by
  have : ∀ x : Fin 256, low (low (UInt8.ofNat x.val)) = low (UInt8.ofNat x.val) := by decide +kernel
  have h := this ⟨b.toNat, b.toNat_lt⟩
  simpa using h
theorem lowL_low (l : Bs) : lowL (lowL l) = lowL l := by
  unfold lowL
  rw [List.map_map]
  apply List.map_congr_left
  intro b _
  exact low_low b

theorem law_Same (a b : ByteArray) (w : World) (ha : a.size ≤ 140737488355328) (hb : b.size ≤ 140737488355328) :
    Calls Tryd.prog 7 #[.string a, .string b] w fun e w' => e = .returned (.bool true) ∧ Below w.heap.size w w' := by
  have ha' : a.size ≤ maxLen := by unfold maxLen; omega
  have hb' : b.size ≤ maxLen := by unfold maxLen; omega
  have hla : (lowL a.data.toList).length = a.size := by simp [lowL]
  have Hla := Lib.hid hla; clear hla
  go_enter Tryd.func7, Tryd.ntmps7
  by_cases h2 : a.size + b.size ≤ 2000
  · go_wp2_with fail
    refine (asc_Same a b w ha' hb').mono ?_
    rintro e w1 ⟨rfl, L1⟩
    go_wp2_with fail
    refine (asc_Lower a w1 ha').mono ?_
    rintro e w2 ⟨rfl, L2⟩
    have K2 := stepW L1 L2
    go_wp2_with fail
    refine (asc_Lower b w2 hb').mono ?_
    rintro e w3 ⟨rfl, L3⟩
    have K3 := stepW K2 L3
    go_wp2_with fail
    refine (asc_Lower a w3 ha').mono ?_
    rintro e w4 ⟨rfl, L4⟩
    have K4 := stepW K3 L4
    go_wp2_with fail
    have hll : (⟨(lowL a.data.toList).toArray⟩ : ByteArray).size ≤ maxLen := by rw [show (⟨(lowL a.data.toList).toArray⟩ : ByteArray).size = (lowL a.data.toList).length by show (lowL a.data.toList).toArray.size = _; simp, Hla.out]; exact ha'
    have hsd : (⟨(lowL a.data.toList).toArray⟩ : ByteArray).data.toList = lowL a.data.toList := by simp
    refine (asc_Same a ⟨(lowL a.data.toList).toArray⟩ w4 ha' hll).mono ?_
    rw [hsd, lowL_low, beq_self_eq_true]
    rintro e w5 ⟨rfl, L5⟩
    have K5 := stepW K4 L5
    have Hll := Lib.hid hll
    clear hsd hll
    go_wp2_with fail
    refine (asc_Lower a w5 ha').mono ?_
    rintro e w6 ⟨rfl, L6⟩
    have K6 := stepW K5 L6
    go_wp2_with fail
    refine (asc_Lower ⟨(lowL a.data.toList).toArray⟩ w6 Hll.out).mono ?_
    rw [List.toList_toArray, lowL_low]
    rintro e w7 ⟨rfl, L7⟩
    have K7 := stepW K6 L7
    go_wp2_with fail
    refine (asc_Lower a w7 ha').mono ?_
    rintro e w8 ⟨rfl, L8⟩
    have K8 := stepW K7 L8
    go_wp2_with fail
    refine (law1_known w8).mono ?_
    rintro e w9 ⟨rfl, L9⟩
    have K9 := stepW K8 L9
    go_wp2
    all_goals go_ret
    all_goals exact ⟨rfl, K9⟩
  · go_wp2
    all_goals go_ret
    all_goals exact ⟨rfl, Below.refl _ _⟩

theorem law_Joins (A : Option Addr) (n c : Nat) (xs : List ByteArray) (w : World) (hA : Rd w w.heap.size 1 A n (xs.map Value.string)) (hz : ∀ x ∈ xs, x.size ≤ 140737488355328) (hnc : n ≤ c) (hcm : c ≤ maxLen) :
    Calls Tryd.prog 8 #[.slice A n c] w fun e w' => e = .returned (.bool true) ∧ Below w.heap.size w w' := by
  unfold maxLen at hcm
  have e1 : xs.length = n := by have := hA.1; simpa using this
  go_enter Tryd.func8, Tryd.ntmps8
  go_wp2
  go_loop [3, 4, 5] (fun z v i => ∃ (k y : Nat) (t : ByteArray), k ≤ n ∧ k ≤ y ∧ y ≤ 2000 ∧ z = .int .i64 y ∧ v = .string t ∧ i = .int .i64 k ∧ t.size ≤ y ∧ Hid (t.data.toList = ((xs.take k).map (·.data.toList)).flatten)) (fun _ _ i => n - (intOf i).toNat)
  case atStart => exact ⟨0, 0, ⟨#[]⟩, Nat.zero_le _, Nat.le_refl _, Nat.zero_le _, rfl, rfl, rfl, Nat.le_refl _, rfl⟩
  case round =>
    obtain ⟨k, y, t, hk, hky, hy, rfl, rfl, rfl, hty, H⟩ := hrel
    by_cases hlt : k < n
    · obtain ⟨b1, o1, rfl, hb1, hx1⟩ := hA.2 (by omega)
      obtain ⟨x, hx, -⟩ := dropA xs k (by omega)
      have cx := hx1 k (.string x) (mapA Value.string _ _ _ hx)
      have hxz := hz x (List.mem_of_getElem? hx)
      have Ht : Hid (xs.take (k + 1) = xs.take k ++ [x]) := Lib.hid (by rw [List.take_add_one, hx]; rfl)
      clear hx1 hx hA
      go_wp2
      · go_ret
        exact ⟨rfl, Below.refl _ _⟩
      · go_round
        case rel => exact ⟨k + 1, y + 1 + x.size, t ++ x, by omega, by omega, by omega, by go_num, rfl, by go_num, by rw [ByteArray.size_append]; omega, Lib.hid (by rw [Ht.out, app_data, H.out]; simp)⟩
        case measure => simp [intOf]; omega
    · have hkn : k = n := by omega
      subst hkn
      have hall : xs.take k = xs := List.take_of_length_le (by omega)
      have hF := H.out
      rw [hall] at hF
      have hFl : ((xs.map (·.data.toList)).flatten).length ≤ 2000 := by rw [← hF, len_data]; omega
      obtain rfl : t = ⟨((xs.map (·.data.toList)).flatten).toArray⟩ := str_ext (by rw [hF])
      clear hF hall H hty
      go_wp2_with fail
      refine (asc_Join A k c w.heap.size xs w (Nat.le_refl _) hA hnc (by omega) (by omega)).mono ?_
      rintro e w1 ⟨rfl, L1⟩
      go_wp2_with fail
      refine (asc_Join none 0 0 w1.heap.size [] w1 (Nat.le_refl _) (Rd.nil _ _ _ _) (Nat.le_refl _) (by decide) (by decide)).mono ?_
      rintro e w2 ⟨rfl, L2⟩
      have K2 := stepW L1 L2
      go_wp2_with fail
      refine (law1_known w2).mono ?_
      rintro e w5 ⟨rfl, L5⟩
      have K5 := stepW K2 L5
      go_wp2
      all_goals go_ret
      all_goals exact ⟨rfl, K5⟩

def tokL (l : Bs) : Bool := allT l && decide (0 < l.length)
theorem tok_T (s : ByteArray) (w : World) (hs : s.size ≤ maxLen) :
    Calls Tryd.prog 38 #[.string s] w fun e w' => e = .returned (.bool (tokL s.data.toList)) ∧ w = w' := asc_IsToken s w hs
theorem tokL_app (a b : Bs) (ha : 0 < a.length) (hb : 0 < b.length) : tokL (a ++ b) = (tokL a && tokL b) := by
  have h1 : decide (0 < (a ++ b).length) = true := by simp; omega
  have h2 : decide (0 < a.length) = true := by simpa using ha
  have h3 : decide (0 < b.length) = true := by simpa using hb
  rw [tokL, tokL, tokL, h1, h2, h3, Bool.and_true, Bool.and_true, Bool.and_true, allT, allT, allT, List.all_append]
theorem allV_app (a b : Bs) : allV (a ++ b) = (allV a && allV b) := by rw [allV, allV, allV, List.all_append]

theorem law_Parts (a b : ByteArray) (w : World) (ha : a.size ≤ 140737488355328) (hb : b.size ≤ 140737488355328) :
    Calls Tryd.prog 10 #[.string a, .string b] w fun e w' => e = .returned (.bool true) ∧ Below w.heap.size w w' := by
  have ha' : a.size ≤ maxLen := by unfold maxLen; omega
  have hb' : b.size ≤ maxLen := by unfold maxLen; omega
  have hab : (a ++ b).size ≤ maxLen := by rw [ByteArray.size_append]; unfold maxLen; omega
  by_cases h2 : a.size + b.size ≤ 2000
  · have VV := allV_app a.data.toList b.data.toList
    rw [← app_data] at VV
    have TE : tokL (⟨#[]⟩ : ByteArray).data.toList = false := by decide
    have VE : allV (⟨#[]⟩ : ByteArray).data.toList = true := by decide
    rcases Nat.eq_zero_or_pos a.size with a0 | a0
    · have ea := empty_size a0
      subst ea
      cases vb : allV b.data.toList <;> rw [vb] at VV <;> cases va : allV (⟨#[]⟩ : ByteArray).data.toList <;> rw [va] at VV VE
      all_goals first | (exact absurd VE (by decide)) | skip
      all_goals
        go_enter Tryd.func10, Tryd.ntmps10
        go_wp2_with (first
          | (go_at_call 38; refine (tok_T _ _ (by first | exact hab | exact ha' | exact hb' | decide)).mono ?_; rintro e w' ⟨rfl, rfl⟩)
          | (go_at_call 39; refine (asc_IsValue _ _ (by first | exact hab | exact ha' | exact hb' | decide)).mono ?_; rintro e w' ⟨rfl, rfl⟩)
          | (go_at_call 35; refine (law1_known _).mono ?_; rintro e w5 ⟨rfl, L5⟩))
        all_goals go_ret
        all_goals exact ⟨rfl, by assumption⟩
    · have hna := ne_isEmpty a0
      rcases Nat.eq_zero_or_pos b.size with b0 | b0
      · have eb := empty_size b0
        subst eb
        cases va : allV a.data.toList <;> rw [va] at VV <;> cases vb : allV (⟨#[]⟩ : ByteArray).data.toList <;> rw [vb] at VV VE
        all_goals first | (exact absurd VE (by decide)) | skip
        all_goals
          go_enter Tryd.func10, Tryd.ntmps10
          go_wp2_with (first
            | (go_at_call 38; refine (tok_T _ _ (by first | exact hab | exact ha' | exact hb' | decide)).mono ?_; rintro e w' ⟨rfl, rfl⟩)
            | (go_at_call 39; refine (asc_IsValue _ _ (by first | exact hab | exact ha' | exact hb' | decide)).mono ?_; rintro e w' ⟨rfl, rfl⟩)
            | (go_at_call 35; refine (law1_known _).mono ?_; rintro e w5 ⟨rfl, L5⟩))
          all_goals go_ret
          all_goals exact ⟨rfl, by assumption⟩

      · have hnb := ne_isEmpty b0
        have TT := tokL_app a.data.toList b.data.toList (by rw [len_data]; exact a0) (by rw [len_data]; exact b0)
        rw [app_data] at VV
        cases va : allV a.data.toList <;> cases vb : allV b.data.toList <;> cases ta : tokL a.data.toList <;> cases tb : tokL b.data.toList <;> rw [va, vb] at VV <;> rw [ta, tb] at TT
        all_goals
          go_enter Tryd.func10, Tryd.ntmps10
          go_wp2_with (first
            | (go_at_call 38; refine (tok_T _ _ (by first | exact hab | exact ha' | exact hb' | decide)).mono ?_; rintro e w' ⟨rfl, rfl⟩)
            | (go_at_call 39; refine (asc_IsValue _ _ (by first | exact hab | exact ha' | exact hb' | decide)).mono ?_; rintro e w' ⟨rfl, rfl⟩)
            | (go_at_call 35; refine (law1_known _).mono ?_; rintro e w5 ⟨rfl, L5⟩))
          all_goals go_ret
          all_goals exact ⟨rfl, by assumption⟩

  · go_enter Tryd.func10, Tryd.ntmps10
    go_wp2
    all_goals go_ret
    all_goals exact ⟨rfl, Below.refl _ _⟩
end Go.Proofs.YteikfilflgfhnaaDoor

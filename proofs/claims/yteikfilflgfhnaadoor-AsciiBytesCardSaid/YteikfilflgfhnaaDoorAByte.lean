/- usherlaw1.AsciiBytes. -/
import Derived.Test.YteikfilflgfhnaaDoorALaw
namespace Go.Proofs.YteikfilflgfhnaaDoor
open Go.RowKit
set_option maxRecDepth 100000
set_option maxHeartbeats 2000000

/-- The signs that the law lists: all but the grave accent. -/
def signs14 : Bs := [33, 35, 36, 37, 38, 39, 42, 43, 45, 46, 94, 95, 124, 126]
theorem tok_else (b : UInt8) (h1 : ¬ (97 ≤ b.toNat ∧ b.toNat ≤ 122)) (h2 : ¬ (65 ≤ b.toNat ∧ b.toNat ≤ 90)) (h3 : ¬ (48 ≤ b.toNat ∧ b.toNat ≤ 57)) : tokL [b] = (signs14.contains b || decide (b.toNat = 96)) := by
  have : ∀ x : Fin 256, ¬ (97 ≤ (UInt8.ofNat x.val).toNat ∧ (UInt8.ofNat x.val).toNat ≤ 122) → ¬ (65 ≤ (UInt8.ofNat x.val).toNat ∧ (UInt8.ofNat x.val).toNat ≤ 90) → ¬ (48 ≤ (UInt8.ofNat x.val).toNat ∧ (UInt8.ofNat x.val).toNat ≤ 57) → tokL [UInt8.ofNat x.val] = (signs14.contains (UInt8.ofNat x.val) || decide ((UInt8.ofNat x.val).toNat = 96)) := by decide +kernel
  have h := this ⟨b.toNat, b.toNat_lt⟩
  rw [show ((⟨b.toNat, b.toNat_lt⟩ : Fin 256).val) = b.toNat from rfl, show UInt8.ofNat b.toNat = b by simp] at h
  exact h h1 h2 h3
theorem tok_letter (b : UInt8) (h : (97 ≤ b.toNat ∧ b.toNat ≤ 122) ∨ (65 ≤ b.toNat ∧ b.toNat ≤ 90) ∨ (48 ≤ b.toNat ∧ b.toNat ≤ 57)) : tokL [b] = true := by
  have : ∀ x : Fin 256, (97 ≤ (UInt8.ofNat x.val).toNat ∧ (UInt8.ofNat x.val).toNat ≤ 122) ∨ (65 ≤ (UInt8.ofNat x.val).toNat ∧ (UInt8.ofNat x.val).toNat ≤ 90) ∨ (48 ≤ (UInt8.ofNat x.val).toNat ∧ (UInt8.ofNat x.val).toNat ≤ 57) → tokL [UInt8.ofNat x.val] = true := by decide +kernel
  have h' := this ⟨b.toNat, b.toNat_lt⟩
  rw [show ((⟨b.toNat, b.toNat_lt⟩ : Fin 256).val) = b.toNat from rfl, show UInt8.ofNat b.toNat = b by simp] at h'
  exact h' h
theorem val_byte (b : UInt8) : allV [b] = decide (b.toNat = 9 ∨ (32 ≤ b.toNat ∧ b.toNat ≠ 127)) := by
  have : ∀ x : Fin 256, allV [UInt8.ofNat x.val] = decide ((UInt8.ofNat x.val).toNat = 9 ∨ (32 ≤ (UInt8.ofNat x.val).toNat ∧ (UInt8.ofNat x.val).toNat ≠ 127)) := by decide +kernel
  have h := this ⟨b.toNat, b.toNat_lt⟩
  rw [show ((⟨b.toNat, b.toNat_lt⟩ : Fin 256).val) = b.toNat from rfl, show UInt8.ofNat b.toNat = b by simp] at h
  exact h
theorem tok_is_val (b : UInt8) : tokL [b] = true → allV [b] = true := by
  have : ∀ x : Fin 256, tokL [UInt8.ofNat x.val] = true → allV [UInt8.ofNat x.val] = true := by decide +kernel
  have h := this ⟨b.toNat, b.toNat_lt⟩
  rw [show ((⟨b.toNat, b.toNat_lt⟩ : Fin 256).val) = b.toNat from rfl, show UInt8.ofNat b.toNat = b by simp] at h
  exact h

def inS (l : Bs) (b : UInt8) : Bool := l.any (· == b)
theorem take_sign (k : Nat) (x b : UInt8) (h : signs14[k]? = some x) : inS (signs14.take (k + 1)) b = (inS (signs14.take k) b || (x == b)) := by
  unfold inS
  rw [List.take_add_one, h, List.any_append]
  simp
theorem inS_contains (b : UInt8) : inS signs14 b = signs14.contains b := by
  unfold inS
  rw [Bool.eq_iff_iff]
  simp [List.any_eq_true]
theorem law_Bytes (b : UInt8) (w : World) :
    Calls Tryd.prog 11 #[.int .u8 b.toNat] w fun e w' => e = .returned (.bool true) ∧ Below w.heap.size w w' := by
  obtain ⟨cc, hcc⟩ : ∃ c : Int, c = (b.toNat : Int) := ⟨_, rfl⟩
  have c0 : 0 ≤ cc := by omega
  have c1 : cc ≤ 255 := by have := b.toNat_lt; omega
  obtain ⟨S, hS⟩ : ∃ S : ByteArray, S = ⟨#[33, 35, 36, 37, 38, 39, 42, 43, 45, 46, 94, 95, 124, 126]⟩ := ⟨_, rfl⟩
  have hSs : S.size = 14 := by rw [hS]; rfl
  have HS := Lib.hid hS
  clear hS
  have hV : (allV [b] = true ∧ cc = 9) ∨ (allV [b] = true ∧ cc ≠ 9 ∧ 32 ≤ cc ∧ cc ≠ 127) ∨ (allV [b] = false ∧ cc ≠ 9 ∧ cc < 32) ∨ (allV [b] = false ∧ cc = 127) := by
    rw [val_byte b]
    simp only [decide_eq_true_eq, decide_eq_false_iff_not]
    omega
  have hTV := tok_is_val b
  have hb1 : (⟨[b].toArray⟩ : ByteArray).size ≤ maxLen := (show (1 : Nat) ≤ maxLen by decide)
  have hrd : Rd (w.alloc (.cells #[.int .u8 cc] 5)) (w.heap.size + 1) 1 (some ⟨w.heap.size, 0, none⟩) 1 ([b].map bv) := by
    have h := Rd.new w w.heap.size rfl [.int .u8 cc] 5 1 1 rfl
    have e : [Value.int .u8 cc] = [b].map bv := by rw [hcc]; rfl
    rw [← e]
    exact h
  have hL : (97 ≤ b.toNat ∧ b.toNat ≤ 122) ∨ (65 ≤ b.toNat ∧ b.toNat ≤ 90) ∨ (48 ≤ b.toNat ∧ b.toNat ≤ 57) → tokL [b] = true := tok_letter b
  have hE : ¬ (97 ≤ b.toNat ∧ b.toNat ≤ 122) → ¬ (65 ≤ b.toNat ∧ b.toNat ≤ 90) → ¬ (48 ≤ b.toNat ∧ b.toNat ≤ 57) → (tokL [b] = true ∧ inS signs14 b = true) ∨ (tokL [b] = true ∧ inS signs14 b = false ∧ cc = 96) ∨ (tokL [b] = false ∧ inS signs14 b = false ∧ cc ≠ 96) := by
    intro q1 q2 q3
    rw [tok_else b q1 q2 q3, ← inS_contains]
    cases inS signs14 b
    · by_cases h : b.toNat = 96
      · exact .inr (.inl ⟨by simp [h], rfl, by omega⟩)
      · exact .inr (.inr ⟨by simp [h], rfl, by omega⟩)
    · exact .inl ⟨rfl, rfl⟩
  have Hc := Lib.hid hcc
  have HL : ((97 ≤ cc ∧ cc ≤ 122) ∨ (65 ≤ cc ∧ cc ≤ 90) ∨ (48 ≤ cc ∧ cc ≤ 57)) → tokL [b] = true := fun h => hL (by omega)
  have HE : ¬ (97 ≤ cc ∧ cc ≤ 122) → ¬ (65 ≤ cc ∧ cc ≤ 90) → ¬ (48 ≤ cc ∧ cc ≤ 57) → (tokL [b] = true ∧ inS signs14 b = true) ∨ (tokL [b] = true ∧ inS signs14 b = false ∧ cc = 96) ∨ (tokL [b] = false ∧ inS signs14 b = false ∧ cc ≠ 96) := fun q1 q2 q3 => hE (by omega) (by omega) (by omega)
  rw [← hcc]
  clear hcc hL hE
  obtain ⟨T, hT⟩ : ∃ T, tokL [b] = T := ⟨_, rfl⟩
  obtain ⟨V, hVV⟩ : ∃ V, allV [b] = V := ⟨_, rfl⟩
  rw [hT] at HL HE hTV
  rw [hVV] at hV hTV
  have hT := Lib.hid hT
  have hVV := Lib.hid hVV
  rcases (by omega : (97 ≤ cc ∧ cc ≤ 122) ∨ (65 ≤ cc ∧ cc ≤ 90) ∨ (48 ≤ cc ∧ cc ≤ 57) ∨ (cc < 48) ∨ (58 ≤ cc ∧ cc ≤ 64) ∨ (91 ≤ cc ∧ cc ≤ 96) ∨ (123 ≤ cc)) with ⟨g1, g2⟩ | ⟨g1, g2⟩ | ⟨g1, g2⟩ | g1 | ⟨g1, g2⟩ | ⟨g1, g2⟩ | g1
  · go_enter Tryd.func11, Tryd.ntmps11
    go_wp2_with (refine wpList_toString _ rfl (.tmp 9) 22 9 rfl 5 Tryd.underlying22 Tryd.underlying5 Tryd.underlying9 _ 1 1 _ [b] rfl hrd ?_)
    rw [← HS.out]
    go_loop [5, 7] (fun f i => ∃ k : Nat, k ≤ 14 ∧ f = .bool (inS (signs14.take k) b) ∧ i = .int .i64 k) (fun _ i => 14 - (intOf i).toNat)
    case atStart => exact ⟨0, Nat.zero_le _, rfl, rfl⟩
    case round =>
      obtain ⟨k, hk, rfl, rfl⟩ := hrel
      by_cases hlt : k < 14
      · obtain ⟨x, hx, hxb⟩ := drop_bt S k (by omega)
        have hbs := PlainAid.get_bt S
        have hst : signs14[k]? = some x := by
          have hq : signs14.drop k = x :: S.data.toList.drop (k + 1) := by rw [← hx, HS.out]; rfl
          rw [← List.head?_drop, hq]; rfl
        have Ht := Lib.hid (take_sign k x b hst)
        have Hx := Lib.hid (show ((x.toNat : Int) == cc) = (x == b) by rw [Hc.out, Bool.eq_iff_iff]; simp [← UInt8.toNat_inj]; omega)
        clear hx hst
        cases hf : inS (signs14.take k) b
        · go_wp2_with fail
          go_round
          case rel => exact ⟨k + 1, by omega, by rw [Ht.out, hf, Bool.false_or, ← Hx.out], by go_num⟩
          case measure => simp [intOf]; omega
        · go_wp2_with fail
          go_round
          case rel => exact ⟨k + 1, by omega, by rw [Ht.out, hf, Bool.true_or], by go_num⟩
          case measure => simp [intOf]; omega
      · have hk14 : k = 14 := by omega
        subst hk14
        rw [show signs14.take 14 = signs14 from rfl]
        obtain rfl : T = true := HL (by omega)
        rcases hV with ⟨rfl, q⟩ | ⟨rfl, q, q2, q3⟩ | ⟨rfl, q, q2⟩ | ⟨rfl, q⟩
        all_goals first | (exact absurd (hTV rfl) (by decide)) | skip
        all_goals clear HL HE hTV
        all_goals
          go_wp2_with (first
            | (go_at_call 38; refine (tok_T ⟨[b].toArray⟩ _ hb1).mono ?_; rw [List.toList_toArray, hT.out]; rintro e w' ⟨rfl, rfl⟩)
            | (go_at_call 39; refine (asc_IsValue ⟨[b].toArray⟩ _ hb1).mono ?_; rw [List.toList_toArray, hVV.out]; rintro e w' ⟨rfl, rfl⟩)
            | (go_at_call 35; refine (law1_known _).mono ?_; rintro e w5 ⟨rfl, L5⟩))
          all_goals go_ret
          all_goals first | (exact ⟨rfl, stepW (allocW (Below.refl w.heap.size w) _) (by assumption)⟩) | (exact ⟨retB (by simp; omega), stepW (allocW (Below.refl w.heap.size w) _) (by assumption)⟩)
  · go_enter Tryd.func11, Tryd.ntmps11
    go_wp2_with (refine wpList_toString _ rfl (.tmp 9) 22 9 rfl 5 Tryd.underlying22 Tryd.underlying5 Tryd.underlying9 _ 1 1 _ [b] rfl hrd ?_)
    rw [← HS.out]
    go_loop [5, 7] (fun f i => ∃ k : Nat, k ≤ 14 ∧ f = .bool (inS (signs14.take k) b) ∧ i = .int .i64 k) (fun _ i => 14 - (intOf i).toNat)
    case atStart => exact ⟨0, Nat.zero_le _, rfl, rfl⟩
    case round =>
      obtain ⟨k, hk, rfl, rfl⟩ := hrel
      by_cases hlt : k < 14
      · obtain ⟨x, hx, hxb⟩ := drop_bt S k (by omega)
        have hbs := PlainAid.get_bt S
        have hst : signs14[k]? = some x := by
          have hq : signs14.drop k = x :: S.data.toList.drop (k + 1) := by rw [← hx, HS.out]; rfl
          rw [← List.head?_drop, hq]; rfl
        have Ht := Lib.hid (take_sign k x b hst)
        have Hx := Lib.hid (show ((x.toNat : Int) == cc) = (x == b) by rw [Hc.out, Bool.eq_iff_iff]; simp [← UInt8.toNat_inj]; omega)
        clear hx hst
        cases hf : inS (signs14.take k) b
        · go_wp2_with fail
          go_round
          case rel => exact ⟨k + 1, by omega, by rw [Ht.out, hf, Bool.false_or, ← Hx.out], by go_num⟩
          case measure => simp [intOf]; omega
        · go_wp2_with fail
          go_round
          case rel => exact ⟨k + 1, by omega, by rw [Ht.out, hf, Bool.true_or], by go_num⟩
          case measure => simp [intOf]; omega
      · have hk14 : k = 14 := by omega
        subst hk14
        rw [show signs14.take 14 = signs14 from rfl]
        obtain rfl : T = true := HL (by omega)
        rcases hV with ⟨rfl, q⟩ | ⟨rfl, q, q2, q3⟩ | ⟨rfl, q, q2⟩ | ⟨rfl, q⟩
        all_goals first | (exact absurd (hTV rfl) (by decide)) | skip
        all_goals clear HL HE hTV
        all_goals
          go_wp2_with (first
            | (go_at_call 38; refine (tok_T ⟨[b].toArray⟩ _ hb1).mono ?_; rw [List.toList_toArray, hT.out]; rintro e w' ⟨rfl, rfl⟩)
            | (go_at_call 39; refine (asc_IsValue ⟨[b].toArray⟩ _ hb1).mono ?_; rw [List.toList_toArray, hVV.out]; rintro e w' ⟨rfl, rfl⟩)
            | (go_at_call 35; refine (law1_known _).mono ?_; rintro e w5 ⟨rfl, L5⟩))
          all_goals go_ret
          all_goals first | (exact ⟨rfl, stepW (allocW (Below.refl w.heap.size w) _) (by assumption)⟩) | (exact ⟨retB (by simp; omega), stepW (allocW (Below.refl w.heap.size w) _) (by assumption)⟩)
  · go_enter Tryd.func11, Tryd.ntmps11
    go_wp2_with (refine wpList_toString _ rfl (.tmp 9) 22 9 rfl 5 Tryd.underlying22 Tryd.underlying5 Tryd.underlying9 _ 1 1 _ [b] rfl hrd ?_)
    rw [← HS.out]
    go_loop [5, 7] (fun f i => ∃ k : Nat, k ≤ 14 ∧ f = .bool (inS (signs14.take k) b) ∧ i = .int .i64 k) (fun _ i => 14 - (intOf i).toNat)
    case atStart => exact ⟨0, Nat.zero_le _, rfl, rfl⟩
    case round =>
      obtain ⟨k, hk, rfl, rfl⟩ := hrel
      by_cases hlt : k < 14
      · obtain ⟨x, hx, hxb⟩ := drop_bt S k (by omega)
        have hbs := PlainAid.get_bt S
        have hst : signs14[k]? = some x := by
          have hq : signs14.drop k = x :: S.data.toList.drop (k + 1) := by rw [← hx, HS.out]; rfl
          rw [← List.head?_drop, hq]; rfl
        have Ht := Lib.hid (take_sign k x b hst)
        have Hx := Lib.hid (show ((x.toNat : Int) == cc) = (x == b) by rw [Hc.out, Bool.eq_iff_iff]; simp [← UInt8.toNat_inj]; omega)
        clear hx hst
        cases hf : inS (signs14.take k) b
        · go_wp2_with fail
          go_round
          case rel => exact ⟨k + 1, by omega, by rw [Ht.out, hf, Bool.false_or, ← Hx.out], by go_num⟩
          case measure => simp [intOf]; omega
        · go_wp2_with fail
          go_round
          case rel => exact ⟨k + 1, by omega, by rw [Ht.out, hf, Bool.true_or], by go_num⟩
          case measure => simp [intOf]; omega
      · have hk14 : k = 14 := by omega
        subst hk14
        rw [show signs14.take 14 = signs14 from rfl]
        obtain rfl : T = true := HL (by omega)
        rcases hV with ⟨rfl, q⟩ | ⟨rfl, q, q2, q3⟩ | ⟨rfl, q, q2⟩ | ⟨rfl, q⟩
        all_goals first | (exact absurd (hTV rfl) (by decide)) | skip
        all_goals clear HL HE hTV
        all_goals
          go_wp2_with (first
            | (go_at_call 38; refine (tok_T ⟨[b].toArray⟩ _ hb1).mono ?_; rw [List.toList_toArray, hT.out]; rintro e w' ⟨rfl, rfl⟩)
            | (go_at_call 39; refine (asc_IsValue ⟨[b].toArray⟩ _ hb1).mono ?_; rw [List.toList_toArray, hVV.out]; rintro e w' ⟨rfl, rfl⟩)
            | (go_at_call 35; refine (law1_known _).mono ?_; rintro e w5 ⟨rfl, L5⟩))
          all_goals go_ret
          all_goals first | (exact ⟨rfl, stepW (allocW (Below.refl w.heap.size w) _) (by assumption)⟩) | (exact ⟨retB (by simp; omega), stepW (allocW (Below.refl w.heap.size w) _) (by assumption)⟩)
  · go_enter Tryd.func11, Tryd.ntmps11
    go_wp2_with (refine wpList_toString _ rfl (.tmp 9) 22 9 rfl 5 Tryd.underlying22 Tryd.underlying5 Tryd.underlying9 _ 1 1 _ [b] rfl hrd ?_)
    rw [← HS.out]
    go_loop [5, 7] (fun f i => ∃ k : Nat, k ≤ 14 ∧ f = .bool (inS (signs14.take k) b) ∧ i = .int .i64 k) (fun _ i => 14 - (intOf i).toNat)
    case atStart => exact ⟨0, Nat.zero_le _, rfl, rfl⟩
    case round =>
      obtain ⟨k, hk, rfl, rfl⟩ := hrel
      by_cases hlt : k < 14
      · obtain ⟨x, hx, hxb⟩ := drop_bt S k (by omega)
        have hbs := PlainAid.get_bt S
        have hst : signs14[k]? = some x := by
          have hq : signs14.drop k = x :: S.data.toList.drop (k + 1) := by rw [← hx, HS.out]; rfl
          rw [← List.head?_drop, hq]; rfl
        have Ht := Lib.hid (take_sign k x b hst)
        have Hx := Lib.hid (show ((x.toNat : Int) == cc) = (x == b) by rw [Hc.out, Bool.eq_iff_iff]; simp [← UInt8.toNat_inj]; omega)
        clear hx hst
        cases hf : inS (signs14.take k) b
        · go_wp2_with fail
          go_round
          case rel => exact ⟨k + 1, by omega, by rw [Ht.out, hf, Bool.false_or, ← Hx.out], by go_num⟩
          case measure => simp [intOf]; omega
        · go_wp2_with fail
          go_round
          case rel => exact ⟨k + 1, by omega, by rw [Ht.out, hf, Bool.true_or], by go_num⟩
          case measure => simp [intOf]; omega
      · have hk14 : k = 14 := by omega
        subst hk14
        rw [show signs14.take 14 = signs14 from rfl]
        rcases HE (by omega) (by omega) (by omega) with ⟨rfl, hs⟩ | ⟨rfl, hs, p⟩ | ⟨rfl, hs, p⟩ <;> rcases hV with ⟨rfl, q⟩ | ⟨rfl, q, q2, q3⟩ | ⟨rfl, q, q2⟩ | ⟨rfl, q⟩
        all_goals first | (exact absurd (hTV rfl) (by decide)) | (exfalso; omega) | skip
        all_goals clear HL HE hTV
        all_goals
          go_wp2_with (first
            | (go_at_call 38; refine (tok_T ⟨[b].toArray⟩ _ hb1).mono ?_; rw [List.toList_toArray, hT.out]; rintro e w' ⟨rfl, rfl⟩)
            | (go_at_call 39; refine (asc_IsValue ⟨[b].toArray⟩ _ hb1).mono ?_; rw [List.toList_toArray, hVV.out]; rintro e w' ⟨rfl, rfl⟩)
            | (go_at_call 35; refine (law1_known _).mono ?_; rintro e w5 ⟨rfl, L5⟩))
          all_goals go_ret
          all_goals first | (exact ⟨rfl, stepW (allocW (Below.refl w.heap.size w) _) (by assumption)⟩) | (exact ⟨retB (by simp; omega), stepW (allocW (Below.refl w.heap.size w) _) (by assumption)⟩)
  · go_enter Tryd.func11, Tryd.ntmps11
    go_wp2_with (refine wpList_toString _ rfl (.tmp 9) 22 9 rfl 5 Tryd.underlying22 Tryd.underlying5 Tryd.underlying9 _ 1 1 _ [b] rfl hrd ?_)
    rw [← HS.out]
    go_loop [5, 7] (fun f i => ∃ k : Nat, k ≤ 14 ∧ f = .bool (inS (signs14.take k) b) ∧ i = .int .i64 k) (fun _ i => 14 - (intOf i).toNat)
    case atStart => exact ⟨0, Nat.zero_le _, rfl, rfl⟩
    case round =>
      obtain ⟨k, hk, rfl, rfl⟩ := hrel
      by_cases hlt : k < 14
      · obtain ⟨x, hx, hxb⟩ := drop_bt S k (by omega)
        have hbs := PlainAid.get_bt S
        have hst : signs14[k]? = some x := by
          have hq : signs14.drop k = x :: S.data.toList.drop (k + 1) := by rw [← hx, HS.out]; rfl
          rw [← List.head?_drop, hq]; rfl
        have Ht := Lib.hid (take_sign k x b hst)
        have Hx := Lib.hid (show ((x.toNat : Int) == cc) = (x == b) by rw [Hc.out, Bool.eq_iff_iff]; simp [← UInt8.toNat_inj]; omega)
        clear hx hst
        cases hf : inS (signs14.take k) b
        · go_wp2_with fail
          go_round
          case rel => exact ⟨k + 1, by omega, by rw [Ht.out, hf, Bool.false_or, ← Hx.out], by go_num⟩
          case measure => simp [intOf]; omega
        · go_wp2_with fail
          go_round
          case rel => exact ⟨k + 1, by omega, by rw [Ht.out, hf, Bool.true_or], by go_num⟩
          case measure => simp [intOf]; omega
      · have hk14 : k = 14 := by omega
        subst hk14
        rw [show signs14.take 14 = signs14 from rfl]
        rcases HE (by omega) (by omega) (by omega) with ⟨rfl, hs⟩ | ⟨rfl, hs, p⟩ | ⟨rfl, hs, p⟩ <;> rcases hV with ⟨rfl, q⟩ | ⟨rfl, q, q2, q3⟩ | ⟨rfl, q, q2⟩ | ⟨rfl, q⟩
        all_goals first | (exact absurd (hTV rfl) (by decide)) | (exfalso; omega) | skip
        all_goals clear HL HE hTV
        all_goals
          go_wp2_with (first
            | (go_at_call 38; refine (tok_T ⟨[b].toArray⟩ _ hb1).mono ?_; rw [List.toList_toArray, hT.out]; rintro e w' ⟨rfl, rfl⟩)
            | (go_at_call 39; refine (asc_IsValue ⟨[b].toArray⟩ _ hb1).mono ?_; rw [List.toList_toArray, hVV.out]; rintro e w' ⟨rfl, rfl⟩)
            | (go_at_call 35; refine (law1_known _).mono ?_; rintro e w5 ⟨rfl, L5⟩))
          all_goals go_ret
          all_goals first | (exact ⟨rfl, stepW (allocW (Below.refl w.heap.size w) _) (by assumption)⟩) | (exact ⟨retB (by simp; omega), stepW (allocW (Below.refl w.heap.size w) _) (by assumption)⟩)
  · go_enter Tryd.func11, Tryd.ntmps11
    go_wp2_with (refine wpList_toString _ rfl (.tmp 9) 22 9 rfl 5 Tryd.underlying22 Tryd.underlying5 Tryd.underlying9 _ 1 1 _ [b] rfl hrd ?_)
    rw [← HS.out]
    go_loop [5, 7] (fun f i => ∃ k : Nat, k ≤ 14 ∧ f = .bool (inS (signs14.take k) b) ∧ i = .int .i64 k) (fun _ i => 14 - (intOf i).toNat)
    case atStart => exact ⟨0, Nat.zero_le _, rfl, rfl⟩
    case round =>
      obtain ⟨k, hk, rfl, rfl⟩ := hrel
      by_cases hlt : k < 14
      · obtain ⟨x, hx, hxb⟩ := drop_bt S k (by omega)
        have hbs := PlainAid.get_bt S
        have hst : signs14[k]? = some x := by
          have hq : signs14.drop k = x :: S.data.toList.drop (k + 1) := by rw [← hx, HS.out]; rfl
          rw [← List.head?_drop, hq]; rfl
        have Ht := Lib.hid (take_sign k x b hst)
        have Hx := Lib.hid (show ((x.toNat : Int) == cc) = (x == b) by rw [Hc.out, Bool.eq_iff_iff]; simp [← UInt8.toNat_inj]; omega)
        clear hx hst
        cases hf : inS (signs14.take k) b
        · go_wp2_with fail
          go_round
          case rel => exact ⟨k + 1, by omega, by rw [Ht.out, hf, Bool.false_or, ← Hx.out], by go_num⟩
          case measure => simp [intOf]; omega
        · go_wp2_with fail
          go_round
          case rel => exact ⟨k + 1, by omega, by rw [Ht.out, hf, Bool.true_or], by go_num⟩
          case measure => simp [intOf]; omega
      · have hk14 : k = 14 := by omega
        subst hk14
        rw [show signs14.take 14 = signs14 from rfl]
        rcases HE (by omega) (by omega) (by omega) with ⟨rfl, hs⟩ | ⟨rfl, hs, p⟩ | ⟨rfl, hs, p⟩ <;> rcases hV with ⟨rfl, q⟩ | ⟨rfl, q, q2, q3⟩ | ⟨rfl, q, q2⟩ | ⟨rfl, q⟩
        all_goals first | (exact absurd (hTV rfl) (by decide)) | (exfalso; omega) | skip
        all_goals clear HL HE hTV
        all_goals
          go_wp2_with (first
            | (go_at_call 38; refine (tok_T ⟨[b].toArray⟩ _ hb1).mono ?_; rw [List.toList_toArray, hT.out]; rintro e w' ⟨rfl, rfl⟩)
            | (go_at_call 39; refine (asc_IsValue ⟨[b].toArray⟩ _ hb1).mono ?_; rw [List.toList_toArray, hVV.out]; rintro e w' ⟨rfl, rfl⟩)
            | (go_at_call 35; refine (law1_known _).mono ?_; rintro e w5 ⟨rfl, L5⟩))
          all_goals go_ret
          all_goals first | (exact ⟨rfl, stepW (allocW (Below.refl w.heap.size w) _) (by assumption)⟩) | (exact ⟨retB (by simp; omega), stepW (allocW (Below.refl w.heap.size w) _) (by assumption)⟩)
  · go_enter Tryd.func11, Tryd.ntmps11
    go_wp2_with (refine wpList_toString _ rfl (.tmp 9) 22 9 rfl 5 Tryd.underlying22 Tryd.underlying5 Tryd.underlying9 _ 1 1 _ [b] rfl hrd ?_)
    rw [← HS.out]
    go_loop [5, 7] (fun f i => ∃ k : Nat, k ≤ 14 ∧ f = .bool (inS (signs14.take k) b) ∧ i = .int .i64 k) (fun _ i => 14 - (intOf i).toNat)
    case atStart => exact ⟨0, Nat.zero_le _, rfl, rfl⟩
    case round =>
      obtain ⟨k, hk, rfl, rfl⟩ := hrel
      by_cases hlt : k < 14
      · obtain ⟨x, hx, hxb⟩ := drop_bt S k (by omega)
        have hbs := PlainAid.get_bt S
        have hst : signs14[k]? = some x := by
          have hq : signs14.drop k = x :: S.data.toList.drop (k + 1) := by rw [← hx, HS.out]; rfl
          rw [← List.head?_drop, hq]; rfl
        have Ht := Lib.hid (take_sign k x b hst)
        have Hx := Lib.hid (show ((x.toNat : Int) == cc) = (x == b) by rw [Hc.out, Bool.eq_iff_iff]; simp [← UInt8.toNat_inj]; omega)
        clear hx hst
        cases hf : inS (signs14.take k) b
        · go_wp2_with fail
          go_round
          case rel => exact ⟨k + 1, by omega, by rw [Ht.out, hf, Bool.false_or, ← Hx.out], by go_num⟩
          case measure => simp [intOf]; omega
        · go_wp2_with fail
          go_round
          case rel => exact ⟨k + 1, by omega, by rw [Ht.out, hf, Bool.true_or], by go_num⟩
          case measure => simp [intOf]; omega
      · have hk14 : k = 14 := by omega
        subst hk14
        rw [show signs14.take 14 = signs14 from rfl]
        rcases HE (by omega) (by omega) (by omega) with ⟨rfl, hs⟩ | ⟨rfl, hs, p⟩ | ⟨rfl, hs, p⟩ <;> rcases hV with ⟨rfl, q⟩ | ⟨rfl, q, q2, q3⟩ | ⟨rfl, q, q2⟩ | ⟨rfl, q⟩
        all_goals first | (exact absurd (hTV rfl) (by decide)) | (exfalso; omega) | skip
        all_goals clear HL HE hTV
        all_goals
          go_wp2_with (first
            | (go_at_call 38; refine (tok_T ⟨[b].toArray⟩ _ hb1).mono ?_; rw [List.toList_toArray, hT.out]; rintro e w' ⟨rfl, rfl⟩)
            | (go_at_call 39; refine (asc_IsValue ⟨[b].toArray⟩ _ hb1).mono ?_; rw [List.toList_toArray, hVV.out]; rintro e w' ⟨rfl, rfl⟩)
            | (go_at_call 35; refine (law1_known _).mono ?_; rintro e w5 ⟨rfl, L5⟩))
          all_goals go_ret
          all_goals first | (exact ⟨rfl, stepW (allocW (Below.refl w.heap.size w) _) (by assumption)⟩) | (exact ⟨retB (by simp; omega), stepW (allocW (Below.refl w.heap.size w) _) (by assumption)⟩)
end Go.Proofs.YteikfilflgfhnaaDoor

/- The functions of usherref1: what each returns. -/
import Derived.Test.YtmnnbfaaaifcoaaGreatDoorProg
import Derived.Test.YtmnnbfaaaifcoaaGreatDoorPlain
import Derived.WalkSpells
import Derived.WalkLawsBesides
namespace Go.Proofs.YtmnnbfaaaifcoaaGreatDoor
open Go.RowKit

def lowB (c : Int) : Int := if 65 ≤ c ∧ c ≤ 90 then c + 32 else c
def alnumB (c : Int) : Bool := (97 ≤ c && c ≤ 122) || (65 ≤ c && c ≤ 90) || (48 ≤ c && c ≤ 57)
def valueB (c : Int) : Bool := c == 9 || (32 ≤ c && c != 127)
def inL (c : Int) (l : Bs) : Bool := l.any fun b => (b.toNat : Int) == c
def signs : Bs := [33, 35, 36, 37, 38, 39, 42, 43, 45, 46, 94, 95, 96, 124, 126]
def tokB (c : Int) : Bool := alnumB c || inL c signs
def allT (l : Bs) : Bool := l.all fun b => tokB b.toNat
def allV (l : Bs) : Bool := l.all fun b => valueB b.toNat
def digB (c : Int) : Int := if 48 ≤ c ∧ c ≤ 57 then c - 48 else if 97 ≤ lowB c ∧ lowB c ≤ 102 then lowB c - 87 else -1

set_option maxHeartbeats 400000 in
theorem ref_lower (c : Int) (w : World) (h0 : 0 ≤ c) (h1 : c ≤ 255) :
    Calls Tryz.prog 124 #[.int .u8 c] w fun e w' => e = .returned (.int .u8 (lowB c)) ∧ w = w' := by
  go_enter Tryz.func124, Tryz.ntmps124
  go_wp2
  all_goals (go_ret; exact ⟨retI (by unfold lowB; split <;> omega), rfl⟩)

set_option maxHeartbeats 400000 in
theorem ref_Alnum (c : Int) (w : World) (h0 : 0 ≤ c) (h1 : c ≤ 255) :
    Calls Tryz.prog 122 #[.int .u8 c] w fun e w' => e = .returned (.bool (alnumB c)) ∧ w = w' := by
  go_enter Tryz.func122, Tryz.ntmps122
  go_wp2
  all_goals (go_ret; exact ⟨retB (by rw [Bool.eq_iff_iff]; simp [alnumB]; omega), rfl⟩)

set_option maxHeartbeats 400000 in
theorem ref_ValueByte (c : Int) (w : World) (_h0 : 0 ≤ c) (_h1 : c ≤ 255) :
    Calls Tryz.prog 121 #[.int .u8 c] w fun e w' => e = .returned (.bool (valueB c)) ∧ w = w' := by
  go_enter Tryz.func121, Tryz.ntmps121
  go_wp2
  all_goals (go_ret; exact ⟨retB (by rw [Bool.eq_iff_iff]; simp [valueB]; try omega), rfl⟩)

set_option maxHeartbeats 400000 in
theorem ref_In (c : Int) (s : ByteArray) (w : World) (hs : s.size ≤ maxLen) (_h0 : 0 ≤ c) (_h1 : c ≤ 255) :
    Calls Tryz.prog 151 #[.int .u8 c, .string s] w fun e w' => e = .returned (.bool (inL c s.data.toList)) ∧ w = w' := by
  unfold maxLen at hs
  go_enter Tryz.func151, Tryz.ntmps151
  go_wp2
  go_loop [5] (fun i => ∃ k : Nat, k ≤ s.size ∧ i = .int .i64 k ∧ Hid (inL c s.data.toList = inL c (s.data.toList.drop k))) (fun i => s.size - (intOf i).toNat)
  case atStart => exact ⟨0, Nat.zero_le _, rfl, rfl⟩
  case round =>
    obtain ⟨k, hk, rfl, H⟩ := hrel
    by_cases hlt : k < s.size
    · obtain ⟨b, hb, hbt⟩ := drop_bt s k hlt
      have Hb := Lib.hid hb; clear hb
      have hbs := PlainAid.get_bt s
      go_wp2
      · have ht : ((b.toNat : Int) == c) = true := by assumption
        go_ret
        exact ⟨retB (by rw [H.out, Hb.out, inL, List.any_cons, ht]; rfl), rfl⟩
      · have ht : ((b.toNat : Int) == c) = false := by assumption
        go_round
        case rel => exact ⟨k + 1, by omega, by go_num, by rw [H.out, Hb.out, inL, List.any_cons, ht]; rfl⟩
        case measure => simp [intOf]; omega
    · go_wp2
      go_ret
      exact ⟨retB (by rw [H.out, drop_end s k (by omega)]; rfl), rfl⟩

set_option maxHeartbeats 400000 in
theorem ref_TokenByte (c : Int) (w : World) (h0 : 0 ≤ c) (h1 : c ≤ 255) :
    Calls Tryz.prog 120 #[.int .u8 c] w fun e w' => e = .returned (.bool (tokB c)) ∧ w = w' := by
  go_enter Tryz.func120, Tryz.ntmps120
  go_wp2_with (first
    | (go_at_call 122; refine (ref_Alnum _ _ h0 h1).mono ?_; rintro e w' ⟨rfl, rfl⟩)
    | (go_at_call 151; refine (ref_In _ _ _ (by decide) h0 h1).mono ?_; rintro e w' ⟨rfl, rfl⟩))
  all_goals go_ret
  all_goals exact ⟨retB (by simp [tokB, signs, *]), rfl⟩

set_option maxHeartbeats 400000 in
theorem ref_IsToken (s : ByteArray) (w : World) (hs : s.size ≤ maxLen) :
    Calls Tryz.prog 86 #[.string s] w fun e w' => e = .returned (.bool (allT s.data.toList && decide (0 < s.data.toList.length))) ∧ w = w' := by
  unfold maxLen at hs
  go_enter Tryz.func86, Tryz.ntmps86
  go_wp2
  go_loop [3] (fun i => ∃ k : Nat, k ≤ s.size ∧ i = .int .i64 k ∧ Hid (allT s.data.toList = allT (s.data.toList.drop k))) (fun i => s.size - (intOf i).toNat)
  case atStart => exact ⟨0, Nat.zero_le _, rfl, rfl⟩
  case round =>
    obtain ⟨k, hk, rfl, H⟩ := hrel
    by_cases hlt : k < s.size
    · obtain ⟨b, hb, hbt⟩ := drop_bt s k hlt
      have Hb := Lib.hid hb; clear hb
      have hbs := PlainAid.get_bt s
      go_wp2_with (go_at_call 120; refine (ref_TokenByte _ _ (by omega) (u8lt _)).mono ?_; rintro e w' ⟨rfl, rfl⟩)
      · skip
        have ht := notT ‹(!tokB (b.toNat : Int)) = true›
        go_ret
        exact ⟨retB (by rw [H.out, Hb.out, allT, List.all_cons, ht]; rfl), rfl⟩
      · have ht := notF ‹(!tokB (b.toNat : Int)) = false›
        go_round
        case rel => exact ⟨k + 1, by omega, by go_num, by rw [H.out, Hb.out, allT, List.all_cons, ht]; rfl⟩
        case measure => simp [intOf]; omega
    · go_wp2
      go_ret
      exact ⟨retB (by rw [H.out, drop_end s k (by omega)]; simp [allT]), rfl⟩

set_option maxHeartbeats 400000 in
theorem ref_IsValue (s : ByteArray) (w : World) (hs : s.size ≤ maxLen) :
    Calls Tryz.prog 87 #[.string s] w fun e w' => e = .returned (.bool (allV s.data.toList)) ∧ w = w' := by
  unfold maxLen at hs
  go_enter Tryz.func87, Tryz.ntmps87
  go_wp2
  go_loop [3] (fun i => ∃ k : Nat, k ≤ s.size ∧ i = .int .i64 k ∧ Hid (allV s.data.toList = allV (s.data.toList.drop k))) (fun i => s.size - (intOf i).toNat)
  case atStart => exact ⟨0, Nat.zero_le _, rfl, rfl⟩
  case round =>
    obtain ⟨k, hk, rfl, H⟩ := hrel
    by_cases hlt : k < s.size
    · obtain ⟨b, hb, hbt⟩ := drop_bt s k hlt
      have Hb := Lib.hid hb; clear hb
      have hbs := PlainAid.get_bt s
      go_wp2_with (go_at_call 121; refine (ref_ValueByte _ _ (by omega) (u8lt _)).mono ?_; rintro e w' ⟨rfl, rfl⟩)
      · have ht := notT ‹(!valueB (b.toNat : Int)) = true›
        go_ret
        exact ⟨retB (by rw [H.out, Hb.out, allV, List.all_cons, ht]; rfl), rfl⟩
      · have ht := notF ‹(!valueB (b.toNat : Int)) = false›
        go_round
        case rel => exact ⟨k + 1, by omega, by go_num, by rw [H.out, Hb.out, allV, List.all_cons, ht]; rfl⟩
        case measure => simp [intOf]; omega
    · go_wp2
      go_ret
      exact ⟨retB (by rw [H.out, drop_end s k (by omega)]; simp [allV]), rfl⟩

set_option maxHeartbeats 400000 in
theorem ref_Digit (c : Int) (w : World) (h0 : 0 ≤ c) (h1 : c ≤ 255) :
    Calls Tryz.prog 152 #[.int .u8 c] w fun e w' => e = .returned (.int .i64 (digB c)) ∧ w = w' := by
  have hl0 : 0 ≤ lowB c := by unfold lowB; split <;> omega
  have hl1 : lowB c ≤ 255 := by unfold lowB; split <;> omega
  go_enter Tryz.func152, Tryz.ntmps152
  go_wp2_with (go_at_call 124; refine (ref_lower _ _ h0 h1).mono ?_; rintro e w' ⟨rfl, rfl⟩)
  all_goals (go_ret; exact ⟨retI (by unfold digB; split <;> (try split) <;> omega), rfl⟩)

def isB (b : UInt8) : Bool := b == 9 || b == 32
def trimF (l : Bs) : Bs := l.dropWhile isB
def trimE (l : Bs) : Bs := (l.reverse.dropWhile isB).reverse
def trimL (l : Bs) : Bs := trimE (trimF l)
theorem isB_num (b : UInt8) : isB b = ((b.toNat : Int) == 9 || (b.toNat : Int) == 32) := by
  have h1 : (b == 9) = ((b.toNat : Int) == 9) := by rw [Bool.eq_iff_iff]; simp [← UInt8.toNat_inj]; omega
  have h2 : (b == 32) = ((b.toNat : Int) == 32) := by rw [Bool.eq_iff_iff]; simp [← UInt8.toNat_inj]; omega
  rw [isB, h1, h2]
theorem trimE_snoc (l : Bs) (b : UInt8) : trimE (l ++ [b]) = if isB b then trimE l else l ++ [b] := by
  unfold trimE
  rw [List.reverse_append]
  simp only [List.reverse_cons, List.reverse_nil, List.nil_append, List.cons_append, List.dropWhile_cons]
  split <;> simp

set_option maxHeartbeats 400000 in
theorem ref_Trim (s : ByteArray) (w : World) (hs : s.size ≤ maxLen) :
    Calls Tryz.prog 88 #[.string s] w fun e w' => ∃ t : ByteArray, e = .returned (.string t) ∧ t.data.toList = trimL s.data.toList ∧ w = w' := by
  unfold maxLen at hs
  go_enter Tryz.func88, Tryz.ntmps88
  go_wp2
  go_loop [0] (fun v => ∃ t : ByteArray, t.size ≤ s.size ∧ v = .string t ∧ Hid (trimF s.data.toList = trimF t.data.toList)) (fun v => match v with | .string t => t.size | _ => 0)
  case atStart => exact ⟨s, Nat.le_refl _, rfl, rfl⟩
  case round =>
    obtain ⟨t, ht, rfl, H⟩ := hrel
    have hbs := PlainAid.get_bt t
    by_cases hgo : ∃ b : UInt8, 0 < t.size ∧ t.data.toList.drop 0 = b :: t.data.toList.drop (0 + 1) ∧ PlainAid.bt t 0 = (b.toNat : Int) ∧ ((b.toNat : Int) == 9 || (b.toNat : Int) == 32) = true
    · obtain ⟨b, h0, hb, hbt, hc⟩ := hgo
      have Hb := Lib.hid hb; clear hb
      · have hstep : trimF s.data.toList = trimF (t.extract 1 t.size).data.toList := by
          rw [H.out, ext_from]
          have := Hb.out
          rw [List.drop_zero] at this
          rw [this, trimF, List.dropWhile_cons, isB_num, hc]; rfl
        have hsz : (t.extract 1 t.size).size = t.size - 1 := ext_size t 1 t.size (by omega) (Nat.le_refl _)
        have Hs := Lib.hid hstep; have Hz := Lib.hid hsz; clear hstep hsz
        go_wp2
        all_goals first
          | (go_round
             case rel => exact ⟨_, by rw [Hz.out]; omega, rfl, Hs⟩
             case measure => simp only []; rw [Hz.out]; omega)
          | (exfalso; simp_all; done)
    · have hfix : trimF s.data.toList = t.data.toList ∧ (t.size = 0 ∨ ∃ b : UInt8, 0 < t.size ∧ PlainAid.bt t 0 = (b.toNat : Int) ∧ ((b.toNat : Int) == 9) = false ∧ ((b.toNat : Int) == 32) = false) := by
        rw [H.out]
        by_cases h0 : 0 < t.size
        · obtain ⟨b, hb, hbt⟩ := drop_bt t 0 h0
          by_cases hc : ((b.toNat : Int) == 9 || (b.toNat : Int) == 32) = true
          · exact absurd ⟨b, h0, hb, hbt, hc⟩ hgo
          · refine ⟨?_, .inr ⟨b, h0, hbt, by simpa using hc⟩⟩
            rw [List.drop_zero] at hb
            rw [hb, trimF, List.dropWhile_cons, isB_num, Bool.eq_false_iff.2 hc]; rfl
        · refine ⟨?_, .inl (by omega)⟩
          rw [show t.data.toList = [] from List.eq_nil_of_length_eq_zero (by rw [len_data]; omega)]; rfl
      obtain ⟨hfix, hcase⟩ := hfix
      have Hf := Lib.hid hfix; clear hfix hgo H
      have hE : Hid (trimL s.data.toList = trimE t.data.toList) := by unfold trimL; rw [Hf.out]; rfl
      clear Hf
      rcases hcase with h0 | ⟨b, h0, hbt, hc1, hc2⟩
      all_goals
        go_wp2
        go_loop [0] (fun v => ∃ u : ByteArray, u.size ≤ t.size ∧ v = .string u ∧ Hid (trimL s.data.toList = trimE u.data.toList)) (fun v => match v with | .string t => t.size | _ => 0)
        case atStart => exact ⟨t, Nat.le_refl _, rfl, hE⟩
        case round =>
          obtain ⟨u, hu, rfl, H⟩ := hrel
          clear hbs hE
          try clear hbt hc1 hc2
          have hbs := PlainAid.get_bt u
          by_cases h0 : 0 < u.size
          · obtain ⟨b, hb, hbt⟩ := last_bt u h0
            have Hb := Lib.hid hb; clear hb
            by_cases hc : ((b.toNat : Int) == 9 || (b.toNat : Int) == 32) = true
            · have hstep : trimL s.data.toList = trimE (u.extract 0 (u.size - 1)).data.toList := by
                rw [H.out, ext_to]
                conv => lhs; rw [Hb.out]
                rw [trimE_snoc, isB_num, if_pos hc]
              have hsz : (u.extract 0 (u.size - 1)).size = u.size - 1 := ext_size u 0 (u.size - 1) (by omega) (by omega)
              have Hs := Lib.hid hstep; have Hz := Lib.hid hsz; clear hstep hsz
              go_wp2
              all_goals first
                | (go_round
                   case rel => exact ⟨_, by rw [Hz.out]; omega, rfl, Hs⟩
                   case measure => simp only []; rw [Hz.out]; omega)
                | (exfalso; simp_all; done)
            · have hfin : trimL s.data.toList = u.data.toList := by
                rw [H.out]
                conv => lhs; rw [Hb.out]
                rw [trimE_snoc, isB_num, if_neg hc, ← Hb.out]
              have Hf := Lib.hid hfin; clear hfin
              have hcs : ((b.toNat : Int) == 9) = false ∧ ((b.toNat : Int) == 32) = false := by simpa using hc
              obtain ⟨hc1, hc2⟩ := hcs
              clear hc
              go_wp2
              all_goals first
                | (go_ret; exact ⟨u, rfl, Hf.out.symm, rfl⟩)
          · have hfin : trimL s.data.toList = u.data.toList := by
              rw [H.out, show u.data.toList = [] from List.eq_nil_of_length_eq_zero (by rw [len_data]; omega)]; rfl
            have Hf := Lib.hid hfin; clear hfin
            go_wp2
            all_goals first
              | (go_ret; exact ⟨u, rfl, Hf.out.symm, rfl⟩)
end Go.Proofs.YtmnnbfaaaifcoaaGreatDoor

/- The functions of usherref1, on: numbers and their texts. -/
import Derived.Test.YtmnnbfaaaifcoaaGreatDoorRef1
import Derived.Test.YtmnnbfaaaifcoaaGreatDoorMem
namespace Go.Proofs.YtmnnbfaaaifcoaaGreatDoor
open Go.RowKit

def numF (base : Int) : Bs → Int → Option Int
  | [], n => some n
  | b :: r, n => if digB b.toNat < 0 ∨ base ≤ digB b.toNat then none else numF base r (n * base + digB b.toNat)
def numR (base : Int) (most : Nat) (l : Bs) : Option Int := if l.length < 1 ∨ most < l.length then none else numF base l 0
def numV (o : Option Int) : Value := .tuple #[.int .i64 (o.getD 0), .bool o.isSome]

theorem pow_step (n : Int) (base k : Nat) (d : Int) (h : n < (base : Int) ^ k) (hd : d < base) (hb : 0 ≤ (base : Int)) : n * base + d < (base : Int) ^ (k + 1) := by
  rw [Int.pow_succ]
  have : (n + 1) * (base : Int) ≤ (base : Int) ^ k * (base : Int) := Int.mul_le_mul_of_nonneg_right (by omega) hb
  rw [Int.add_mul] at this
  omega
theorem pow_le (n : Int) (base k m : Nat) (h : n < (base : Int) ^ k) (hk : k ≤ m) (hb : 1 ≤ base) : n < (base : Int) ^ m := by
  have h1 : base ^ k ≤ base ^ m := Nat.pow_le_pow_right hb hk
  have h2 : ((base ^ k : Nat) : Int) ≤ ((base ^ m : Nat) : Int) := by omega
  rw [Int.natCast_pow, Int.natCast_pow] at h2
  omega

theorem pow_le10 (n : Int) (k : Nat) (h : n < (10 : Int) ^ k) (hk : k ≤ 14) : n < 100000000000000 := by
  have := pow_le n 10 k 14 (by simpa using h) hk (by omega)
  simpa using this
theorem pow_le16 (n : Int) (k : Nat) (h : n < (16 : Int) ^ k) (hk : k ≤ 11) : n < 17592186044416 := by
  have := pow_le n 16 k 11 (by simpa using h) hk (by omega)
  simpa using this
theorem digB_ge (c : Int) : -1 ≤ digB c := by unfold digB; split <;> (try split) <;> omega
theorem digB_le (c : Int) (h0 : 0 ≤ c) (h1 : c ≤ 255) : digB c ≤ 15 := by
  unfold digB lowB; split <;> (try split) <;> (try split) <;> omega

set_option maxHeartbeats 800000 in
theorem ref_number_10 (s : ByteArray) (w : World) (hs : s.size ≤ maxLen) :
    Calls Tryz.prog 123 #[.string s, .int .i64 10, .int .i64 15] w fun e w' => e = .returned (numV (numR 10 15 s.data.toList)) ∧ w = w' := by
  unfold maxLen at hs
  have hdl : s.data.toList.length = s.size := len_data s
  have Hdl := Lib.hid hdl; clear hdl
  by_cases hsz : s.size < 1 ∨ 15 < s.size
  · have hR : numR 10 15 s.data.toList = none := by unfold numR; rw [Hdl.out, if_pos hsz]
    have HR := Lib.hid hR; clear hR
    rcases hsz with h | h
    all_goals
      go_enter Tryz.func123, Tryz.ntmps123
      go_wp2
      go_ret2
      exact ⟨by rw [HR.out]; rfl, rfl⟩
  · have hR : numR 10 15 s.data.toList = numF 10 s.data.toList 0 := by unfold numR; rw [Hdl.out, if_neg hsz]
    have HR := Lib.hid hR; clear hR
    have hsz1 : 1 ≤ s.size := by omega
    have hsz2 : s.size ≤ 15 := by omega
    clear hsz
    go_enter Tryz.func123, Tryz.ntmps123
    go_wp2
    go_loop [8, 9] (fun a i => ∃ (k : Nat) (n : Int), k ≤ s.size ∧ i = .int .i64 k ∧ a = .int .i64 n ∧ 0 ≤ n ∧ Hid (n < (10 : Int) ^ k) ∧ Hid (numF 10 s.data.toList 0 = numF 10 (s.data.toList.drop k) n)) (fun _ i => s.size - (intOf i).toNat)
    case atStart => exact ⟨0, 0, Nat.zero_le _, rfl, rfl, Int.le_refl _, show (0 : Int) < 1 by decide, rfl⟩
    case round =>
      obtain ⟨k, n, hk, rfl, rfl, hn0, Hn, H⟩ := hrel
      by_cases hlt : k < s.size
      · obtain ⟨b, hb, hbt⟩ := drop_bt s k hlt
        have Hb := Lib.hid hb; clear hb
        have hbs := PlainAid.get_bt s
        have hn1 := pow_le10 n k Hn.out (by omega)
        have hd1 := digB_le b.toNat (by omega) (u8lt b)
        have hd0 := digB_ge b.toNat
        go_wp2_with (go_at_call 152; refine (ref_Digit _ _ (by omega) (u8lt _)).mono ?_; rintro e w' ⟨rfl, rfl⟩)
        all_goals first
          | (have ht : digB b.toNat < 0 ∨ 10 ≤ digB b.toNat := by omega
             go_ret2
             exact ⟨by rw [HR.out, H.out, Hb.out, numF, if_pos ht]; rfl, rfl⟩)
          | (have ht : ¬ (digB b.toNat < 0 ∨ 10 ≤ digB b.toNat) := by omega
             go_round
             case rel => exact ⟨k + 1, _, by omega, by go_num, rfl, by omega, pow_step n 10 k _ Hn.out (by omega) (by decide), by rw [H.out, Hb.out, numF, if_neg ht]; rfl⟩
             case measure => simp [intOf]; omega)
      · go_wp2
        go_ret2
        exact ⟨by rw [HR.out, H.out, drop_end s k (by omega)]; rfl, rfl⟩

set_option maxHeartbeats 800000 in
theorem ref_number_16 (s : ByteArray) (w : World) (hs : s.size ≤ maxLen) :
    Calls Tryz.prog 123 #[.string s, .int .i64 16, .int .i64 12] w fun e w' => e = .returned (numV (numR 16 12 s.data.toList)) ∧ w = w' := by
  unfold maxLen at hs
  have hdl : s.data.toList.length = s.size := len_data s
  have Hdl := Lib.hid hdl; clear hdl
  by_cases hsz : s.size < 1 ∨ 12 < s.size
  · have hR : numR 16 12 s.data.toList = none := by unfold numR; rw [Hdl.out, if_pos hsz]
    have HR := Lib.hid hR; clear hR
    rcases hsz with h | h
    all_goals
      go_enter Tryz.func123, Tryz.ntmps123
      go_wp2
      go_ret2
      exact ⟨by rw [HR.out]; rfl, rfl⟩
  · have hR : numR 16 12 s.data.toList = numF 16 s.data.toList 0 := by unfold numR; rw [Hdl.out, if_neg hsz]
    have HR := Lib.hid hR; clear hR
    have hsz1 : 1 ≤ s.size := by omega
    have hsz2 : s.size ≤ 12 := by omega
    clear hsz
    go_enter Tryz.func123, Tryz.ntmps123
    go_wp2
    go_loop [8, 9] (fun a i => ∃ (k : Nat) (n : Int), k ≤ s.size ∧ i = .int .i64 k ∧ a = .int .i64 n ∧ 0 ≤ n ∧ Hid (n < (16 : Int) ^ k) ∧ Hid (numF 16 s.data.toList 0 = numF 16 (s.data.toList.drop k) n)) (fun _ i => s.size - (intOf i).toNat)
    case atStart => exact ⟨0, 0, Nat.zero_le _, rfl, rfl, Int.le_refl _, show (0 : Int) < 1 by decide, rfl⟩
    case round =>
      obtain ⟨k, n, hk, rfl, rfl, hn0, Hn, H⟩ := hrel
      by_cases hlt : k < s.size
      · obtain ⟨b, hb, hbt⟩ := drop_bt s k hlt
        have Hb := Lib.hid hb; clear hb
        have hbs := PlainAid.get_bt s
        have hn1 := pow_le16 n k Hn.out (by omega)
        have hd1 := digB_le b.toNat (by omega) (u8lt b)
        have hd0 := digB_ge b.toNat
        go_wp2_with (go_at_call 152; refine (ref_Digit _ _ (by omega) (u8lt _)).mono ?_; rintro e w' ⟨rfl, rfl⟩)
        all_goals first
          | (have ht : digB b.toNat < 0 ∨ 16 ≤ digB b.toNat := by omega
             go_ret2
             exact ⟨by rw [HR.out, H.out, Hb.out, numF, if_pos ht]; rfl, rfl⟩)
          | (have ht : ¬ (digB b.toNat < 0 ∨ 16 ≤ digB b.toNat) := by omega
             go_round
             case rel => exact ⟨k + 1, _, by omega, by go_num, rfl, by omega, pow_step n 16 k _ Hn.out (by omega) (by decide), by rw [H.out, Hb.out, numF, if_neg ht]; rfl⟩
             case measure => simp [intOf]; omega)
      · go_wp2
        go_ret2
        exact ⟨by rw [HR.out, H.out, drop_end s k (by omega)]; rfl, rfl⟩

set_option maxHeartbeats 400000 in
theorem ref_Num (s : ByteArray) (w : World) (hs : s.size ≤ maxLen) :
    Calls Tryz.prog 90 #[.string s] w fun e w' => e = .returned (numV (numR 10 15 s.data.toList)) ∧ w = w' := by
  go_enter Tryz.func90, Tryz.ntmps90
  go_wp2_with (go_at_call 123; refine (ref_number_10 _ _ hs).mono ?_; rintro e w' ⟨rfl, rfl⟩; unfold numV)
  go_ret2
  exact ⟨rfl, rfl⟩
set_option maxHeartbeats 400000 in
theorem ref_Hex (s : ByteArray) (w : World) (hs : s.size ≤ maxLen) :
    Calls Tryz.prog 206 #[.string s] w fun e w' => e = .returned (numV (numR 16 12 s.data.toList)) ∧ w = w' := by
  go_enter Tryz.func206, Tryz.ntmps206
  go_wp2_with (go_at_call 123; refine (ref_number_16 _ _ hs).mono ?_; rintro e w' ⟨rfl, rfl⟩; unfold numV)
  go_ret2
  exact ⟨rfl, rfl⟩

def low (b : UInt8) : UInt8 := if 65 ≤ b.toNat ∧ b.toNat ≤ 90 then UInt8.ofNat (b.toNat + 32) else b
theorem low_num (b : UInt8) : lowB b.toNat = ((low b).toNat : Int) := by
  unfold lowB low
  by_cases h : 65 ≤ b.toNat ∧ b.toNat ≤ 90
  · rw [if_pos (by omega), if_pos h, UInt8.toNat_ofNat_of_lt' (by simp [UInt8.size]; omega)]; omega
  · rw [if_neg (by omega), if_neg h]
def lowL (l : Bs) : Bs := l.map low

end Go.Proofs.YtmnnbfaaaifcoaaGreatDoor

/- usherlaw1.AsciiBack: numbers in digits, and back. -/
import Derived.Test.YteikfilflgfhnaaDoorALaw
import Derived.Test.YteikfilflgfhnaaDoorFmt
namespace Go.Proofs.YteikfilflgfhnaaDoor
open Go.RowKit
set_option maxRecDepth 100000
set_option maxHeartbeats 2000000

theorem numF_snoc (base : Int) (c : UInt8) : ∀ (l : Bs) (n : Int), numF base (l ++ [c]) n = (numF base l n).bind fun m => if digB c.toNat < 0 ∨ base ≤ digB c.toNat then none else some (m * base + digB c.toNat)
  | [], n => by
    simp only [List.nil_append, numF, Option.bind_some]
  | b :: r, n => by
    simp only [List.cons_append, numF]
    split
    · rfl
    · exact numF_snoc base c r _
theorem dch_dig (d : Nat) (h : d < 16) : digB (dch d).toNat = (d : Int) := by
  have : ∀ e : Fin 16, digB (dch e.val).toNat = (e.val : Int) := by decide
  exact this ⟨d, h⟩
theorem digs_back (b : Nat) (hb : 2 ≤ b) (hb16 : b ≤ 16) : ∀ (f u : Nat), u < f → numF b (digs b u) 0 = some (u : Int)
  | 0, u, h => by omega
  | f + 1, u, h => by
    have hd := dch_dig (u % b) (Nat.lt_of_lt_of_le (Nat.mod_lt _ (by omega)) hb16)
    have hm : u % b < b := Nat.mod_lt _ (by omega)
    have hu := Nat.div_add_mod u b
    rw [digs_step b u hb]
    split
    · rename_i h0
      simp only [numF, hd]
      rw [if_neg (by omega)]
      congr 1
      rw [h0] at hu
      simp only [Nat.mul_zero, Nat.zero_add] at hu
      omega
    · rename_i h0
      have hlt : u / b < u := Nat.div_lt_self (by rcases Nat.eq_zero_or_pos u with h1 | h1; subst h1; simp at h0; exact h1) (by omega)
      rw [numF_snoc, digs_back b hb hb16 f (u / b) (by omega), Option.bind_some, hd, if_neg (by omega)]
      congr 1
      have e : ((b * (u / b) + u % b : Nat) : Int) = (u : Int) := by rw [hu]
      rw [← e, Int.natCast_add, Int.natCast_mul, Int.mul_comm]
theorem digs_pos (b : Nat) (hb : 2 ≤ b) (u : Nat) : 0 < (digs b u).length := by
  rw [digs_step b u hb]
  split <;> simp
theorem digs_len' (b : Nat) (hb : 2 ≤ b) : ∀ (k u : Nat), u < b ^ (k + 1) → (digs b u).length ≤ k + 1
  | 0, u, h => by rw [digs_step b u hb, if_pos (Nat.div_eq_of_lt (by simpa using h))]; simp
  | k + 1, u, h => by
    rw [digs_step b u hb]
    split
    · simp
    · have := digs_len' b hb k (u / b) (Nat.div_lt_of_lt_mul (by rwa [Nat.pow_succ, Nat.mul_comm] at h))
      simp; omega
theorem back10 (u : Nat) (h : u < 140737488355328) : numR 10 15 (digs 10 u) = some (u : Int) := by
  have h1 := digs_pos 10 (by omega) u
  have h2 := digs_len' 10 (by omega) 14 u (by omega)
  rw [numR, if_neg (by omega)]
  exact digs_back 10 (by omega) (by omega) (u + 1) u (by omega)
theorem back16 (u : Nat) (h : u < 140737488355328) : numR 16 12 (digs 16 u) = some (u : Int) := by
  have h1 := digs_pos 16 (by omega) u
  have h2 := digs_len' 16 (by omega) 11 u (by omega)
  rw [numR, if_neg (by omega)]
  exact digs_back 16 (by omega) (by omega) (u + 1) u (by omega)
theorem digs_small (b : Nat) (hb : 2 ≤ b) (u : Nat) (h : u ≤ 9223372036854775807) : (⟨(digs b u).toArray⟩ : ByteArray).size ≤ maxLen := by
  have h2 := digs_len' b hb 62 u (Nat.lt_of_lt_of_le (by omega : u < 2 ^ 63) (Nat.pow_le_pow_left hb 63))
  show (digs b u).length ≤ maxLen
  unfold maxLen
  omega

theorem law_Back (n : Int) (w : World) (h0 : -9223372036854775808 ≤ n) (h1 : n ≤ 9223372036854775807) (ht : Tab10 w) (hz : TZ w) :
    Calls Tryd.prog 14 #[.int .i64 n] w fun e w' => e = .returned (.bool true) ∧ Below w.heap.size w w' := by
  go_enter Tryd.func14, Tryd.ntmps14
  go_wp2_with fail
  refine (asc_Dec n w h0 h1 ht).mono ?_
  rintro e w1 ⟨rfl, L1⟩
  go_wp2_with fail
  refine (asc_HexText n w1 h1 (hz.below L1 (Nat.le_refl _))).mono ?_
  rintro e w2 ⟨rfl, L2⟩
  have K2 := stepW L1 L2
  go_wp2_with fail
  refine (ref_Dec n w2 h1).mono ?_
  rintro e w3 ⟨rfl, L3⟩
  have K3 := stepW K2 L3
  go_wp2_with fail
  refine (ref_HexText n w3 h1).mono ?_
  rintro e w4 ⟨rfl, L4⟩
  have K4 := stepW K3 L4
  by_cases hn : n < 0 ∨ 140737488355328 ≤ n
  · go_wp2_with fail
    all_goals
      refine (law1_known _).mono ?_
      rintro e w5 ⟨rfl, L5⟩
      go_wp2
      go_ret
      exact ⟨rfl, stepW K4 L5⟩
  · obtain ⟨u, rfl⟩ : ∃ u : Nat, n = u := ⟨n.toNat, by omega⟩
    rw [Int.toNat_natCast]
    have b10 := back10 u (by omega)
    have b16 := back16 u (by omega)
    have B10 := Lib.hid b10
    have B16 := Lib.hid b16
    clear b10 b16
    go_wp2_with fail
    refine (num_T _ _ (digs_small 10 (by omega) u (by omega))).mono ?_
    rw [show (⟨(digs 10 u).toArray⟩ : ByteArray).data.toList = digs 10 u from rfl, B10.out]
    rintro e w5 ⟨rfl, L5⟩
    have K5 := stepW K4 L5
    go_wp2_with fail
    refine (hex_T _ _ (digs_small 16 (by omega) u (by omega))).mono ?_
    rw [show (⟨(digs 16 u).toArray⟩ : ByteArray).data.toList = digs 16 u from rfl, B16.out]
    rintro e w6 ⟨rfl, L6⟩
    have K6 := stepW K5 L6
    go_wp2_with fail
    refine (law1_known _).mono ?_
    rintro e w7 ⟨rfl, L7⟩
    go_wp2
    go_ret
    exact ⟨rfl, stepW K6 L7⟩
end Go.Proofs.YteikfilflgfhnaaDoor

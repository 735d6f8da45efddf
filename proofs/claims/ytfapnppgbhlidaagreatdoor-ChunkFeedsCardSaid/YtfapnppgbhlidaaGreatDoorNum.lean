/- Numbers in digits, and back; masks. -/
import Derived.Test.YtfapnppgbhlidaaGreatDoorRef1c
import Derived.Laws.BitsLemmas
namespace Go.Proofs.YtfapnppgbhlidaaGreatDoor
open Go.RowKit
set_option maxRecDepth 100000
set_option maxHeartbeats 2000000

theorem numF_snoc (base : Int) (c : UInt8) : ∀ (l : Bs) (n : Int), numF base (l ++ [c]) n = (numF base l n).bind fun m => if digB c.toNat < 0 ∨ base ≤ digB c.toNat then none else some (m * base + digB c.toNat)
  | [], n => by
    simp only [List.nil_append, numF, Option.bind_some]
  | b :: r, n => by
    simp only [List.cons_append, numF]
    split
    · rfl
    · exact numF_snoc base c r _
theorem dch_dig (d : Nat) (h : d < 16) : digB (dch d).toNat = (d : Int) := by
  have : ∀ e : Fin 16, digB (dch e.val).toNat = (e.val : Int) := by decide
  exact this ⟨d, h⟩
theorem digs_back (b : Nat) (hb : 2 ≤ b) (hb16 : b ≤ 16) : ∀ (f u : Nat), u < f → numF b (digs b u) 0 = some (u : Int)
  | 0, u, h => by omega
  | f + 1, u, h => by
    have hd := dch_dig (u % b) (Nat.lt_of_lt_of_le (Nat.mod_lt _ (by omega)) hb16)
    have hm : u % b < b := Nat.mod_lt _ (by omega)
    have hu := Nat.div_add_mod u b
    rw [digs_step b u hb]
    split
    · rename_i h0
      simp only [numF, hd]
      rw [if_neg (by omega)]
      congr 1
      rw [h0] at hu
      simp only [Nat.mul_zero, Nat.zero_add] at hu
      omega
    · rename_i h0
      have hlt : u / b < u := Nat.div_lt_self (by rcases Nat.eq_zero_or_pos u with h1 | h1; subst h1; simp at h0; exact h1) (by omega)
      rw [numF_snoc, digs_back b hb hb16 f (u / b) (by omega), Option.bind_some, hd, if_neg (by omega)]
      congr 1
      have e : ((b * (u / b) + u % b : Nat) : Int) = (u : Int) := by rw [hu]
      rw [← e, Int.natCast_add, Int.natCast_mul, Int.mul_comm]
theorem digs_pos (b : Nat) (hb : 2 ≤ b) (u : Nat) : 0 < (digs b u).length := by
  rw [digs_step b u hb]
  split <;> simp
theorem digs_len' (b : Nat) (hb : 2 ≤ b) : ∀ (k u : Nat), u < b ^ (k + 1) → (digs b u).length ≤ k + 1
  | 0, u, h => by rw [digs_step b u hb, if_pos (Nat.div_eq_of_lt (by simpa using h))]; simp
  | k + 1, u, h => by
    rw [digs_step b u hb]
    split
    · simp
    · have := digs_len' b hb k (u / b) (Nat.div_lt_of_lt_mul (by rwa [Nat.pow_succ, Nat.mul_comm] at h))
      simp; omega
theorem back10 (u : Nat) (h : u < 140737488355328) : numR 10 15 (digs 10 u) = some (u : Int) := by
  have h1 := digs_pos 10 (by omega) u
  have h2 := digs_len' 10 (by omega) 14 u (by omega)
  rw [numR, if_neg (by omega)]
  exact digs_back 10 (by omega) (by omega) (u + 1) u (by omega)
theorem digs_bytes (b : Nat) (hb : 2 ≤ b) (hb10 : b ≤ 10) : ∀ (f u : Nat), u < f → ∀ c ∈ digs b u, 48 ≤ c.toNat ∧ c.toNat ≤ 57
  | 0, u, h => by omega
  | f + 1, u, h => by
    have hm : u % b < b := Nat.mod_lt _ (by omega)
    have hd : 48 ≤ (dch (u % b)).toNat ∧ (dch (u % b)).toNat ≤ 57 := by
      have : ∀ e : Fin 10, 48 ≤ (dch e.val).toNat ∧ (dch e.val).toNat ≤ 57 := by decide
      exact this ⟨u % b, by omega⟩
    rw [digs_step b u hb]
    split
    · intro c hc
      rw [List.mem_singleton] at hc
      rw [hc]; exact hd
    · rename_i h0
      have hlt : u / b < u := Nat.div_lt_self (by rcases Nat.eq_zero_or_pos u with h1 | h1; subst h1; simp at h0; exact h1) (by omega)
      intro c hc
      rcases List.mem_append.1 hc with hc | hc
      · exact digs_bytes b hb hb10 f (u / b) (by omega) c hc
      · rw [List.mem_singleton] at hc
        rw [hc]; exact hd
theorem i64_and1023 (n : Int) : bits .and .i64 n 1023 = n % 1024 := by
  have h : (BitVec.ofInt 64 1023).toNat = 2 ^ 10 - 1 := by decide
  have key : (BitVec.ofInt 64 n &&& BitVec.ofInt 64 1023).toNat = (n % ((2 ^ 64 : Nat) : Int)).toNat % 2 ^ 10 := by
    rw [BitVec.toNat_and, BitVec.toNat_ofInt, h, Nat.and_two_pow_sub_one_eq_mod]
  show IntKind.i64.wrap ((BitVec.ofInt 64 n &&& BitVec.ofInt 64 1023).toNat : Nat) = n % 1024
  rw [key, IntKind.wrap_i64]
  omega
theorem i64_and4095 (n : Int) : bits .and .i64 n 4095 = n % 4096 := by
  have h : (BitVec.ofInt 64 4095).toNat = 2 ^ 12 - 1 := by decide
  have key : (BitVec.ofInt 64 n &&& BitVec.ofInt 64 4095).toNat = (n % ((2 ^ 64 : Nat) : Int)).toNat % 2 ^ 12 := by
    rw [BitVec.toNat_and, BitVec.toNat_ofInt, h, Nat.and_two_pow_sub_one_eq_mod]
  show IntKind.i64.wrap ((BitVec.ofInt 64 n &&& BitVec.ofInt 64 4095).toNat : Nat) = n % 4096
  rw [key, IntKind.wrap_i64]
  omega
end Go.Proofs.YtfapnppgbhlidaaGreatDoor

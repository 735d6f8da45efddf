/- The functions of usherref1, on: numbers and their texts. -/
import Derived.Test.YtfapnppgbhlidaaDoorRef1
import Derived.Test.YtfapnppgbhlidaaDoorMem
namespace Go.Proofs.YtfapnppgbhlidaaDoor
open Go.RowKit

def numF (base : Int) : Bs → Int → Option Int
  | [], n => some n
  | b :: r, n => if digB b.toNat < 0 ∨ base ≤ digB b.toNat then none else numF base r (n * base + digB b.toNat)
def numR (base : Int) (most : Nat) (l : Bs) : Option Int := if l.length < 1 ∨ most < l.length then none else numF base l 0
def numV (o : Option Int) : Value := .tuple #[.int .i64 (o.getD 0), .bool o.isSome]

theorem pow_step (n : Int) (base k : Nat) (d : Int) (h : n < (base : Int) ^ k) (hd : d < base) (hb : 0 ≤ (base : Int)) : n * base + d < (base : Int) ^ (k + 1) := by
  rw [Int.pow_succ]
  have : (n + 1) * (base : Int) ≤ (base : Int) ^ k * (base : Int) := Int.mul_le_mul_of_nonneg_right (by omega) hb
  rw [Int.add_mul] at this
  omega
theorem pow_le (n : Int) (base k m : Nat) (h : n < (base : Int) ^ k) (hk : k ≤ m) (hb : 1 ≤ base) : n < (base : Int) ^ m := by
  have h1 : base ^ k ≤ base ^ m := Nat.pow_le_pow_right hb hk
  have h2 : ((base ^ k : Nat) : Int) ≤ ((base ^ m : Nat) : Int) := by omega
  rw [Int.natCast_pow, Int.natCast_pow] at h2
  omega

theorem pow_le10 (n : Int) (k : Nat) (h : n < (10 : Int) ^ k) (hk : k ≤ 14) : n < 100000000000000 := by
  have := pow_le n 10 k 14 (by simpa using h) hk (by omega)
  simpa using this
theorem pow_le16 (n : Int) (k : Nat) (h : n < (16 : Int) ^ k) (hk : k ≤ 11) : n < 17592186044416 := by
  have := pow_le n 16 k 11 (by simpa using h) hk (by omega)
  simpa using this
theorem digB_ge (c : Int) : -1 ≤ digB c := by unfold digB; split <;> (try split) <;> omega
theorem digB_le (c : Int) (h0 : 0 ≤ c) (h1 : c ≤ 255) : digB c ≤ 15 := by
  unfold digB lowB; split <;> (try split) <;> (try split) <;> omega

def low (b : UInt8) : UInt8 := if 65 ≤ b.toNat ∧ b.toNat ≤ 90 then UInt8.ofNat (b.toNat + 32) else b
theorem low_num (b : UInt8) : lowB b.toNat = ((low b).toNat : Int) := by
  unfold lowB low
  by_cases h : 65 ≤ b.toNat ∧ b.toNat ≤ 90
  · rw [if_pos (by omega), if_pos h, UInt8.toNat_ofNat_of_lt' (by simp [UInt8.size]; omega)]; omega
  · rw [if_neg (by omega), if_neg h]
def lowL (l : Bs) : Bs := l.map low

end Go.Proofs.YtfapnppgbhlidaaDoor

/- ReplyShort. -/
import Derived.Test.YtmjekdnfkgalbaaGreatDoorLw18
import Derived.Test.YtmjekdnfkgalbaaGreatDoorRfC
namespace Go.Proofs.YtmjekdnfkgalbaaGreatDoor
open Go.RowKit
set_option maxRecDepth 100000
set_option maxHeartbeats 4000000

theorem i64_and30 (n : Int) : bits .and .i64 n 1073741823 = n % 1073741824 := by
  have h : (BitVec.ofInt 64 1073741823).toNat = 2 ^ 30 - 1 := by decide
  have key : (BitVec.ofInt 64 n &&& BitVec.ofInt 64 1073741823).toNat = (n % ((2 ^ 64 : Nat) : Int)).toNat % 2 ^ 30 := by
    rw [BitVec.toNat_and, BitVec.toNat_ofInt, h, Nat.and_two_pow_sub_one_eq_mod]
  show IntKind.i64.wrap ((BitVec.ofInt 64 n &&& BitVec.ofInt 64 1073741823).toNat : Nat) = n % 1073741824
  rw [key, IntKind.wrap_i64]
  omega
theorem mod_len (cut : Int) (n : Nat) (hn : 0 < n) : ∃ K : Nat, (cut % 1073741824).tmod (n : Int) = (K : Int) ∧ K < n := by
  have h1 : 0 ≤ cut % 1073741824 := Int.emod_nonneg _ (by decide)
  have h2 := Int.tmod_nonneg (n : Int) h1
  have h3 := Int.tmod_lt_of_pos (cut % 1073741824) (show (0 : Int) < (n : Int) by omega)
  exact ⟨((cut % 1073741824).tmod (n : Int)).toNat, by omega, by omega⟩
theorem all_pos (r : Rs) (head : Bool) (minor : Int) (close : Bool) : 4 ≤ (allR r head minor close).length := by
  obtain ⟨u, hu⟩ := head_ends r minor close
  rw [allR, hu]
  simp only [List.length_append, List.length_cons, List.length_nil]
  omega
end Go.Proofs.YtmjekdnfkgalbaaGreatDoor

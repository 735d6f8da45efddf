/- The law ParseFeeds. -/
import Derived.Test.YtbkakoboaophoaaGreatDoorTk15
import Derived.Deep.DeepCutAuto
import Derived.Deep.RegionHeld3
import Derived.IntWalk
import Derived.StillTailTactics
namespace Go.Proofs.YtbkakoboaophoaaGreatDoor
open Go.RowKit
set_option maxRecDepth 100000
set_option maxHeartbeats 4000000

theorem i64_and63 (n : Int) : bits .and .i64 n 63 = n % 64 := by
  have h : (BitVec.ofInt 64 63).toNat = 2 ^ 6 - 1 := by decide
  have key : (BitVec.ofInt 64 n &&& BitVec.ofInt 64 63).toNat = (n % ((2 ^ 64 : Nat) : Int)).toNat % 2 ^ 6 := by
    rw [BitVec.toNat_and, BitVec.toNat_ofInt, h, Nat.and_two_pow_sub_one_eq_mod]
  show IntKind.i64.wrap ((BitVec.ofInt 64 n &&& BitVec.ofInt 64 63).toNat : Nat) = n % 64
  rw [key, IntKind.wrap_i64]
  omega
theorem two_parts (l : Bs) (a h k : Nat) (hh : h ≤ k) : [(l.drop a).take h, (l.drop (a + h)).take (k - h)].flatten = (l.drop a).take k := by
  obtain ⟨m, rfl⟩ : ∃ m, k = h + m := ⟨k - h, by omega⟩
  rw [← List.drop_drop, Nat.add_sub_cancel_left, List.take_add]
  simp
/-- What may be read of a row of bytes: a part of it. -/
theorem RdO.part {w : World} {S : Nat → Prop} {A V : Option Addr} {n a m : Nat} {l : Bs} (h : RdO w S A n (l.map bv)) (hm : a + m ≤ n) (hV : 0 < m → V = A.map (·.add a)) : RdO w S V m (((l.drop a).take m).map bv) := by
  have h1 := (h.1.cutFrom (k := a) (by omega)).cutTo (k := m) (by omega)
  rw [Nat.mul_one, Nat.mul_one, ← List.map_drop, ← List.map_take] at h1
  rcases Nat.eq_zero_or_pos m with h0 | h0
  · exact ⟨⟨h1.1, fun h9 => absurd h9 (by omega)⟩, fun h9 => absurd h9 (by omega)⟩
  · rw [hV h0]
    refine ⟨h1, fun _ x hx => ?_⟩
    obtain ⟨b, o, rfl, -, -⟩ := h.1.2 (by omega)
    rw [Option.map_some, add_lit'] at hx
    injection hx with hx
    subst hx
    exact h.2 (by omega) ⟨b, o, none⟩ rfl
theorem RdP.drew {w : World} {S : Nat → Prop} {A : Option Addr} {n : Nat} {ps : List Bs} (h : RdP w S A n ps) : RdP w.drew S A n ps := h.moved ((Moved.refl S w).drew)
theorem eT_le (p : PS) : 0 ≤ eT p ∧ eT p ≤ 4 := by
  unfold eT
  split <;> decide
theorem pT_fed (p : PS) : (pT p).fed ≤ p.fed := by
  unfold pT
  split
  · exact Nat.zero_le _
  · exact Nat.le_refl _
/-- Rows beside two parts, one of which is moved. -/
theorem RdO.movL {w w' : World} {S S' X : Nat → Prop} {A : Option Addr} {n : Nat} {xs : List Value} (h : RdO w (fun k => S k ∨ X k) A n xs) (m : Moved S S' w w') : RdO w' (fun k => S' k ∨ X k) A n xs :=
  h.moved ⟨m.fr.mono fun k hk => .inl (.inl hk), fun k hk => by
    rcases hk with hk | hk
    · rcases m.foot k hk with h3 | h3
      · exact .inl (.inl h3)
      · exact .inr h3
    · exact .inl (.inr hk)⟩
theorem RdO.movR {w w' : World} {S X X' : Nat → Prop} {A : Option Addr} {n : Nat} {xs : List Value} (h : RdO w (fun k => S k ∨ X k) A n xs) (m : Moved X X' w w') : RdO w' (fun k => S k ∨ X' k) A n xs :=
  h.moved ⟨m.fr.mono fun k hk => .inl (.inr hk), fun k hk => by
    rcases hk with hk | hk
    · exact .inl (.inl hk)
    · rcases m.foot k hk with h3 | h3
      · exact .inl (.inr h3)
      · exact .inr h3⟩
theorem xq_new (w : World) : XQ (w.alloc (.cells #[.int .i64 0, .int .i64 0, .pointer none, .slice none 0 0, .int .i64 0, .int .i64 0, .bool false, .bool false, .slice none 0 0, .pointer none, .bool false] 111)) w.heap.size (fun k => k = w.heap.size) p0 :=
  .idle (.pointer none) (.slice none 0 0) (.slice none 0 0) (.pointer none) ⟨0, 0, false, false⟩ false p0 rfl rfl (Blk.new' _ _ rfl _ _)
/-- What holds at the loop's head. -/
def FRel (w : World) (b : Bs) (n n2 g gx : Nat) (Aw : Option Addr) (a j : Nat) (r : PS) (S X : Nat → Prop) (wr : World) : Prop :=
  a ≤ n ∧ j ≤ n2 + 1 ∧ r.fed ≤ a ∧ PInv r ∧ PB r ∧ PR wr g S r ∧ XQ wr gx X r ∧ (∀ k, S k → ¬ X k) ∧ (∀ k, S k → w.heap.size ≤ k) ∧ (∀ k, X k → w.heap.size ≤ k) ∧ RdO wr (fun k => S k ∨ X k) Aw (n + 1) ((b ++ [171]).map bv) ∧ Below w.heap.size w wr
end Go.Proofs.YtbkakoboaophoaaGreatDoor

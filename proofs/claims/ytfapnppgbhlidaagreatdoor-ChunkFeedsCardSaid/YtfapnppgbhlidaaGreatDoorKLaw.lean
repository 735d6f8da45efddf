/- usherlaw14: known; ChunkOfNothing. -/
import Derived.Test.YtfapnppgbhlidaaGreatDoorEncK
import Derived.Test.YtfapnppgbhlidaaGreatDoorLw14
namespace Go.Proofs.YtfapnppgbhlidaaGreatDoor
open Go.RowKit
set_option maxRecDepth 100000
set_option maxHeartbeats 4000000

def knB : Bs := [51, 59, 97, 61, 98, 13, 10, 97, 98, 99, 13, 10, 48, 13, 10, 13, 10, 120]
theorem knB_feed : (cFeed cs0 knB).1 = 17 ∧ (cFeed cs0 knB).2.whole = true ∧ (cFeed cs0 knB).2.status = 0 ∧ (cFeed cs0 knB).2.body = [97, 98, 99] := by decide +kernel
theorem knB_enc : encL [[97], []] = [49, 13, 10, 97, 13, 10, 48, 13, 10, 13, 10] := by decide +kernel
theorem hi_of {S : Nat → Prop} {w : World} (hm : ML w) (hS : ∀ k, S k → w.heap.size ≤ k) : Hi S := fun k hk => Nat.lt_of_lt_of_le hm.lt (hS k hk)
theorem moved_below {S S' : Nat → Prop} {w w' : World} (m : Moved S S' w w') {w0 : World} (L : Below w0.heap.size w0 w) (hS : ∀ k, S k → w0.heap.size ≤ k) : Below w0.heap.size w0 w' := m.toBelow L hS
theorem moved_hs {S S' : Nat → Prop} {w w' : World} (m : Moved S S' w w') {B : Nat} (hB : B ≤ w.heap.size) (hS : ∀ k, S k → B ≤ k) : ∀ k, S' k → B ≤ k := fun k hk => by
  rcases m.foot k hk with h | h
  · exact hS k h
  · omega
theorem OB.rdAt {w : World} {base : Nat} {A : Option Addr} {n c : Nat} {l : Bs} (h : OB w base (.slice A n c) l) : n = l.length ∧ Rd w w.heap.size 1 A n (l.map bv) := by
  obtain ⟨A', c', e, h1, h2, h3⟩ := h.form
  injection e with e1 e2 e3
  subst e1 e2
  exact ⟨rfl, h3⟩
theorem law_known14 (w : World) (hm : ML w) (ht : TZ w) :
    Calls Tryz.prog 18 #[] w fun e w' => e = .returned (.bool true) ∧ Below w.heap.size w w' := by
  have kc := fun (w : World) (C : Array Value) (n c g : Nat) (hg : g = w.heap.size) => Go.Joins.run_convert_bytes_const_at (P := Tryz.prog) w 22 5 C n c g hg Tryz.underlying22 Tryz.underlying5
  obtain ⟨f1, f2, f3, f4⟩ := knB_feed
  go_enter Tryz.func18, Tryz.ntmps18
  go_wp2_with fail
  refine (chk_New w).mono ?_
  rintro e w1 ⟨g, S, rfl, hK, hS, L1⟩
  have hm1 := hm.below L1 (Nat.le_refl _)
  go_wp2_with fail
  have hne : (0 < 18 → ∀ a, (some ⟨w1.heap.size, 0, none⟩ : Option Addr) = some a → ¬ S a.block) := by
    intro _ a ha hs
    injection ha with ha
    subst ha
    exact Nat.lt_irrefl _ (hK.lt hs)
  have hr0 : Rd (w1.alloc (.cells #[.int .u8 51, .int .u8 59, .int .u8 97, .int .u8 61, .int .u8 98, .int .u8 13, .int .u8 10, .int .u8 97, .int .u8 98, .int .u8 99, .int .u8 13, .int .u8 10, .int .u8 48, .int .u8 13, .int .u8 10, .int .u8 13, .int .u8 10, .int .u8 120] 5 (18, 19))) (w1.heap.size + 1) 1 (some ⟨w1.heap.size, 0, none⟩) 18 (knB.map bv) := Rd.newM w1 _ rfl (knB.map bv) _ _ 18 1 rfl
  have L1a := allocW (Below.refl w1.heap.size w1) (.cells #[.int .u8 51, .int .u8 59, .int .u8 97, .int .u8 61, .int .u8 98, .int .u8 13, .int .u8 10, .int .u8 97, .int .u8 98, .int .u8 99, .int .u8 13, .int .u8 10, .int .u8 48, .int .u8 13, .int .u8 10, .int .u8 13, .int .u8 10, .int .u8 120] 5 (18, 19))
  have hz : w1.heap.size + 1 ≤ (w1.alloc (.cells #[.int .u8 51, .int .u8 59, .int .u8 97, .int .u8 61, .int .u8 98, .int .u8 13, .int .u8 10, .int .u8 97, .int .u8 98, .int .u8 99, .int .u8 13, .int .u8 10, .int .u8 48, .int .u8 13, .int .u8 10, .int .u8 13, .int .u8 10, .int .u8 120] 5 (18, 19))).heap.size := by simp
  generalize w1.alloc (.cells #[.int .u8 51, .int .u8 59, .int .u8 97, .int .u8 61, .int .u8 98, .int .u8 13, .int .u8 10, .int .u8 97, .int .u8 98, .int .u8 99, .int .u8 13, .int .u8 10, .int .u8 48, .int .u8 13, .int .u8 10, .int .u8 13, .int .u8 10, .int .u8 120] 5 (18, 19)) = W1 at *
  refine (chk_Feed g S cs0 _ 18 18 _ knB W1 (hK.belowW L1a) cs0_inv hr0 hz hne (by decide) (hm1.below L1a (Nat.le_refl _)) (hi_of hm hS)).mono ?_
  unfold FeedPost
  rw [f1, f2, f3]
  rintro e w2 ⟨rfl, S2, hK2, hM2⟩
  have hI2 := cFeed_inv knB cs0 cs0_inv
  have L2 := moved_below hM2 (stepW L1 L1a) hS
  clear hr0 hne hz hM2 hK hS L1a hm1 f1 f2 f3
  go_wp2_with fail
  refine (chk_Body g S2 _ w2 hK2 hI2).mono ?_
  rw [f4]
  rintro e w3 ⟨v3, rfl, ho3, L3⟩
  have L3' := stepW L2 L3
  obtain ⟨A3, c3, rfl, -, -, hr3⟩ := ho3.form
  clear hK2 hI2 ho3 L3 f4
  go_wp2_with fail
  refine (law_same14 A3 3 c3 [97, 98, 99] _ 3 3 [97, 98, 99] _ ((hr3.alloc (Nat.le_refl _) _).more (by simp)) ((Rd.newM w3 _ rfl (([97, 98, 99] : Bs).map bv) _ _ 3 1 rfl).more (by simp)) (by decide)).mono ?_
  rw [decide_eq_true rfl]
  rintro e w4 ⟨rfl, L4⟩
  have L4' := stepW (allocW L3' _) L4
  clear hr3 L4
  go_wp2_with fail
  have L5 := allocW (allocW L4' (.cells #[.int .u8 97] 5 (1, 2))) (.cells #[.slice (some ⟨w4.heap.size, 0, none⟩) 1 1, .slice none 0 0] 22)
  have hS5 : RdS ((w4.alloc (.cells #[.int .u8 97] 5 (1, 2))).alloc (.cells #[.slice (some ⟨w4.heap.size, 0, none⟩) 1 1, .slice none 0 0] 22)) (w4.heap.size + 2) (some ⟨w4.heap.size + 1, 0, none⟩) 2 [[97], []] := by
    refine ⟨[.slice (some ⟨w4.heap.size, 0, none⟩) 1 1, .slice none 0 0], Rd.new _ (w4.heap.size + 1) (by simp) [.slice (some ⟨w4.heap.size, 0, none⟩) 1 1, .slice none 0 0] _ 2 1 rfl, rfl, fun i p hp => ?_⟩
    match i, hp with
    | 0, hp =>
      obtain rfl : [97] = p := by simpa using hp
      exact ⟨_, _, rfl, ((Rd.newM w4 _ rfl (([97] : Bs).map bv) _ _ 1 1 rfl).alloc (by simp) _).more (by omega)⟩
    | 1, hp =>
      obtain rfl : [] = p := by simpa using hp
      exact ⟨_, _, rfl, Rd.nil _ _ _ _⟩
  refine (chk_Encode _ 2 2 _ [[97], []] _ hS5 (by simp) (by decide +kernel) (by decide) (ht.below L5 (Nat.le_refl _))).mono ?_
  rw [knB_enc]
  rintro e w6 ⟨v6, rfl, ho6, L6⟩
  have L6' := stepW L5 L6
  obtain ⟨A6, c6, rfl, -, -, hr6⟩ := ho6.form
  clear hS5 L5 L6 ho6 L4'
  go_wp2_with fail
  refine (law_same14 A6 11 c6 [49, 13, 10, 97, 13, 10, 48, 13, 10, 13, 10] _ 11 11 [49, 13, 10, 97, 13, 10, 48, 13, 10, 13, 10] _ ((hr6.alloc (Nat.le_refl _) _).more (by simp)) ((Rd.newM w6 _ rfl (([49, 13, 10, 97, 13, 10, 48, 13, 10, 13, 10] : Bs).map bv) _ _ 11 1 rfl).more (by simp)) (by decide)).mono ?_
  rw [decide_eq_true rfl]
  rintro e w7 ⟨rfl, L7⟩
  have L7' := stepW (allocW L6' _) L7
  go_wp2
  go_ret
  exact ⟨rfl, L7'⟩
end Go.Proofs.YtfapnppgbhlidaaGreatDoor

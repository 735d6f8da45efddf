/- The law SpecBegins. -/
import Derived.Test.YtbkakoboaophoaaGreatDoorSp5
import Derived.Test.YtbkakoboaophoaaGreatDoorQLaw3
namespace Go.Proofs.YtbkakoboaophoaaGreatDoor
open Go.RowKit
set_option maxRecDepth 100000
set_option maxHeartbeats 4000000

theorem i64_and65535 (n : Int) : bits .and .i64 n 65535 = n % 65536 := by
  have h : (BitVec.ofInt 64 65535).toNat = 2 ^ 16 - 1 := by decide
  have key : (BitVec.ofInt 64 n &&& BitVec.ofInt 64 65535).toNat = (n % ((2 ^ 64 : Nat) : Int)).toNat % 2 ^ 16 := by
    rw [BitVec.toNat_and, BitVec.toNat_ofInt, h, Nat.and_two_pow_sub_one_eq_mod]
  show IntKind.i64.wrap ((BitVec.ofInt 64 n &&& BitVec.ofInt 64 65535).toNat : Nat) = n % 65536
  rw [key, IntKind.wrap_i64]
  omega
theorem law_Begins16 (A : Option Addr) (n c : Nat) (b : Bs) (z : Int) (w : World) (hA : Rd w w.heap.size 1 A n (b.map bv)) (hc : n ≤ c) (hm : ML w) :
    Calls Tryz.prog 6 #[.slice A n c, .int .i64 z] w fun e w' => e = .returned (.bool true) ∧ Below w.heap.size w w' := by
  by_cases hb : 6000 < n
  · go_enter Tryz.func6, Tryz.ntmps6
    go_wp2
    go_ret
    exact ⟨rfl, Below.refl _ _⟩
  have hle : n ≤ 6000 := by omega
  clear hb
  have hbl : b.length = n := by simpa using hA.1
  have kand := i64_and65535 z
  obtain ⟨k, hk⟩ : ∃ k : Nat, (z % 65536).tmod ((n : Int) + 1) = (k : Int) := ⟨((z % 65536).tmod ((n : Int) + 1)).toNat, by have := Int.tmod_nonneg ((n : Int) + 1) (a := z % 65536) (by omega); omega⟩
  have hkn : k ≤ n := by have := Int.tmod_lt_of_pos (z % 65536) (b := (n : Int) + 1) (by omega); omega
  obtain ⟨R, ⟨U, P, T⟩, hR⟩ : ∃ R X, rdL b = (R, X) := ⟨_, _, rfl⟩
  obtain ⟨Q, ⟨V, O, Y⟩, hQ⟩ : ∃ R X, rdL (b.take k) = (R, X) := ⟨_, _, rfl⟩
  obtain ⟨i1, i2, i3⟩ := rdL_begin b k (by omega)
  have i4 := rdL_used (b.take k)
  rw [List.length_take, Nat.min_eq_left (by omega)] at i4
  rw [hR, hQ] at i1 i2 i3
  rw [hQ] at i4
  dsimp only at i1 i2 i3 i4
  have hg := fun (o o' : Operand) (xs ys : Array Value) (w : World) => run_guard_rs .eql o o' xs ys w
  have he := run_eql_rs U P T
  have hC := (spc_Read A n c b w hA (by omega) hc hm).mono fun e w' h => h.q hbl hR
  have hbt : (b.take k).length = k := by rw [List.length_take]; omega
  have HBT := Lib.hid hbt
  have HBL := Lib.hid hbl
  have HQ := Lib.hid hQ
  have I1 := Lib.hid i1
  clear hbl hR hQ i1 hbt
  have wn : IntKind.i64.wrap ((n : Int) + 1) = (n : Int) + 1 := IntWalk.i64_in _ (by omega)
  have wk : IntKind.i64.wrap (k : Int) = (k : Int) := IntWalk.i64_in _ (by omega)
  have fin : O = 4 ∧ V = U ∧ P = 4 ∧ Y = T ∨ O ≠ 4 := by
    by_cases h : O = 4
    · have h2 := i3 h
      rw [RS.mk.injEq] at h2
      exact .inl ⟨h, h2.1, by omega, h2.2.2⟩
    · exact .inr h
  clear i3
  have HF := Lib.hid fin
  clear fin
  go_enter Tryz.func6, Tryz.ntmps6
  go_wp2_with fail
  refine hC.mono ?_
  rintro e w2 ⟨A2, c2, l2, rfl, hm2, hc2, hn2, rr2, L2⟩
  have La := allocW (Below.refl w2.heap.size w2) (.cells #[.int .i64 (U : Int), .int .i64 (P : Int), .int .i64 T] 42)
  have Ba := Blk.new w2 42 #[.int .i64 (U : Int), .int .i64 (P : Int), .int .i64 T]
  have L3' := stepW L2 La
  have hcut := ((hA.below L3').more L3'.size).cutTo hkn
  rw [Nat.mul_one, ← List.map_take] at hcut
  have hC2 := (spc_Read A k c (b.take k) _ hcut (by omega) (by omega) (hm.below L3' (Nat.le_refl _))).mono fun e w' h => h.q HBT.out HQ.out
  have HM2 := Lib.hid hm2
  clear hC hm2 hcut
  go_wp2_with fail
  refine hC2.mono ?_
  rintro e w3 ⟨A3, c3, l3, rfl, hm3, hc3, hn3, rr3, L3⟩
  have hl32 : l3.length ≤ l2.length := by
    have h1 := congrArg List.length I1.out
    have h2 := congrArg List.length hm3
    have h3 := congrArg List.length HM2.out
    rw [List.length_take] at h1
    rw [List.length_map] at h2 h3
    omega
  have hmm : l3.map RP.r = (l2.take l3.length).map RP.r := by
    have h2 := congrArg List.length hm3
    rw [List.length_map] at h2
    rw [List.map_take, HM2.out, hm3, h2]
    exact I1.out
  have HM := Lib.hid hmm
  clear hC2 hm3 hmm
  have Lb := allocW (Below.refl w3.heap.size w3) (.cells #[.int .i64 (V : Int), .int .i64 (O : Int), .int .i64 Y] 42)
  have Bb := Blk.new w3 42 #[.int .i64 (V : Int), .int .i64 (O : Int), .int .i64 Y]
  have L4' := stepW (stepW L3' L3) Lb
  have hq := law_requests16 A3 l3.length c3 l3 A2 l3.length c2 (l2.take l3.length) _ (rr3.belowW Lb) ((rr2.cut hl32).belowW (stepW (stepW La L3) Lb)) HM.out (by omega)
  have Ba4 := Ba.belowW (stepW L3 Lb)
  have hkn' : l3.length ≤ c2 := by omega
  go_wp2_with fail
  refine hq.mono ?_
  rintro e w5 ⟨rfl, L5⟩
  have L5' := stepW L4' L5
  rcases HF.out with ⟨rfl, rfl, rfl, rfl⟩ | h4
  · obtain ⟨a0, a1, a2, -, -, -⟩ := (Ba4.belowW L5).c3
    obtain ⟨b0, b1, b2, -, -, -⟩ := (Bb.belowW L5).c3
    go_wp2_with fail
    refine (law_known16 w5 (hm.below L5' (Nat.le_refl _))).mono ?_
    rintro e w7 ⟨rfl, L7⟩
    go_wp2
    go_ret
    exact ⟨rfl, stepW L5' L7⟩
  · obtain ⟨a0, a1, a2, -, -, -⟩ := (Ba4.belowW L5).c3
    obtain ⟨b0, b1, b2, -, -, -⟩ := (Bb.belowW L5).c3
    have h4' : ((O : Int) != 4) = true := by simp; omega
    go_wp2_with fail
    refine (law_known16 w5 (hm.below L5' (Nat.le_refl _))).mono ?_
    rintro e w7 ⟨rfl, L7⟩
    go_wp2
    go_ret
    exact ⟨rfl, stepW L5' L7⟩
end Go.Proofs.YtbkakoboaophoaaGreatDoor

/- The law SpecReads. -/
import Derived.Test.YtbkakoboaophoaaGreatDoorSp4
import Derived.Test.YtbkakoboaophoaaGreatDoorSp5
namespace Go.Proofs.YtbkakoboaophoaaGreatDoor
open Go.RowKit
set_option maxRecDepth 100000
set_option maxHeartbeats 4000000

theorem law_Reads16 (A : Option Addr) (n c : Nat) (b : Bs) (w : World) (hA : Rd w w.heap.size 1 A n (b.map bv)) (hc : n ≤ c) (hm : ML w) :
    Calls Tryz.prog 4 #[.slice A n c] w fun e w' => e = .returned (.bool true) ∧ Below w.heap.size w w' := by
  by_cases hb : 6000 < n
  · go_enter Tryz.func4, Tryz.ntmps4
    go_wp2
    go_ret
    exact ⟨rfl, Below.refl _ _⟩
  have hle : n ≤ 6000 := by omega
  clear hb
  have hbl : b.length = n := by simpa using hA.1
  obtain ⟨R, ⟨U, P, T⟩, hR⟩ : ∃ R X, rdL b = (R, X) := ⟨_, _, rfl⟩
  have hg := fun (o o' : Operand) (xs ys : Array Value) (w : World) => run_guard_rs .eql o o' xs ys w
  have he := run_eql_rs U P T
  go_enter Tryz.func4, Tryz.ntmps4
  go_wp2_with fail
  refine (law_roomy16 A n c b w hA (by omega)).mono ?_
  rintro e w1 ⟨⟨Aw, cw, rfl, hcw, hrw⟩, L1⟩
  have hcut := hrw.cutTo (k := n) (by omega)
  have ecut : ((b ++ [171]).map bv).take (n * 1) = b.map bv := by rw [List.map_append, List.take_append_of_le_length (by simp; omega), List.take_of_length_le (by simp; omega)]
  rw [ecut] at hcut
  have hC := (spc_Read Aw n cw b w1 hcut (by omega) (by omega) (hm.below L1 (Nat.le_refl _))).mono fun e w' h => h.q hbl hR
  obtain ⟨bw, ow, rfl, hbw, -⟩ := hrw.2 (by omega)
  have HBL := Lib.hid hbl
  have HR := Lib.hid hR
  clear hcut hbl hR ecut
  go_wp2_with fail
  refine hC.mono ?_
  rintro e w2 ⟨A2, c2, l2, rfl, hm2, hc2, hn2, rr2, L2⟩
  have L2' := stepW L1 L2
  have La := allocW (Below.refl w2.heap.size w2) (.cells #[.int .i64 (U : Int), .int .i64 (P : Int), .int .i64 T] 42)
  have Ba := Blk.new w2 42 #[.int .i64 (U : Int), .int .i64 (P : Int), .int .i64 T]
  have L3' := stepW L2' La
  have hC2 := (ref16_Read A n c b _ ((hA.below L3').more L3'.size) (by omega) hc).mono fun e w' h => h.q HBL.out HR.out
  have HM2 := Lib.hid hm2
  clear hC hm2
  go_wp2_with fail
  refine hC2.mono ?_
  rintro e w3 ⟨A3, c3, l3, rfl, hm3, hc3, hn3, rr3, L3⟩
  have HM3 := Lib.hid hm3
  clear hC2 hm3
  have Lb := allocW (Below.refl w3.heap.size w3) (.cells #[.int .i64 (U : Int), .int .i64 (P : Int), .int .i64 T] 45)
  have Bb := Blk.new w3 45 #[.int .i64 (U : Int), .int .i64 (P : Int), .int .i64 T]
  have L4' := stepW (stepW L3' L3) Lb
  have hq := law_requests16 A2 l2.length c2 l2 A3 l3.length c3 l3 _ (rr2.belowW (stepW (stepW La L3) Lb)) (rr3.belowW Lb) (HM2.out.trans HM3.out.symm) (by omega)
  have Ba4 := Ba.belowW (stepW L3 Lb)
  go_wp2_with fail
  refine hq.mono ?_
  rintro e w5 ⟨rfl, L5⟩
  obtain ⟨a0, a1, a2, -, -, -⟩ := (Ba4.belowW L5).c3
  obtain ⟨b0, b1, b2, -, -, -⟩ := (Bb.belowW L5).c3
  have L5' := stepW L4' L5
  have LL := (stepW (stepW (stepW L2 La) L3) Lb)
  have hst := law_stands16 _ n cw A c b w5 ((hrw.below (stepW LL L5)).more (stepW LL L5).size) ((hA.below L5').more L5'.size) hcw (by omega)
  clear hrw hA
  go_wp2_with fail
  refine hst.mono ?_
  rintro e w6 ⟨rfl, L6⟩
  have L6' := stepW L5' L6
  go_wp2_with fail
  refine (law_known16 w6 (hm.below L6' (Nat.le_refl _))).mono ?_
  rintro e w7 ⟨rfl, L7⟩
  go_wp2
  go_ret
  exact ⟨rfl, stepW L6' L7⟩
end Go.Proofs.YtbkakoboaophoaaGreatDoor

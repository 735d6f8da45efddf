/- usherlaw11.known. -/
import Derived.Test.YtfpojnijjpojlaaGreatDoorTgt5
import Derived.Test.YtfpojnijjpojlaaGreatDoorTEq
namespace Go.Proofs.YtfpojnijjpojlaaGreatDoor
open Go.RowKit
set_option maxRecDepth 100000
set_option maxHeartbeats 4000000

def getB : Bs := [71, 69, 84]
def kn1 : Bs := [47, 97, 47, 46, 47, 98, 37, 50, 102, 46, 46, 63, 120, 61, 37, 50, 48]
def kn2 : Bs := [47, 46, 46, 47, 97]
theorem parse_kn1 : parseL getB kn1 = (⟨1, [], [47, 97, 47], [120, 61, 37, 50, 48]⟩, 0) := by decide +kernel
theorem parse_kn2 : parseL getB kn2 = (tgt0, 8) := by decide +kernel
theorem law11_known (w : World) (hm : ML w) :
    Calls Tryz.prog 11 #[] w fun e w' => e = .returned (.bool true) ∧ Below w.heap.size w w' := by
  have kq := fun w : World => run_eql_tg ⟨1, [], [47, 97, 47], [120, 61, 37, 50, 48]⟩ ⟨1, [], [47, 97, 47], [120, 61, 37, 50, 48]⟩ w
  rw [show tgEq ⟨1, [], [47, 97, 47], [120, 61, 37, 50, 48]⟩ ⟨1, [], [47, 97, 47], [120, 61, 37, 50, 48]⟩ = true by decide] at kq
  have kg := fun (o : Operand) (o' : Operand) (xs ys : Array Value) (w : World) => run_guard_tg .eql o o' xs ys w
  go_enter Tryz.func11, Tryz.ntmps11
  go_wp2_with fail
  refine (tgt_Parse ⟨getB.toArray⟩ ⟨kn1.toArray⟩ w (show (17 : Nat) < 4294967281 by decide) hm).mono ?_
  rw [show (⟨getB.toArray⟩ : ByteArray).data.toList = getB from rfl, show (⟨kn1.toArray⟩ : ByteArray).data.toList = kn1 from rfl, parse_kn1, tgR_mk]
  rintro e w1 ⟨rfl, L1⟩
  have hm1 := hm.below L1 (Nat.le_refl _)
  go_wp2_with fail
  obtain ⟨W2, hW⟩ : ∃ W2, W2 = w1.alloc (.cells #[.int .i64 1, .string ⟨#[]⟩, .string ⟨#[47, 97, 47]⟩, .string ⟨#[120, 61, 37, 50, 48]⟩] 23) := ⟨_, rfl⟩
  rw [← hW]
  have B1 : Blk W2 w1.heap.size 23 #[.int .i64 1, .string ⟨#[]⟩, .string ⟨#[47, 97, 47]⟩, .string ⟨#[120, 61, 37, 50, 48]⟩] := by rw [hW]; exact Blk.new' _ _ rfl _ _
  have L2 : Below w.heap.size w W2 := by rw [hW]; exact allocW L1 _
  have hm2 := hm.below L2 (Nat.le_refl _)
  clear hW
  refine (tgt_Parse ⟨getB.toArray⟩ ⟨kn2.toArray⟩ W2 (show (5 : Nat) < 4294967281 by decide) hm2).mono ?_
  rw [show (⟨getB.toArray⟩ : ByteArray).data.toList = getB from rfl, show (⟨kn2.toArray⟩ : ByteArray).data.toList = kn2 from rfl, parse_kn2, tgR_mk]
  rintro e w3 ⟨rfl, L3⟩
  obtain ⟨j0, j1, j2, j3, i0, i1, i2, i3⟩ := (B1.belowW L3).c4
  have LL := stepW L2 L3
  have hlt : w1.heap.size < w3.heap.size := (B1.belowW L3).lt
  have hne : ¬ w1.heap.size = w3.heap.size := by omega
  go_wp2
  go_ret
  exact ⟨rfl, allocW LL _⟩
end Go.Proofs.YtfpojnijjpojlaaGreatDoor

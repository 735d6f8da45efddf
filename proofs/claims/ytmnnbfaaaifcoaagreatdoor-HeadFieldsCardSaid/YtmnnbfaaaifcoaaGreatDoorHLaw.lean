/- usherlaw13: known. -/
import Derived.Test.YtmnnbfaaaifcoaaGreatDoorHd4
import Derived.Test.YtmnnbfaaaifcoaaGreatDoorTEq
namespace Go.Proofs.YtmnnbfaaaifcoaaGreatDoor
open Go.RowKit
set_option maxRecDepth 100000
set_option maxHeartbeats 4000000

def kh1 : Bs := [71, 69, 84, 32, 47, 32, 72, 84, 84, 80, 47, 49, 46, 49]
def kh2 : Bs := [72, 111, 115, 116, 58, 32, 97]
def kH1 : HS := hLine hs0 kh1
def kH2 : HS := hLine kH1 kh2
def kH3 : HS := hLine kH2 []
theorem kH1_eq : kH1.whole = false ∧ kH1.status = 0 := by decide +kernel
theorem kH3_eq : kH3.whole = true ∧ kH3.status = 0 ∧ kH3.method = [71, 69, 84] ∧ kH3.tgt.path = [47] ∧ kH3.minor = 1 ∧ kH3.flds = [([72, 111, 115, 116], [97])] := by decide +kernel
theorem kH1_inv : HInv kH1 := hLine_inv _ _ hs0_inv
theorem kH2_inv : HInv kH2 := hLine_inv _ _ kH1_inv
theorem kH3_inv : HInv kH3 := hLine_inv _ _ kH2_inv
theorem HR.f0 {w : World} {g : Nat} {S : Nat → Prop} {h : HS} (k : HR w g S h) : ∃ pf, w.cell? ⟨g, 0, none⟩ = some (.pointer (some ⟨pf, 0, none⟩)) ∧ FR w 104 pf h.flds := by
  obtain ⟨pf, v, rfl, k⟩ := k
  exact ⟨pf, k.blk.cell 0, k.fa.rd⟩
theorem law13_known (w : World) (hm : ML w) :
    Calls Tryz.prog 18 #[] w fun e w' => e = .returned (.bool true) ∧ Below w.heap.size w w' := by
  go_enter Tryz.func18, Tryz.ntmps18
  go_wp2_with fail
  refine (hd_New w).mono ?_
  rintro e w1 ⟨⟨g, S, rfl, k1, hS⟩, L1⟩
  have hm1 := hm.below L1 (Nat.le_refl _)
  have hh1 := hi_of hm hS
  obtain ⟨pf, c0, -⟩ := k1.f0
  go_wp2_with fail
  refine (hd_Line g S hs0 ⟨kh1.toArray⟩ w1 k1 hs0_inv (by decide) hm1 hh1).mono ?_
  rw [show hLine hs0 (⟨kh1.toArray⟩ : ByteArray).data.toList = kH1 from rfl]
  unfold HLPost
  rw [kH1_eq.1, kH1_eq.2]
  rintro e w2 ⟨rfl, S2, k2, m2⟩
  have hm2 := hm1.fr m2.fr hh1
  have hh2 := hh1.moved hm1 m2
  have L2 := moved_below m2 L1 hS
  have hS2 := moved_hs m2 L1.size hS
  clear k1 m2 c0
  go_wp2_with fail
  refine (hd_Line g S2 kH1 ⟨kh2.toArray⟩ w2 k2 kH1_inv (by decide) hm2 hh2).mono ?_
  rw [show hLine kH1 (⟨kh2.toArray⟩ : ByteArray).data.toList = kH2 from rfl]
  rintro e w3 ⟨rfl, S3, k3, m3⟩
  have hm3 := hm2.fr m3.fr hh2
  have hh3 := hh2.moved hm2 m3
  have L3 := moved_below m3 L2 hS2
  have hS3 := moved_hs m3 L2.size hS2
  clear k2 m3
  go_wp2_with fail
  refine (hd_Line g S3 kH2 ⟨#[]⟩ w3 k3 kH2_inv (by decide) hm3 hh3).mono ?_
  rw [show hLine kH2 (⟨#[]⟩ : ByteArray).data.toList = kH3 from rfl]
  unfold HLPost
  rw [kH3_eq.1, kH3_eq.2.1]
  rintro e w4 ⟨rfl, S4, k4, m4⟩
  have L4 := moved_below m4 L3 hS3
  clear k3 m4
  go_wp2_with fail
  refine (hd_Start g S4 kH3 w4 k4).mono ?_
  rw [kH3_eq.2.2.1, kH3_eq.2.2.2.2.1]
  unfold tgtV
  rw [kH3_eq.2.2.2.1]
  rintro e w5 ⟨rfl, L5⟩
  have k5 := k4.belowW L5
  have L6 := stepW L4 L5
  have LA := allocW (Below.refl w5.heap.size w5) (.cells #[.int .i64 kH3.tgt.form, sv kH3.tgt.host, sv [47], sv kH3.tgt.query] 26)
  have k6 := k5.belowW LA
  obtain ⟨pf6, c6, hF6⟩ := k6.f0
  rw [kH3_eq.2.2.2.2.2] at hF6
  have hH := fld_Has pf6 _ ⟨#[104, 111, 115, 116]⟩ _ hF6 (by decide) (by unfold FdSz; decide) (by decide)
  go_wp2_with fail
  refine hH.mono ?_
  rw [show (!(valsL (⟨#[104, 111, 115, 116]⟩ : ByteArray).data.toList [([72, 111, 115, 116], [97])]).isEmpty) = true by decide +kernel]
  rintro e w7 ⟨rfl, L7⟩
  go_wp2
  go_ret
  exact ⟨rfl, stepW (stepW L6 LA) L7⟩
theorem law_HeadOfNothing (s : ByteArray) (w : World) (hm : ML w) :
    Calls Tryz.prog 3 #[.string s] w fun e w' => e = .returned (.bool true) ∧ Below w.heap.size w w' := by
  by_cases hs : 1000 < s.size
  · go_enter Tryz.func3, Tryz.ntmps3
    go_wp2
    go_ret
    exact ⟨rfl, Below.refl _ _⟩
  have kq := fun w : World => run_eql_how how0 how0 w
  rw [show howEq how0 how0 = true by decide] at kq
  have kg := fun (o : Operand) (o' : Operand) (xs ys : Array Value) (w : World) => run_guard_how .eql o o' xs ys w
  have tq := fun w : World => run_eql_tg tgt0 tgt0 w
  rw [show tgEq tgt0 tgt0 = true by decide] at tq
  have tg := fun (o : Operand) (o' : Operand) (xs ys : Array Value) (w : World) => run_guard_tg .eql o o' xs ys w
  have hs1 : (s.size : Int) ≤ 1000 := by omega
  have hsn := hd_Start_nil
  have hhn := hd_How_nil
  rw [show tgtV tgt0 = .agg #[.int .i64 0, .string ⟨#[]⟩, .string ⟨#[]⟩, .string ⟨#[]⟩] from rfl] at hsn tq
  rw [show howV how0 = .agg #[.int .i64 0, .int .i64 0, .bool false, .bool false] from rfl] at hhn kq
  go_enter Tryz.func3, Tryz.ntmps3
  go_wp2_with fail
  refine (hd_Line_nil s w).mono ?_
  rintro e w1 ⟨rfl, rfl⟩
  go_wp2_with fail
  refine (hsn w).mono ?_
  rintro e w1 ⟨rfl, L1⟩
  have LA := allocW L1 (.cells #[.int .i64 0, .string ⟨#[]⟩, .string ⟨#[]⟩, .string ⟨#[]⟩] 26)
  obtain ⟨k0, k1, k2, k3, l0, l1, l2, l3⟩ := (Blk.new' w1 _ rfl 26 #[.int .i64 0, .string ⟨#[]⟩, .string ⟨#[]⟩, .string ⟨#[]⟩]).c4
  go_wp2_with fail
  refine (hhn _).mono ?_
  rintro e w2 ⟨rfl, L2⟩
  have L3 := stepW LA L2
  go_wp2_with fail
  refine (law13_known w2 (hm.below L3 (Nat.le_refl _))).mono ?_
  rintro e w3 ⟨rfl, L4⟩
  go_wp2
  go_ret
  exact ⟨rfl, stepW L3 L4⟩
end Go.Proofs.YtmnnbfaaaifcoaaGreatDoor

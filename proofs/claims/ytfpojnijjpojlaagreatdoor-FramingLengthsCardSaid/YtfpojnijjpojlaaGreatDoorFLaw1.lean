/- usherlaw12: known, of. -/
import Derived.Test.YtfpojnijjpojlaaGreatDoorFEq
import Derived.Test.YtfpojnijjpojlaaGreatDoorFrm6
import Derived.Test.YtfpojnijjpojlaaGreatDoorRef12c
namespace Go.Proofs.YtfpojnijjpojlaaGreatDoor
open Go.RowKit
set_option maxRecDepth 100000
set_option maxHeartbeats 4000000

theorem addL_sz : ∀ (l acc : List Fd) (i : Nat), FdSz acc → FdSz l → FdSz (addL acc l i).1
  | [], acc, i, h, _ => h
  | f :: l, acc, i, h, h2 => by
    rw [addL]
    split
    · split
      · exact h
      · refine addL_sz l (acc ++ [f]) (i + 1) (fun x hx => ?_) (fun x hx => h2 x (by simp [hx]))
        rcases List.mem_append.1 hx with hx | hx
        · exact h x hx
        · rw [List.mem_singleton.1 hx]; exact h2 f (by simp)
    · exact h
def knF1 : List Fd := [(hostN, [97]), (clN, [53]), ([99, 111, 110, 116, 101, 110, 116, 45, 108, 101, 110, 103, 116, 104], [53, 44, 32, 48, 53])]
def knF2 : List Fd := [(hostN, [97]), (teN, [103, 122, 105, 112, 44, 32, 99, 104, 117, 110, 107, 101, 100])]
theorem knF1_add : (addL [] knF1 0).1 = knF1 := by decide +kernel
theorem knF2_add : (addL [] knF2 0).1 = knF2 := by decide +kernel
theorem knF1_frm : frmL true knF1 = (⟨1, 5, false, false⟩, 0) := by decide +kernel
theorem knF2_frm : frmL true knF2 = (how0, 501) := by decide +kernel
theorem knF1_sz : FdSz knF1 := by unfold FdSz; decide
theorem knF2_sz : FdSz knF2 := by unfold FdSz; decide
theorem law12_known (w : World) (hm : ML w) :
    Calls Tryz.prog 16 #[] w fun e w' => e = .returned (.bool true) ∧ Below w.heap.size w w' := by
  have kq := fun w : World => run_eql_how ⟨1, 5, false, false⟩ ⟨1, 5, false, false⟩ w
  rw [show howEq ⟨1, 5, false, false⟩ ⟨1, 5, false, false⟩ = true by decide] at kq
  have kg := fun (o : Operand) (o' : Operand) (xs ys : Array Value) (w : World) => run_guard_how .eql o o' xs ys w
  go_enter Tryz.func16, Tryz.ntmps16
  go_wp2_with fail
  have LV : Below w.heap.size w (w.alloc (.cells (fcells knF1).toArray 39)) := allocW (Below.refl _ _) _
  refine (fld_Of 3 3 (some ⟨w.heap.size, 0, none⟩) knF1 (w.alloc (.cells (fcells knF1).toArray 39)) ((Rd.new w _ rfl (fcells knF1) _ 3 2 rfl).more (by simp)) knF1_sz (by decide)).mono ?_
  rw [knF1_add]
  rintro e w1 ⟨⟨g, v, rfl, hF⟩, L1⟩
  have L2 := stepW LV L1
  go_wp2_with fail
  refine (frm_Of 1 (some ⟨g, 0, none⟩) knF1 w1 (.inr ⟨g, rfl, hF.rd⟩) (by decide) knF1_sz (hm.below L2 (Nat.le_refl _))).mono ?_
  rw [show decide ((1 : Int) ≤ 1) = true from rfl, knF1_frm, howR_mk]
  rintro e w2 ⟨rfl, L3⟩
  have L4 := stepW L2 L3
  clear LV L1 L2 L3 hF
  go_wp2_with fail
  have LU : Below w.heap.size w (w2.alloc (.cells (howC ⟨1, 5, false, false⟩) 44)) := allocW L4 _
  have BU : Blk (w2.alloc (.cells (howC ⟨1, 5, false, false⟩) 44)) w2.heap.size 44 (howC ⟨1, 5, false, false⟩) := Blk.new' _ _ rfl _ _
  have LV : Below w.heap.size w ((w2.alloc (.cells (howC ⟨1, 5, false, false⟩) 44)).alloc (.cells (fcells knF2).toArray 39)) := allocW LU _
  have BV := BU.alloc (.cells (fcells knF2).toArray 39)
  refine (fld_Of 2 2 (some ⟨w2.heap.size + 1, 0, none⟩) knF2 ((w2.alloc (.cells (howC ⟨1, 5, false, false⟩) 44)).alloc (.cells (fcells knF2).toArray 39)) ((Rd.new (w2.alloc (.cells (howC ⟨1, 5, false, false⟩) 44)) _ (by simp) (fcells knF2) _ 2 2 rfl).more (by simp)) knF2_sz (by decide)).mono ?_
  rw [knF2_add]
  rintro e w3 ⟨⟨g, v, rfl, hF⟩, L5⟩
  have L6 := stepW LV L5
  have B6 := BV.belowW L5
  go_wp2_with fail
  refine (frm_Of 1 (some ⟨g, 0, none⟩) knF2 w3 (.inr ⟨g, rfl, hF.rd⟩) (by decide) knF2_sz (hm.below L6 (Nat.le_refl _))).mono ?_
  rw [show decide ((1 : Int) ≤ 1) = true from rfl, knF2_frm, howR_mk]
  rintro e w4 ⟨rfl, L7⟩
  have L8 := stepW L6 L7
  have B8 := B6.belowW L7
  have hne : ¬ w2.heap.size = w4.heap.size := by have := B8.lt; omega
  obtain ⟨j0, j1, j2, j3, -, -, -, -⟩ := (B8.alloc (.cells (howC how0) 44)).c4
  clear LU BU LV BV L5 L6 B6 L7 hF
  go_wp2
  go_ret
  exact ⟨rfl, allocW L8 _⟩
theorem FR.drewN {w : World} {T : TypeId} {g : Nat} {l : List Fd} (h : FR w T g l) (n : Nat) : FR (w.drewN n) T g l := by
  obtain ⟨A, c, h1, h2, h3⟩ := h
  exact ⟨A, c, h1.drewN n, h2, h3.drewN n⟩
theorem law12_of (minor : Int) (A : Option Addr) (n c B : Nat) (l : List Fd) (w : World) (hA : Rd w B 2 A n (fcells l)) (hB : B ≤ w.heap.size) (hsz : FdSz l) (hn : n ≤ 140737488355328) (hm : ML w) (hm0 : -9223372036854775808 ≤ minor) (hm1 : minor ≤ 9223372036854775807) :
    Calls Tryz.prog 19 #[.int .i64 minor, .slice A n c] w fun e w' => e = .returned (.bool true) ∧ Below w.heap.size w w' := by
  have hal := addL_len l [] 0 (by decide)
  have haz := addL_sz l [] 0 (by unfold FdSz; simp) hsz
  go_enter Tryz.func19, Tryz.ntmps19
  go_wp2_with fail
  refine (fld_Of n c A l w (hA.more hB) hsz hn).mono ?_
  rintro e w1 ⟨⟨g, v, rfl, hF⟩, L1⟩
  go_wp2_with fail
  obtain ⟨V, hV⟩ : ∃ V, V = w1.alloc (.cells #[.slice none 0 0] 77) := ⟨_, rfl⟩
  rw [← hV]
  have LV : Below w1.heap.size w1 V := by rw [hV]; exact allocW (Below.refl _ _) _
  have BV : Blk V w1.heap.size 77 #[.slice none 0 0] := by rw [hV]; exact Blk.new' _ _ rfl _ _
  clear hV
  have hX : FA V 77 w1.heap.size w1.heap.size (.slice none 0 0) [] := ⟨BV, OF.nil _ _, Nat.le_refl _, by simp [Value.ownBlock]⟩
  have hA2 := (hA.belowW hB L1).belowW (Nat.le_trans hB L1.size) LV
  have hS : ∀ i, FS w1.heap.size (.slice none 0 0) i → w1.heap.size ≤ i := by
    intro i hi
    rcases hi with h | h
    · omega
    · simp [Value.ownBlock] at h
  refine (ref10_Add w1.heap.size w1.heap.size n c B A (.slice none 0 0) [] l V hX hA2 (Nat.le_trans hB (Nat.le_trans L1.size LV.size)) (hA2.off fun i hi => Nat.le_trans (Nat.le_trans hB L1.size) (hS i hi)) hsz (Nat.zero_le _) LV.size hn).mono ?_
  rintro e w2 ⟨rfl, ⟨v2, hX2, -⟩, hfr⟩
  have L2 : Below w1.heap.size w1 w2 := LV.trans (hfr.toBelow LV.size hS)
  have K2 := stepW L1 L2
  have hF2 := hF.rd.belowW L2
  have hX3 := hX2.rd
  unfold addV
  generalize hq : (addL [] l 0).1 = q at *
  clear hF hX2 hfr hS hA2 hX BV LV hA
  go_wp2_with fail
  refine (frm_Of minor (some ⟨g, 0, none⟩) q w2 (.inr ⟨g, rfl, hF2⟩) hal.1 haz (hm.below K2 (Nat.le_refl _))).mono ?_
  obtain ⟨k, st, hk⟩ : ∃ k st, frmL (decide (1 ≤ minor)) q = (k, st) := ⟨_, _, rfl⟩
  have HK := Lib.hid hk
  rw [hk, howR_mk]
  clear hk
  rintro e w3 ⟨rfl, L3⟩
  have K3 := stepW K2 L3
  go_wp2_with fail
  obtain ⟨V, hV⟩ : ∃ V, V = w3.alloc (.cells (howC k) 44) := ⟨_, rfl⟩
  rw [show (Obj.cells #[Value.int IntKind.i64 k.kind, Value.int IntKind.i64 k.len, Value.bool k.close, Value.bool k.expect] 44) = .cells (howC k) 44 from rfl, ← hV]
  have LV : Below w3.heap.size w3 V := by rw [hV]; exact allocW (Below.refl _ _) _
  have BV : Blk V w3.heap.size 44 (howC k) := by rw [hV]; exact Blk.new' _ _ rfl _ _
  clear hV
  have K4 := stepW K3 LV
  have hF4 := (hF2.belowW L3).belowW LV
  have hX4 := (hX3.belowW L3).belowW LV
  refine (r12_Of minor (some ⟨w1.heap.size, 0, none⟩) q V (.inr ⟨_, rfl, hX4⟩) hal.1 haz hm0 hm1).mono ?_
  rw [HK.out, howR_mk]
  rintro e w4 ⟨rfl, L4⟩
  have K5 := stepW K4 L4
  have B5 := BV.belowW L4
  have hF5 := hF4.belowW L4
  have hX5 := hX4.belowW L4
  have LW : Below w4.heap.size w4 (w4.alloc (.cells (howC k) 49)) := allocW (Below.refl _ _) _
  have BW : Blk (w4.alloc (.cells (howC k) 49)) w4.heap.size 49 (howC k) := Blk.new' _ _ rfl _ _
  have hne : ¬ w3.heap.size = w4.heap.size := by have := B5.lt; omega
  have hne2 : ¬ w1.heap.size = w4.heap.size := by
    obtain ⟨A', c', h, -⟩ := hX5
    have := h.lt
    omega
  have K6 := stepW K5 LW
  have B6 := B5.belowW LW
  have hF6 := hF5.belowW LW
  have hX6 := hX5.belowW LW
  clear hF2 hX3 L3 K3 LV BV K4 hF4 hX4 L4 K5 B5 hF5 hX5 LW L1 L2 K2
  go_wp2_with fail
  obtain ⟨W, hW⟩ : ∃ W, W = w4.alloc (.cells (howC k) 49) := ⟨_, rfl⟩
  rw [show (Obj.cells #[Value.int IntKind.i64 k.kind, Value.int IntKind.i64 k.len, Value.bool k.close, Value.bool k.expect] 49) = .cells (howC k) 49 from rfl, ← hW]
  rw [← hW] at K6 B6 BW hF6 hX6
  clear hW
  obtain ⟨j0, j1, j2, j3, -, -, -, -⟩ := B6.c4
  obtain ⟨m0, m1, m2, m3, -, -, -, -⟩ := BW.c4
  have hX7 := hX6
  obtain ⟨A', c', hXb, hXc, -⟩ := hX7
  obtain ⟨x0, -⟩ := hXb.c1
  have kq := fun w : World => run_eql_how k k w
  rw [show howEq k k = true by simp [howEq]] at kq
  have kg := fun (o : Operand) (o' : Operand) (xs ys : Array Value) (w : World) => run_guard_how .eql o o' xs ys w
  go_quiet ((go_at_call 54; exact quiet_lf (fld_Len g q _ (hF6.drewN _))))
  go_wp2
  go_ret
  exact ⟨rfl, below_drewN' K6 _⟩
end Go.Proofs.YtfpojnijjpojlaaGreatDoor

/- The law TargetPrints. -/
import Derived.Test.YtfpojnijjpojlaaGreatDoorPrint
import Derived.Test.YtfpojnijjpojlaaGreatDoorTKnown
namespace Go.Proofs.YtfpojnijjpojlaaGreatDoor
open Go.RowKit
set_option maxRecDepth 100000
set_option maxHeartbeats 2000000

theorem law_Prints (f : Int) (h p q : ByteArray) (w : World) (b3 : h.size ≤ 140737488355328) (b1 : p.size ≤ 140737488355328) (b2 : q.size ≤ 140737488355328) (hm : ML w) :
    Calls Tryz.prog 4 #[.agg #[.int .i64 f, .string h, .string p, .string q]] w fun e w' => e = .returned (.bool true) ∧ Below w.heap.size w w' := by
  have LW : Below w.heap.size w (w.alloc (.cells #[.int .i64 f, .string h, .string p, .string q] 23)) := allocW (Below.refl _ _) _
  have B1 : Blk (w.alloc (.cells #[.int .i64 f, .string h, .string p, .string q] 23)) w.heap.size 23 #[.int .i64 f, .string h, .string p, .string q] := Blk.new' _ _ rfl _ _
  obtain ⟨j0, j1, j2, j3, i0, i1, i2, i3⟩ := B1.c4
  have hm1 := hm.below LW (Nat.le_refl _)
  go_enter Tryz.func4, Tryz.ntmps4
  by_cases hbig : 2000 < h.size + p.size + q.size
  · go_wp2
    go_ret
    exact ⟨rfl, LW⟩
  · go_wp2_with fail
    obtain ⟨V, hV⟩ : ∃ V, V = w.alloc (.cells #[.int .i64 f, .string h, .string p, .string q] 23) := ⟨_, rfl⟩
    rw [← hV] at B1 LW hm1 ⊢
    clear j0 j1 j2 j3 i0 i1 i2 i3 hV
    refine (tgt_Print f h p q V hm1 (by omega) (by omega) (by omega)).mono ?_
    have HR : ∃ t er, printL ⟨f, h.data.toList, p.data.toList, q.data.toList⟩ = (t, er) := ⟨_, _, rfl⟩
    obtain ⟨t, er, hr⟩ := HR
    have HR := Lib.hid hr
    rw [hr]
    clear hr
    unfold printV sv
    rintro e w2 ⟨rfl, L2⟩
    have B2 := B1.belowW L2
    have K2 := stepW LW L2
    obtain ⟨j0, j1, j2, j3, i0, i1, i2, i3⟩ := B2.c4
    go_wp2_with fail
    refine (ref11_Print f h p q w2).mono ?_
    rw [HR.out]
    unfold printV sv
    rintro e w3 ⟨rfl, L3⟩
    have K3 := stepW K2 L3
    clear B1 B2 HR
    go_wp2_with fail
    refine (law11_known _ (hm.below K3 (Nat.le_refl _))).mono ?_
    rintro e w4 ⟨rfl, L4⟩
    go_wp2
    go_ret
    exact ⟨rfl, stepW K3 L4⟩
end Go.Proofs.YtfpojnijjpojlaaGreatDoor

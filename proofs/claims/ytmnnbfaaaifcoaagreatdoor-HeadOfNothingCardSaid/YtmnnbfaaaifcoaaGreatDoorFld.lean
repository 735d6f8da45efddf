/- field: isOne, Add, Of. -/
import Derived.Test.YtmnnbfaaaifcoaaGreatDoorAppF
import Derived.Deep.QuietTactic
import Derived.BigQuiet
import Derived.Deep.RegionWith
namespace Go.Proofs.YtmnnbfaaaifcoaaGreatDoor
open Go.RowKit
set_option maxRecDepth 100000
set_option maxHeartbeats 2000000

theorem fsz_max {n : Nat} (h : n ≤ 1000000) : n ≤ maxLen := by unfold maxLen; omega
theorem fld_isOne (f : Fd) (w : World) (h1 : f.1.length ≤ 1000000) (h2 : f.2.length ≤ 1000000) :
    Calls Tryz.prog 117 #[.agg #[sv f.1, sv f.2]] w fun e w' => e = .returned (.bool (isF f)) ∧ Below w.heap.size w w' := by
  have e1 : (⟨f.1.toArray⟩ : ByteArray).data.toList = f.1 := rfl
  have e2 : (⟨f.2.toArray⟩ : ByteArray).data.toList = f.2 := rfl
  have hT := fun w => asc_IsToken ⟨f.1.toArray⟩ w (fsz_max h1)
  have hV := fun w => asc_IsValue ⟨f.2.toArray⟩ w (fsz_max h2)
  have hM := fun w => asc_Trim ⟨f.2.toArray⟩ w (fsz_max h2)
  rw [e1, show (allT f.1 && decide (0 < f.1.length)) = tkL f.1 from rfl] at hT
  rw [e2] at hV hM
  have LW : Below w.heap.size w (w.alloc (.cells #[sv f.1, sv f.2] 49)) := allocW (Below.refl _ _) _
  have B1 : Blk (w.alloc (.cells #[sv f.1, sv f.2] 49)) w.heap.size 49 #[sv f.1, sv f.2] := Blk.new' _ _ rfl _ _
  cases t1 : tkL f.1
  · have HR := Lib.hid (show isF f = false by rw [isF, t1]; rfl)
    rw [t1] at hT
    go_enter Tryz.func117, Tryz.ntmps117
    go_wp2_with fail
    obtain ⟨V, hV'⟩ : ∃ V, V = w.alloc (.cells #[sv f.1, sv f.2] 49) := ⟨_, rfl⟩
    rw [← hV'] at B1 LW ⊢
    obtain ⟨j0, j1, i0, i1⟩ := B1.c2
    clear hV'
    go_quiet ((go_at_call 69; exact quiet_lf (hT _)))
    go_wp2
    go_ret
    exact ⟨by rw [HR.out]; rfl, below_drewN' LW _⟩
  · rw [t1] at hT
    cases t2 : allV f.2
    · have HR := Lib.hid (show isF f = false by rw [isF, t1, t2]; rfl)
      rw [t2] at hV
      clear t1 t2
      go_enter Tryz.func117, Tryz.ntmps117
      go_wp2_with fail
      obtain ⟨V, hV'⟩ : ∃ V, V = w.alloc (.cells #[sv f.1, sv f.2] 49) := ⟨_, rfl⟩
      rw [← hV'] at B1 LW ⊢
      obtain ⟨j0, j1, i0, i1⟩ := B1.c2
      clear hV'
      go_quiet ((first | (go_at_call 69; exact quiet_lf (hT _)) | (go_at_call 147; exact quiet_lf (hV _))))
      go_wp2
      go_ret
      exact ⟨by rw [HR.out]; rfl, below_drewN' LW _⟩
    · have HR := Lib.hid (show isF f = decide (trimL f.2 = f.2) by rw [isF, t1, t2]; rfl)
      rw [t2] at hV
      clear t1 t2
      go_enter Tryz.func117, Tryz.ntmps117
      go_wp2_with fail
      obtain ⟨V, hV'⟩ : ∃ V, V = w.alloc (.cells #[sv f.1, sv f.2] 49) := ⟨_, rfl⟩
      rw [← hV'] at B1 LW ⊢
      obtain ⟨j0, j1, i0, i1⟩ := B1.c2
      clear hV'
      go_region_with (first | (go_at_call 69; refine (hT _).mono ?_; rintro e w' ⟨rfl, rfl⟩) | (go_at_call 147; refine (hV _).mono ?_; rintro e w' ⟨rfl, rfl⟩) | (go_at_call 116; refine (hM _).mono ?_; rintro e w5 ⟨rfl, L5⟩; obtain ⟨k0, k1, g0, g1⟩ := (Blk.belowW B1.drew L5).c2; have L6 := stepW (below_drewN' LW 1) L5))
      all_goals
        go_wp2
        refine bodyPost_ret (v := .bool (decide (trimL f.2 = f.2))) ?_ rfl ⟨by rw [HR.out], L6⟩
        simp [results, Tryz.results117, go_sem]
        rw [Bool.eq_iff_iff, beq_iff_eq, decide_eq_true_eq]
end Go.Proofs.YtmnnbfaaaifcoaaGreatDoor

/- The law ParseOfNothing. -/
import Derived.Test.YtdajfajnkikmdaaGreatDoorTk15
namespace Go.Proofs.YtdajfajnkikmdaaGreatDoor
open Go.RowKit
set_option maxRecDepth 100000
set_option maxHeartbeats 4000000

theorem law_Nothing15 (A : Option Addr) (n c : Nat) (w : World) (hm : ML w) :
    Calls Tryz.prog 8 #[.slice A n c] w fun e w' => e = .returned (.bool true) ∧ Below w.heap.size w w' := by
  by_cases hb : 6000 < n
  · go_enter Tryz.func8, Tryz.ntmps8
    go_wp2
    go_ret
    exact ⟨rfl, Below.refl _ _⟩
  · have hle : n ≤ 6000 := by omega
    have hR := fun w => law_request15 rq0 none none none none 0 0 0 0 w (rq0_r w) (rq0_r w) (by decide) (by decide)
    clear hb
    go_enter Tryz.func8, Tryz.ntmps8
    go_wp2_with fail
    refine (prs_Take_nil w).mono ?_
    rintro e w1 ⟨rfl, L1⟩
    go_wp2_with fail
    refine (prs_Feed_nil _ _ _ _).mono ?_
    rintro e w2 ⟨rfl, rfl⟩
    go_wp2_with fail
    refine (prs_Phase_nil _).mono ?_
    rintro e w2 ⟨rfl, rfl⟩
    go_wp2_with fail
    refine (prs_Status_nil _).mono ?_
    rintro e w2 ⟨rfl, rfl⟩
    go_wp2_with fail
    refine (hR _).mono ?_
    rintro e w3 ⟨rfl, L3⟩
    have L3' := stepW (allocW (allocW L1 _) _) L3
    go_wp2_with fail
    refine (prs_Waits_nil _).mono ?_
    rintro e w4 ⟨rfl, rfl⟩
    go_wp2_with fail
    refine (law_known15 _ (hm.below L3' (Nat.le_refl _))).mono ?_
    rintro e w5 ⟨rfl, L5⟩
    go_wp2
    go_ret
    exact ⟨rfl, stepW L3' L5⟩
end Go.Proofs.YtdajfajnkikmdaaGreatDoor

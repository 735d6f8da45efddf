/- The law ChunkOfNothing. -/
import Derived.Test.YtfapnppgbhlidaaDoorKLaw
namespace Go.Proofs.YtfapnppgbhlidaaDoor
open Go.RowKit
set_option maxRecDepth 100000
set_option maxHeartbeats 4000000

theorem law_OfNothing (A : Option Addr) (n c : Nat) (w : World) (hm : ML w) (ht : TZ w) :
    Calls Tryd.prog 6 #[.slice A n c] w fun e w' => e = .returned (.bool true) ∧ Below w.heap.size w w' := by
  by_cases hb : 4000 < n
  · go_enter Tryd.func6, Tryd.ntmps6
    go_wp2
    go_ret
    exact ⟨rfl, Below.refl _ _⟩
  · have hle : n ≤ 4000 := by omega
    clear hb
    go_enter Tryd.func6, Tryd.ntmps6
    go_wp2_with fail
    refine (chk_nil A n c w).mono ?_
    rintro e w1 ⟨rfl, rfl⟩
    go_wp2_with fail
    refine (chk_Body_nil w).mono ?_
    rintro e w1 ⟨rfl, rfl⟩
    go_wp2_with fail
    refine (chk_Trailers_nil w).mono ?_
    rintro e w1 ⟨rfl, rfl⟩
    go_wp2_with fail
    refine (law_known14 w hm ht).mono ?_
    rintro e w1 ⟨rfl, L⟩
    go_wp2
    go_ret
    exact ⟨rfl, L⟩
end Go.Proofs.YtfapnppgbhlidaaDoor

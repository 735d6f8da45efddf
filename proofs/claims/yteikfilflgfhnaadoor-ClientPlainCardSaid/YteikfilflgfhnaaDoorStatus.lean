/- status: what numbers say. -/
import Derived.Test.YteikfilflgfhnaaDoorAscii2
namespace Go.Proofs.YteikfilflgfhnaaDoor
open Go.RowKit

def phraseL (c : Int) : Bs :=
  if (c == 100) = true then [67, 111, 110, 116, 105, 110, 117, 101] else
  if (c == 200) = true then [79, 75] else
  if (c == 204) = true then [78, 111, 32, 67, 111, 110, 116, 101, 110, 116] else
  if (c == 304) = true then [78, 111, 116, 32, 77, 111, 100, 105, 102, 105, 101, 100] else
  if (c == 400) = true then [66, 97, 100, 32, 82, 101, 113, 117, 101, 115, 116] else
  if (c == 404) = true then [78, 111, 116, 32, 70, 111, 117, 110, 100] else
  if (c == 405) = true then [77, 101, 116, 104, 111, 100, 32, 78, 111, 116, 32, 65, 108, 108, 111, 119, 101, 100] else
  if (c == 408) = true then [82, 101, 113, 117, 101, 115, 116, 32, 84, 105, 109, 101, 111, 117, 116] else
  if (c == 413) = true then [67, 111, 110, 116, 101, 110, 116, 32, 84, 111, 111, 32, 76, 97, 114, 103, 101] else
  if (c == 414) = true then [85, 82, 73, 32, 84, 111, 111, 32, 76, 111, 110, 103] else
  if (c == 417) = true then [69, 120, 112, 101, 99, 116, 97, 116, 105, 111, 110, 32, 70, 97, 105, 108, 101, 100] else
  if (c == 431) = true then [82, 101, 113, 117, 101, 115, 116, 32, 72, 101, 97, 100, 101, 114, 32, 70, 105, 101, 108, 100, 115, 32, 84, 111, 111, 32, 76, 97, 114, 103, 101] else
  if (c == 501) = true then [78, 111, 116, 32, 73, 109, 112, 108, 101, 109, 101, 110, 116, 101, 100] else
  if (c == 503) = true then [83, 101, 114, 118, 105, 99, 101, 32, 85, 110, 97, 118, 97, 105, 108, 97, 98, 108, 101] else
  if (c == 505) = true then [72, 84, 84, 80, 32, 86, 101, 114, 115, 105, 111, 110, 32, 78, 111, 116, 32, 83, 117, 112, 112, 111, 114, 116, 101, 100] else
  [83, 116, 97, 116, 117, 115]

set_option maxHeartbeats 1000000 in
theorem sta_Phrase (c : Int) (w : World) :
    Calls Tryd.prog 24 #[.int .i64 c] w fun e w' => e = .returned (sv (phraseL c)) ∧ w = w' := by
  go_enter Tryd.func24, Tryd.ntmps24
  go_wp2
  all_goals (go_ret; exact ⟨retS (by simp [phraseL, *]), rfl⟩)

set_option maxHeartbeats 1000000 in
theorem ref_Phrase (c : Int) (w : World) :
    Calls Tryd.prog 25 #[.int .i64 c] w fun e w' => e = .returned (sv (phraseL c)) ∧ w = w' := by
  go_enter Tryd.func25, Tryd.ntmps25
  go_wp2
  all_goals (go_ret; exact ⟨retS (by simp [phraseL, *]), rfl⟩)

def noBody (c : Int) : Bool := c == 204 || c == 304 || (100 ≤ c && c ≤ 199)

set_option maxHeartbeats 400000 in
theorem sta_NoBody (c : Int) (w : World) :
    Calls Tryd.prog 26 #[.int .i64 c] w fun e w' => e = .returned (.bool (noBody c)) ∧ w = w' := by
  go_enter Tryd.func26, Tryd.ntmps26
  go_wp2
  all_goals (go_ret; exact ⟨retB (by rw [Bool.eq_iff_iff]; simp [noBody]; try omega), rfl⟩)

set_option maxHeartbeats 400000 in
theorem ref_NoBody (c : Int) (w : World) :
    Calls Tryd.prog 27 #[.int .i64 c] w fun e w' => e = .returned (.bool (noBody c)) ∧ w = w' := by
  go_enter Tryd.func27, Tryd.ntmps27
  go_wp2
  all_goals (go_ret; exact ⟨retB (by rw [Bool.eq_iff_iff]; simp [noBody]; try omega), rfl⟩)
end Go.Proofs.YteikfilflgfhnaaDoor

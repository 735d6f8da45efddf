/- chunk: a Reader in memory; a byte that is taken. -/
import Derived.Test.YtmjekdnfkgalbaaGreatDoorFPl
import Derived.Test.YtmjekdnfkgalbaaGreatDoorNum
namespace Go.Proofs.YtmjekdnfkgalbaaGreatDoor
open Go.RowKit
set_option maxRecDepth 100000
set_option maxHeartbeats 4000000

def kCells (r : CS) (vl vb vt : Value) : Array Value := #[.int .i64 r.place, vl, .int .i64 r.left, vb, vt, .int .i64 r.ends, .bool r.whole, .int .i64 r.status]
theorem u8ne {c d : UInt8} (h : c ≠ d) {n : Int} (hn : (d.toNat : Int) = n) : ((c.toNat : Int) == n) = false := by
  rw [Bool.eq_false_iff]
  intro h2
  rw [beq_iff_eq] at h2
  exact h (u8inj (by omega))
theorem arr_size : (Tryz.prog.info? 5).map (·.size) = some 1 := by kernel_rfl
/-- A line is refused that has more than so many bytes. -/
def cLim (r : CS) (n : Nat) : CS := if r.place = 0 ∧ 64 < n then { r with status := 400 } else if r.place = 3 ∧ (256 < n ∨ 512 < r.ends + n) then { r with status := 431 } else r
end Go.Proofs.YtmjekdnfkgalbaaGreatDoor

/- The functions of usherref1: what each returns. -/
import Derived.Test.YtfpojnijjpojlaaDoorProg
import Derived.Test.YtfpojnijjpojlaaDoorPlain
import Derived.WalkSpells
import Derived.WalkLawsBesides
namespace Go.Proofs.YtfpojnijjpojlaaDoor
open Go.RowKit

def lowB (c : Int) : Int := if 65 ≤ c ∧ c ≤ 90 then c + 32 else c
def alnumB (c : Int) : Bool := (97 ≤ c && c ≤ 122) || (65 ≤ c && c ≤ 90) || (48 ≤ c && c ≤ 57)
def valueB (c : Int) : Bool := c == 9 || (32 ≤ c && c != 127)
def inL (c : Int) (l : Bs) : Bool := l.any fun b => (b.toNat : Int) == c
def signs : Bs := [33, 35, 36, 37, 38, 39, 42, 43, 45, 46, 94, 95, 96, 124, 126]
def tokB (c : Int) : Bool := alnumB c || inL c signs
def allT (l : Bs) : Bool := l.all fun b => tokB b.toNat
def allV (l : Bs) : Bool := l.all fun b => valueB b.toNat
def digB (c : Int) : Int := if 48 ≤ c ∧ c ≤ 57 then c - 48 else if 97 ≤ lowB c ∧ lowB c ≤ 102 then lowB c - 87 else -1

set_option maxHeartbeats 400000 in
theorem ref_lower (c : Int) (w : World) (h0 : 0 ≤ c) (h1 : c ≤ 255) :
    Calls Tryd.prog 32 #[.int .u8 c] w fun e w' => e = .returned (.int .u8 (lowB c)) ∧ w = w' := by
  go_enter Tryd.func32, Tryd.ntmps32
  go_wp2
  all_goals (go_ret; exact ⟨retI (by unfold lowB; split <;> omega), rfl⟩)

set_option maxHeartbeats 400000 in
theorem ref_Alnum (c : Int) (w : World) (h0 : 0 ≤ c) (h1 : c ≤ 255) :
    Calls Tryd.prog 23 #[.int .u8 c] w fun e w' => e = .returned (.bool (alnumB c)) ∧ w = w' := by
  go_enter Tryd.func23, Tryd.ntmps23
  go_wp2
  all_goals (go_ret; exact ⟨retB (by rw [Bool.eq_iff_iff]; simp [alnumB]; omega), rfl⟩)

set_option maxHeartbeats 400000 in
theorem ref_Digit (c : Int) (w : World) (h0 : 0 ≤ c) (h1 : c ≤ 255) :
    Calls Tryd.prog 18 #[.int .u8 c] w fun e w' => e = .returned (.int .i64 (digB c)) ∧ w = w' := by
  have hl0 : 0 ≤ lowB c := by unfold lowB; split <;> omega
  have hl1 : lowB c ≤ 255 := by unfold lowB; split <;> omega
  go_enter Tryd.func18, Tryd.ntmps18
  go_wp2_with (go_at_call 32; refine (ref_lower _ _ h0 h1).mono ?_; rintro e w' ⟨rfl, rfl⟩)
  all_goals (go_ret; exact ⟨retI (by unfold digB; split <;> (try split) <;> omega), rfl⟩)

def isB (b : UInt8) : Bool := b == 9 || b == 32
def trimF (l : Bs) : Bs := l.dropWhile isB
def trimE (l : Bs) : Bs := (l.reverse.dropWhile isB).reverse
def trimL (l : Bs) : Bs := trimE (trimF l)
theorem isB_num (b : UInt8) : isB b = ((b.toNat : Int) == 9 || (b.toNat : Int) == 32) := by
  have h1 : (b == 9) = ((b.toNat : Int) == 9) := by rw [Bool.eq_iff_iff]; simp [← UInt8.toNat_inj]; omega
  have h2 : (b == 32) = ((b.toNat : Int) == 32) := by rw [Bool.eq_iff_iff]; simp [← UInt8.toNat_inj]; omega
  rw [isB, h1, h2]
theorem trimE_snoc (l : Bs) (b : UInt8) : trimE (l ++ [b]) = if isB b then trimE l else l ++ [b] := by
  unfold trimE
  rw [List.reverse_append]
  simp only [List.reverse_cons, List.reverse_nil, List.nil_append, List.cons_append, List.dropWhile_cons]
  split <;> simp

end Go.Proofs.YtfpojnijjpojlaaDoor

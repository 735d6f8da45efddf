/- status: what numbers say. status.Canned and what it is held against. -/
import Derived.Test.YtmjekdnfkgalbaaGreatDoorAscii
import Derived.Test.YtmjekdnfkgalbaaGreatDoorPlain
namespace Go.Proofs.YtmjekdnfkgalbaaGreatDoor
open Go.RowKit

def phraseL (c : Int) : Bs :=
  if (c == 100) = true then [67, 111, 110, 116, 105, 110, 117, 101] else
  if (c == 200) = true then [79, 75] else
  if (c == 204) = true then [78, 111, 32, 67, 111, 110, 116, 101, 110, 116] else
  if (c == 304) = true then [78, 111, 116, 32, 77, 111, 100, 105, 102, 105, 101, 100] else
  if (c == 400) = true then [66, 97, 100, 32, 82, 101, 113, 117, 101, 115, 116] else
  if (c == 404) = true then [78, 111, 116, 32, 70, 111, 117, 110, 100] else
  if (c == 405) = true then [77, 101, 116, 104, 111, 100, 32, 78, 111, 116, 32, 65, 108, 108, 111, 119, 101, 100] else
  if (c == 408) = true then [82, 101, 113, 117, 101, 115, 116, 32, 84, 105, 109, 101, 111, 117, 116] else
  if (c == 413) = true then [67, 111, 110, 116, 101, 110, 116, 32, 84, 111, 111, 32, 76, 97, 114, 103, 101] else
  if (c == 414) = true then [85, 82, 73, 32, 84, 111, 111, 32, 76, 111, 110, 103] else
  if (c == 417) = true then [69, 120, 112, 101, 99, 116, 97, 116, 105, 111, 110, 32, 70, 97, 105, 108, 101, 100] else
  if (c == 431) = true then [82, 101, 113, 117, 101, 115, 116, 32, 72, 101, 97, 100, 101, 114, 32, 70, 105, 101, 108, 100, 115, 32, 84, 111, 111, 32, 76, 97, 114, 103, 101] else
  if (c == 501) = true then [78, 111, 116, 32, 73, 109, 112, 108, 101, 109, 101, 110, 116, 101, 100] else
  if (c == 503) = true then [83, 101, 114, 118, 105, 99, 101, 32, 85, 110, 97, 118, 97, 105, 108, 97, 98, 108, 101] else
  if (c == 505) = true then [72, 84, 84, 80, 32, 86, 101, 114, 115, 105, 111, 110, 32, 78, 111, 116, 32, 83, 117, 112, 112, 111, 114, 116, 101, 100] else
  [83, 116, 97, 116, 117, 115]

set_option maxHeartbeats 1000000 in
theorem sta_Phrase (c : Int) (w : World) :
    Calls Tryz.prog 46 #[.int .i64 c] w fun e w' => e = .returned (sv (phraseL c)) ∧ w = w' := by
  go_enter Tryz.func46, Tryz.ntmps46
  go_wp2
  all_goals (go_ret; exact ⟨retS (by simp [phraseL, *]), rfl⟩)

set_option maxHeartbeats 1000000 in
theorem ref_Phrase (c : Int) (w : World) :
    Calls Tryz.prog 29 #[.int .i64 c] w fun e w' => e = .returned (sv (phraseL c)) ∧ w = w' := by
  go_enter Tryz.func29, Tryz.ntmps29
  go_wp2
  all_goals (go_ret; exact ⟨retS (by simp [phraseL, *]), rfl⟩)

def noBody (c : Int) : Bool := c == 204 || c == 304 || (100 ≤ c && c ≤ 199)

set_option maxHeartbeats 400000 in
theorem sta_NoBody (c : Int) (w : World) :
    Calls Tryz.prog 47 #[.int .i64 c] w fun e w' => e = .returned (.bool (noBody c)) ∧ w = w' := by
  go_enter Tryz.func47, Tryz.ntmps47
  go_wp2
  all_goals (go_ret; exact ⟨retB (by rw [Bool.eq_iff_iff]; simp [noBody]; try omega), rfl⟩)

set_option maxHeartbeats 400000 in
theorem ref_NoBody (c : Int) (w : World) :
    Calls Tryz.prog 30 #[.int .i64 c] w fun e w' => e = .returned (.bool (noBody c)) ∧ w = w' := by
  go_enter Tryz.func30, Tryz.ntmps30
  go_wp2
  all_goals (go_ret; exact ⟨retB (by rw [Bool.eq_iff_iff]; simp [noBody]; try omega), rfl⟩)
end Go.Proofs.YtmjekdnfkgalbaaGreatDoor
namespace Go.Proofs.YtmjekdnfkgalbaaGreatDoor
open Go.RowKit
set_option maxRecDepth 100000
set_option maxHeartbeats 1000000

/-- A field: its name and its value. -/
abbrev Fd := Bs × Bs
/-- Fields as cells. -/
def fcells (l : List Fd) : List Value := l.flatMap fun f => [sv f.1, sv f.2]
theorem fcells_len (l : List Fd) : (fcells l).length = l.length * 2 := by
  induction l with
  | nil => rfl
  | cons f l ih => simp only [fcells, List.flatMap_cons, List.length_append, List.length_cons, List.length_nil] at ih ⊢; omega
theorem fcells_app (a b : List Fd) : fcells (a ++ b) = fcells a ++ fcells b := by simp [fcells]
theorem fcells_one (l : List Fd) : ∀ u ∈ fcells l, u.oneCell' = true := by
  intro u hu
  simp only [fcells, List.mem_flatMap] at hu
  obtain ⟨f, _, hf⟩ := hu
  simp at hf
  rcases hf with rfl | rfl <;> rfl
theorem info_fd : (Tryz.prog.info? 58).map (fun i => (i.zero, i.size, i.bytes)) = some (some (.agg #[.string ⟨#[]⟩, .string ⟨#[]⟩]), 2, 32) := by kernel_rfl

def ctF : Fd := ([67, 111, 110, 116, 101, 110, 116, 45, 84, 121, 112, 101], [116, 101, 120, 116, 47, 112, 108, 97, 105, 110])
def cannedF (c : Int) (l : List Fd) : List Fd := (if noBody c then [] else [ctF]) ++ l
def cannedB (c : Int) : Bs := if noBody c then [] else digs 10 c.toNat ++ [32] ++ phraseL c ++ [10]

/-- A response in memory. -/
def RespIs (w : World) (B : Nat) (v : Value) (st : Int) (fs : List Fd) (body : Bs) : Prop :=
  ∃ Af nf cf Ab nb cb, v = .agg #[.int .i64 st, .slice Af nf cf, .slice Ab nb cb, .slice none 0 0] ∧ Rd w B 2 Af nf (fcells fs) ∧ Rd w B 1 Ab nb (body.map bv) ∧ nf ≤ cf ∧ nb ≤ cb
def RespPost (w : World) (st : Int) (fs : List Fd) (body : Bs) (e : Ending) (w' : World) : Prop := ∃ v, e = .returned v ∧ RespIs w' w'.heap.size v st fs body ∧ Below w.heap.size w w'
theorem digs_len (b : Nat) (hb : 2 ≤ b) : ∀ (k u : Nat), u < b ^ (k + 1) → (digs b u).length ≤ k + 1
  | 0, u, h => by rw [digs_step b u hb, if_pos (Nat.div_eq_of_lt (by simpa using h))]; simp
  | k + 1, u, h => by
    rw [digs_step b u hb]
    split
    · simp
    · have := digs_len b hb k (u / b) (Nat.div_lt_of_lt_mul (by rwa [Nat.pow_succ, Nat.mul_comm] at h))
      simp; omega
theorem digs10_len (u : Nat) (h : u ≤ 9223372036854775807) : (digs 10 u).length ≤ 19 := digs_len 10 (by omega) 18 u (by omega)
theorem phrase_len (c : Int) : (phraseL c).length ≤ 31 := by
  unfold phraseL
  iterate 15 refine ite_prop (Q := fun l : Bs => l.length ≤ 31) (by decide) ?_
  decide
end Go.Proofs.YtmjekdnfkgalbaaGreatDoor

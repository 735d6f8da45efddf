/- usherlaw12: heavy, FramingOf. -/
import Derived.Test.YtfpojnijjpojlaaGreatDoorFLaw1
import Derived.Test.YtfpojnijjpojlaaGreatDoorOpen
namespace Go.Proofs.YtfpojnijjpojlaaGreatDoor
open Go.RowKit
set_option maxRecDepth 100000
set_option maxHeartbeats 4000000

def fsum : List Fd → Nat
  | [] => 0
  | f :: l => 5 + f.1.length + f.2.length + fsum l
theorem fsum_app (a b : List Fd) : fsum (a ++ b) = fsum a + fsum b := by
  induction a with
  | nil => simp [fsum]
  | cons f a ih => simp only [List.cons_append, fsum, ih]; omega
theorem fsum_one (l : List Fd) (k : Nat) (x : Fd) (h : l[k]? = some x) : fsum (l.take (k + 1)) = fsum (l.take k) + (5 + x.1.length + x.2.length) := by
  rw [List.take_add_one, h, Option.toList_some, fsum_app]; simp [fsum]
theorem fsum_len (l : List Fd) : l.length * 5 ≤ fsum l := by
  induction l with
  | nil => simp
  | cons f l ih => simp only [List.length_cons, fsum]; omega
theorem fsum_mem : ∀ (l : List Fd) (f : Fd), f ∈ l → f.1.length ≤ fsum l ∧ f.2.length ≤ fsum l
  | g :: l, f, h => by
    rw [fsum]
    rcases List.mem_cons.1 h with rfl | h
    · omega
    · have := fsum_mem l f h; omega
theorem law12_heavy (A : Option Addr) (n cp : Nat) (l : List Fd) (w : World) (hA : Rd w w.heap.size 2 A n (fcells l)) (hl : ∀ f ∈ l, f.1.length ≤ 140737488355328 ∧ f.2.length ≤ 140737488355328) (hn : n ≤ maxLen) :
    Calls Tryz.prog 17 #[.slice A n cp] w fun e w' => (∃ b, e = .returned (.bool b) ∧ (b = false → fsum l ≤ 3000)) ∧ Below w.heap.size w w' := by
  unfold maxLen at hn
  have e1 := fcells_n hA
  go_enter Tryz.func17, Tryz.ntmps17
  go_wp2
  go_loopw [3, 4] (fun z i wr => ∃ k y q : Nat, k ≤ n ∧ y ≤ 3000 ∧ Hid (y = fsum (l.take k)) ∧ z = .int .i64 y ∧ i = .int .i64 k ∧ wr = w.drewN q) (fun _ i _ => n - (intOf i).toNat)
  case atStart => exact ⟨0, 0, 0, Nat.zero_le _, Nat.zero_le _, rfl, rfl, rfl, rfl⟩
  case round =>
    obtain ⟨k, y, q, hk, hy, H, rfl, rfl, rfl⟩ := hrel
    by_cases hlt : k < n
    · obtain ⟨x, hx, -⟩ := drop_fd (by omega : k < l.length)
      obtain ⟨b1, o1, rfl, hb1, cx, cx'⟩ := hA.fd e1 k x hx
      obtain ⟨l1, l2⟩ := hl x (List.mem_of_getElem? hx)
      have Ht := Lib.hid (fsum_one l k x hx)
      have s1 : IntKind.i64.wrap ((y : Int) + 5) = (y : Int) + 5 := IntWalk.i64_in _ ⟨by omega, by omega⟩
      have s2 : IntKind.i64.wrap ((y : Int) + 5 + (x.1.length : Int)) = (y : Int) + 5 + (x.1.length : Int) := IntWalk.i64_in _ ⟨by omega, by omega⟩
      have s3 : IntKind.i64.wrap ((y : Int) + 5 + (x.1.length : Int) + (x.2.length : Int)) = (y : Int) + 5 + (x.1.length : Int) + (x.2.length : Int) := IntWalk.i64_in _ ⟨by omega, by omega⟩
      clear hA hx
      go_wp2
      go_quiet (fail)
      go_wp2
      · go_ret
        exact ⟨⟨true, rfl, by simp⟩, by repeat (first | exact Below.refl _ _ | apply below_drewN')⟩
      · go_roundw
        case rel => exact ⟨k + 1, y + 5 + x.1.length + x.2.length, q + nq, by omega, by omega, Lib.hid (by rw [Ht.out, ← H.out]; omega), by go_num, by go_num, by simp [World.drewN]⟩
        case measure => simp [intOf]; omega
    · have hkn : k = n := by omega
      subst hkn
      have hall : l.take k = l := List.take_of_length_le (by omega)
      go_wp2
      go_ret
      exact ⟨⟨false, rfl, fun _ => by rw [← hall, ← H.out]; exact hy⟩, below_drewN' (Below.refl _ _) _⟩

theorem law_FOf (minor : Int) (A : Option Addr) (n c : Nat) (l : List Fd) (w : World) (hA : Rd w w.heap.size 2 A n (fcells l)) (hl : ∀ f ∈ l, f.1.length ≤ 140737488355328 ∧ f.2.length ≤ 140737488355328) (hn : n ≤ maxLen) (hm : ML w) (hm0 : -9223372036854775808 ≤ minor) (hm1 : minor ≤ 9223372036854775807) :
    Calls Tryz.prog 7 #[.int .i64 minor, .slice A n c] w fun e w' => e = .returned (.bool true) ∧ Below w.heap.size w w' := by
  have e1 := fcells_n hA
  go_enter Tryz.func7, Tryz.ntmps7
  go_wp2_with fail
  refine (law12_heavy A n c l w hA hl hn).mono ?_
  rintro e w1 ⟨⟨b, rfl, hb⟩, L1⟩
  cases b with
  | true =>
    go_wp2
    go_ret
    exact ⟨rfl, L1⟩
  | false =>
    have hs := hb rfl
    have hlen := fsum_len l
    have hsz : FdSz l := fun f hf => by have := fsum_mem l f hf; omega
    have hm' := hm.below L1 (Nat.le_refl _)
    go_wp2_with fail
    refine (frm_Of minor none [] w1 (.inl ⟨rfl, rfl⟩) (by decide) (by unfold FdSz; simp) hm').mono ?_
    obtain ⟨k, st, hk⟩ : ∃ k st, frmL (decide (1 ≤ minor)) [] = (k, st) := ⟨_, _, rfl⟩
    have HK := Lib.hid hk
    rw [hk, howR_mk]
    clear hk
    rintro e w3 ⟨rfl, L3⟩
    have K3 := stepW L1 L3
    go_wp2_with fail
    obtain ⟨V, hV⟩ : ∃ V, V = w3.alloc (.cells (howC k) 44) := ⟨_, rfl⟩
    rw [show (Obj.cells #[Value.int IntKind.i64 k.kind, Value.int IntKind.i64 k.len, Value.bool k.close, Value.bool k.expect] 44) = .cells (howC k) 44 from rfl, ← hV]
    have LV : Below w3.heap.size w3 V := by rw [hV]; exact allocW (Below.refl _ _) _
    have BV : Blk V w3.heap.size 44 (howC k) := by rw [hV]; exact Blk.new' _ _ rfl _ _
    clear hV
    have K4 := stepW K3 LV
    refine (r12_Of minor none [] V (.inl ⟨rfl, rfl⟩) (by decide) (by unfold FdSz; simp) hm0 hm1).mono ?_
    rw [HK.out, howR_mk]
    rintro e w4 ⟨rfl, L4⟩
    have K5 := stepW K4 L4
    have B5 := BV.belowW L4
    have LW : Below w4.heap.size w4 (w4.alloc (.cells (howC k) 49)) := allocW (Below.refl _ _) _
    have BW : Blk (w4.alloc (.cells (howC k) 49)) w4.heap.size 49 (howC k) := Blk.new' _ _ rfl _ _
    have K6 := stepW K5 LW
    have B6 := B5.belowW LW
    have hA6 := hA.belowW (Nat.le_refl _) K6
    go_wp2_with fail
    obtain ⟨W, hW⟩ : ∃ W, W = w4.alloc (.cells (howC k) 49) := ⟨_, rfl⟩
    rw [show (Obj.cells #[Value.int IntKind.i64 k.kind, Value.int IntKind.i64 k.len, Value.bool k.close, Value.bool k.expect] 49) = .cells (howC k) 49 from rfl, ← hW]
    rw [← hW] at K6 B6 BW hA6
    clear hW LV BV K4 K5 B5 LW L3 K3
    refine (law12_of minor A n c _ l W hA6 K6.size hsz (by unfold maxLen at hn; omega) (hm.below K6 (Nat.le_refl _)) hm0 hm1).mono ?_
    rintro e w5 ⟨rfl, L5⟩
    have K7 := stepW K6 L5
    obtain ⟨j0, j1, j2, j3, -, -, -, -⟩ := (B6.belowW L5).c4
    obtain ⟨m0, m1, m2, m3, -, -, -, -⟩ := (BW.belowW L5).c4
    have kq := fun w : World => run_eql_how k k w
    rw [show howEq k k = true by simp [howEq]] at kq
    have kg := fun (o : Operand) (o' : Operand) (xs ys : Array Value) (w : World) => run_guard_how .eql o o' xs ys w
    go_wp2_with fail
    refine (law12_known _ (hm.below K7 (Nat.le_refl _))).mono ?_
    rintro e w6 ⟨rfl, L6⟩
    go_wp2
    go_ret
    exact ⟨rfl, stepW K7 L6⟩
end Go.Proofs.YtfpojnijjpojlaaGreatDoor

/- usherlaw18: same, fields, roomy, stands. -/
import Derived.Test.YtlambdccmfnloaaDoorFPl
import Derived.Test.YtlambdccmfnloaaDoorPlain
namespace Go.Proofs.YtlambdccmfnloaaDoor
open Go.RowKit
set_option maxRecDepth 100000
set_option maxHeartbeats 2000000

theorem law_same18 (A1 : Option Addr) (n1 c1 : Nat) (l1 : Bs) (A2 : Option Addr) (n2 c2 : Nat) (l2 : Bs) (w : World) (h1 : Rd w w.heap.size 1 A1 n1 (l1.map bv)) (h2 : Rd w w.heap.size 1 A2 n2 (l2.map bv)) (hn : n1 ≤ maxLen) :
    Calls Tryd.prog 8 #[.slice A1 n1 c1, .slice A2 n2 c2] w fun e w' => e = .returned (.bool (decide (l1 = l2))) ∧ Below w.heap.size w w' := by
  unfold maxLen at hn
  have e1 : l1.length = n1 := by have := h1.1; simpa using this
  have e2 : l2.length = n2 := by have := h2.1; simpa using this
  go_enter Tryd.func8, Tryd.ntmps8
  go_wp2
  · go_ret
    have hq := neT ‹((n1 : Int) != n2) = true›
    exact ⟨retB (by rw [eq_comm, decide_eq_false_iff_not]; intro h; subst h; omega), Below.refl _ _⟩
  · have hq := neF ‹((n1 : Int) != n2) = false›
    have hq : n1 = n2 := by omega
    by_cases hz : n1 = 0
    · have z1 : l1 = [] := List.eq_nil_of_length_eq_zero (by omega)
      have z2 : l2 = [] := List.eq_nil_of_length_eq_zero (by omega)
      go_loopw [5] (fun i wr => i = .int .i64 0 ∧ Below w.heap.size w wr) (fun i _ => 0)
      case atStart => exact ⟨rfl, Below.refl _ _⟩
      case round =>
        obtain ⟨rfl, hb⟩ := hrel
        go_wp2
        go_ret
        exact ⟨retB (by rw [z1, z2]; rfl), hb⟩
    · obtain ⟨b1, o1, rfl, hb1, hx1⟩ := h1.2 (by omega)
      obtain ⟨b2, o2, rfl, hb2, hx2⟩ := h2.2 (by omega)
      clear h1 h2
      go_loopw [5] (fun i wr => ∃ k q : Nat, k ≤ n1 ∧ i = .int .i64 k ∧ Hid ((l1 = l2) = (l1.drop k = l2.drop k)) ∧ wr = w.drewN q) (fun i _ => n1 - (intOf i).toNat)
      case atStart => exact ⟨0, 0, Nat.zero_le _, rfl, rfl, rfl⟩
      case round =>
        obtain ⟨k, q, hk, rfl, H, rfl⟩ := hrel
        by_cases hlt : k < n1
        · obtain ⟨x, hx, hdx⟩ := drop_list l1 k (by omega)
          obtain ⟨y, hy, hdy⟩ := drop_list l2 k (by omega)
          have Hx := Lib.hid hdx; clear hdx
          have Hy := Lib.hid hdy; clear hdy
          have cx := hx1 k (bv x) (map_get bv _ _ _ hx)
          have cy := hx2 k (bv y) (map_get bv _ _ _ hy)
          go_wp2
          go_quiet (fail)
          go_wp2
          · go_ret
            refine ⟨retB ?_, below_drewN' (below_drewN' (Below.refl _ _) _) _⟩
            have ht : ¬ x = y := by rintro rfl; simp_all
            rw [eq_comm, decide_eq_false_iff_not, H.out, Hx.out, Hy.out]
            simp [ht]
          · go_roundw
            case rel => exact ⟨k + 1, q + nq, by omega, by go_num, by rw [H.out, Hx.out, Hy.out]; have ht : x = y := (by apply UInt8.toNat_inj.1; simp_all; try omega); simp only [ht, true_and, List.cons.injEq]; exact Lib.hid trivial, by simp [World.drewN]⟩
            case measure => simp [intOf]; omega
        · go_wp2
          go_ret
          refine ⟨retB ?_, below_drewN' (Below.refl _ _) _⟩
          rw [eq_comm, decide_eq_true_eq, H.out, List.drop_of_length_le (by omega), List.drop_of_length_le (by omega)]

end Go.Proofs.YtlambdccmfnloaaDoor

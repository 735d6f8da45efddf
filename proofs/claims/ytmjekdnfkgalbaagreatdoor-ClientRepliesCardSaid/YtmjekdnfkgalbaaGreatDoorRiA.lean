/- usherlaw18: ints, response (of two that are one). -/
import Derived.Test.YtmjekdnfkgalbaaGreatDoorLw18
import Derived.Test.YtmjekdnfkgalbaaGreatDoorReE
import Derived.Laws.StructEq
namespace Go.Proofs.YtmjekdnfkgalbaaGreatDoor
open Go.RowKit
set_option maxRecDepth 100000
set_option maxHeartbeats 4000000

theorem law_ints18 (A1 : Option Addr) (n1 c1 : Nat) (l1 : List Int) (A2 : Option Addr) (n2 c2 : Nat) (l2 : List Int) (w : World) (h1 : Rd w w.heap.size 1 A1 n1 (l1.map fun i => Value.int .i64 i)) (h2 : Rd w w.heap.size 1 A2 n2 (l2.map fun i => Value.int .i64 i)) (hn : n1 ≤ maxLen) :
    Calls Tryz.prog 41 #[.slice A1 n1 c1, .slice A2 n2 c2] w fun e w' => e = .returned (.bool (decide (l1 = l2))) ∧ Below w.heap.size w w' := by
  unfold maxLen at hn
  have e1 : l1.length = n1 := by have := h1.1; simpa using this
  have e2 : l2.length = n2 := by have := h2.1; simpa using this
  go_enter Tryz.func41, Tryz.ntmps41
  go_wp2
  · go_ret
    have hq := neT ‹((n1 : Int) != n2) = true›
    exact ⟨retB (by rw [eq_comm, decide_eq_false_iff_not]; intro h; subst h; omega), Below.refl _ _⟩
  · have hq := neF ‹((n1 : Int) != n2) = false›
    have hq : n1 = n2 := by omega
    by_cases hz : n1 = 0
    · have z1 : l1 = [] := List.eq_nil_of_length_eq_zero (by omega)
      have z2 : l2 = [] := List.eq_nil_of_length_eq_zero (by omega)
      go_loopw [5] (fun i wr => i = .int .i64 0 ∧ Below w.heap.size w wr) (fun i _ => 0)
      case atStart => exact ⟨rfl, Below.refl _ _⟩
      case round =>
        obtain ⟨rfl, hb⟩ := hrel
        go_wp2
        go_ret
        exact ⟨retB (by rw [z1, z2]; rfl), hb⟩
    · obtain ⟨b1, o1, rfl, hb1, hx1⟩ := h1.2 (by omega)
      obtain ⟨b2, o2, rfl, hb2, hx2⟩ := h2.2 (by omega)
      clear h1 h2
      go_loopw [5] (fun i wr => ∃ k q : Nat, k ≤ n1 ∧ i = .int .i64 k ∧ Hid ((l1 = l2) = (l1.drop k = l2.drop k)) ∧ wr = w.drewN q) (fun i _ => n1 - (intOf i).toNat)
      case atStart => exact ⟨0, 0, Nat.zero_le _, rfl, rfl, rfl⟩
      case round =>
        obtain ⟨k, q, hk, rfl, H, rfl⟩ := hrel
        by_cases hlt : k < n1
        · obtain ⟨x, hx, hdx⟩ := drop_list l1 k (by omega)
          obtain ⟨y, hy, hdy⟩ := drop_list l2 k (by omega)
          have Hx := Lib.hid hdx; clear hdx
          have Hy := Lib.hid hdy; clear hdy
          have cx := hx1 k (.int .i64 x) (map_get (fun i => Value.int .i64 i) _ _ _ hx)
          have cy := hx2 k (.int .i64 y) (map_get (fun i => Value.int .i64 i) _ _ _ hy)
          go_wp2
          go_quiet (fail)
          go_wp2
          · go_ret
            refine ⟨retB ?_, below_drewN' (below_drewN' (Below.refl _ _) _) _⟩
            have ht : ¬ x = y := by rintro rfl; simp_all
            rw [eq_comm, decide_eq_false_iff_not, H.out, Hx.out, Hy.out]
            simp [ht]
          · go_roundw
            case rel => exact ⟨k + 1, q + nq, by omega, by go_num, by rw [H.out, Hx.out, Hy.out]; have ht : x = y := (by simp_all); simp only [ht, true_and, List.cons.injEq]; exact Lib.hid trivial, by simp [World.drewN]⟩
            case measure => simp [intOf]; omega
        · go_wp2
          go_ret
          refine ⟨retB ?_, below_drewN' (Below.refl _ _) _⟩
          rw [eq_comm, decide_eq_true_eq, H.out, List.drop_of_length_le (by omega), List.drop_of_length_le (by omega)]

theorem law_response18 (r : Rs) (A1 A2 B1 B2 P1 P2 : Option Addr) (c1 c2 d1 d2 e1 e2 : Nat) (w : World) (h1 : RsR w ⟨r, A1, c1, B1, d1, P1, e1⟩) (h2 : RsR w ⟨r, A2, c2, B2, d2, P2, e2⟩) (hf : r.f.length ≤ 100000) (hb : r.b.length ≤ 100000) (hp : r.p.length ≤ 100000) :
    Calls Tryz.prog 17 #[rsW ⟨r, A1, c1, B1, d1, P1, e1⟩, rsW ⟨r, A2, c2, B2, d2, P2, e2⟩] w fun e w' => e = .returned (.bool true) ∧ Below w.heap.size w w' := by
  obtain ⟨st, F, B, P⟩ := r
  dsimp only at hf hb hp
  show Calls Tryz.prog 17 #[.agg #[.int .i64 st, .slice A1 F.length c1, .slice B1 B.length d1, .slice P1 P.length e1], .agg #[.int .i64 st, .slice A2 F.length c2, .slice B2 B.length d2, .slice P2 P.length e2]] w fun e w' => e = .returned (.bool true) ∧ Below w.heap.size w w'
  have L2 := allocW (allocW (Below.refl w.heap.size w) (.cells #[.int .i64 st, .slice A1 F.length c1, .slice B1 B.length d1, .slice P1 P.length e1] 38)) (.cells #[.int .i64 st, .slice A2 F.length c2, .slice B2 B.length d2, .slice P2 P.length e2] 38)
  have K1 := (Blk.new w 38 #[.int .i64 st, .slice A1 F.length c1, .slice B1 B.length d1, .slice P1 P.length e1]).alloc (.cells #[.int .i64 st, .slice A2 F.length c2, .slice B2 B.length d2, .slice P2 P.length e2] 38)
  have K2 := Blk.new' (w.alloc (.cells #[.int .i64 st, .slice A1 F.length c1, .slice B1 B.length d1, .slice P1 P.length e1] 38)) (w.heap.size + 1) (by simp) 38 #[.int .i64 st, .slice A2 F.length c2, .slice B2 B.length d2, .slice P2 P.length e2]
  have R1 := h1.belowW L2
  have R2 := h2.belowW L2
  have hF := fun (W : World) (L : Below _ _ W) => law_fields18 A1 F.length c1 F A2 F.length c2 F W ((R1.belowW L).rf) ((R2.belowW L).rf) (by unfold maxLen; omega)
  have hB := fun (W : World) (L : Below _ _ W) => law_same18 B1 B.length d1 B B2 B.length d2 B W ((R1.belowW L).rb) ((R2.belowW L).rb) (by unfold maxLen; omega)
  have hP := fun (W : World) (L : Below _ _ W) => law_ints18 P1 P.length e1 P P2 P.length e2 P W ((R1.belowW L).rp) ((R2.belowW L).rp) (by unfold maxLen; omega)
  simp only [decide_true] at hF hB hP
  clear R1 R2 h1 h2
  obtain ⟨a0, a1, a2, a3, -⟩ := K1.c4
  obtain ⟨b0, b1, b2, b3, -⟩ := K2.c4
  go_enter Tryz.func17, Tryz.ntmps17
  go_wp2_with fail
  refine (hF _ (Below.refl _ _)).mono ?_
  rintro e w3 ⟨rfl, L3⟩
  obtain ⟨a0, a1, a2, a3, -⟩ := (K1.belowW L3).c4
  obtain ⟨b0, b1, b2, b3, -⟩ := (K2.belowW L3).c4
  go_wp2_with fail
  refine (hB _ L3).mono ?_
  rintro e w4 ⟨rfl, L4⟩
  have L4 := stepW L3 L4
  obtain ⟨a0, a1, a2, a3, -⟩ := (K1.belowW L4).c4
  obtain ⟨b0, b1, b2, b3, -⟩ := (K2.belowW L4).c4
  go_wp2_with fail
  refine (hP _ L4).mono ?_
  rintro e w5 ⟨rfl, L5⟩
  go_wp2
  go_ret
  exact ⟨rfl, stepW L2 (stepW L4 L5)⟩
end Go.Proofs.YtmjekdnfkgalbaaGreatDoor

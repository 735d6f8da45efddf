/- usherlaw26: responses. -/
import Derived.Test.YtmjekdnfkgalbaaGreatDoorRsB
import Derived.Test.YtmjekdnfkgalbaaGreatDoorClient
import Derived.Deep.DeepCutAuto
import Derived.IntWalk
namespace Go.Proofs.YtmjekdnfkgalbaaGreatDoor
open Go.RowKit
set_option maxRecDepth 100000
set_option maxHeartbeats 4000000

theorem law_fieldsR (A1 : Option Addr) (n1 c1 : Nat) (l1 : List Fd) (A2 : Option Addr) (n2 c2 : Nat) (l2 : List Fd) (w : World) (h1 : Rd w w.heap.size 2 A1 n1 (fcells l1)) (h2 : Rd w w.heap.size 2 A2 n2 (fcells l2)) (hn : n1 ≤ maxLen) :
    Calls Tryz.prog 51 #[.slice A1 n1 c1, .slice A2 n2 c2] w fun e w' => e = .returned (.bool (decide (l1 = l2))) ∧ Below w.heap.size w w' := by
  unfold maxLen at hn
  have e1 : l1.length = n1 := by have := h1.1; rw [fcells_len] at this; omega
  have e2 : l2.length = n2 := by have := h2.1; rw [fcells_len] at this; omega
  go_enter Tryz.func51, Tryz.ntmps51
  go_wp2
  · go_ret
    have hq := neT ‹((n1 : Int) != n2) = true›
    exact ⟨retB (by rw [eq_comm, decide_eq_false_iff_not]; intro h; subst h; omega), Below.refl _ _⟩
  · have hq := neF ‹((n1 : Int) != n2) = false›
    have hq : n1 = n2 := by omega
    by_cases hz : n1 = 0
    · have z1 : l1 = [] := List.eq_nil_of_length_eq_zero (by omega)
      have z2 : l2 = [] := List.eq_nil_of_length_eq_zero (by omega)
      go_loopw [5] (fun i wr => i = .int .i64 0 ∧ Below w.heap.size w wr) (fun i _ => 0)
      case atStart => exact ⟨rfl, Below.refl _ _⟩
      case round =>
        obtain ⟨rfl, hb⟩ := hrel
        go_wp2
        go_ret
        exact ⟨retB (by rw [z1, z2]; rfl), hb⟩
    · obtain ⟨b1, o1, rfl, hb1, hx1⟩ := h1.2 (by omega)
      obtain ⟨b2, o2, rfl, hb2, hx2⟩ := h2.2 (by omega)
      clear h1 h2
      go_loopw [5] (fun i wr => ∃ k q : Nat, k ≤ n1 ∧ i = .int .i64 k ∧ Hid ((l1 = l2) = (l1.drop k = l2.drop k)) ∧ wr = w.drewN q) (fun i _ => n1 - (intOf i).toNat)
      case atStart => exact ⟨0, 0, Nat.zero_le _, rfl, rfl, rfl⟩
      case round =>
        obtain ⟨k, q, hk, rfl, H, rfl⟩ := hrel
        by_cases hlt : k < n1
        · obtain ⟨x, hx, hdx⟩ := drop_list l1 k (by omega)
          obtain ⟨y, hy, hdy⟩ := drop_list l2 k (by omega)
          have Hx := Lib.hid hdx; clear hdx
          have Hy := Lib.hid hdy; clear hdy
          obtain ⟨cx0, cx1⟩ := fcells_at _ _ _ hx; have cx := hx1 (k * 2) _ cx0; have cx' := hx1 (k * 2 + 1) _ cx1; rw [← Nat.add_assoc] at cx'
          obtain ⟨cy0, cy1⟩ := fcells_at _ _ _ hy; have cy := hx2 (k * 2) _ cy0; have cy' := hx2 (k * 2 + 1) _ cy1; rw [← Nat.add_assoc] at cy'
          have kn := fun w : World => run_neq_fd x.1 x.2 y.1 y.2 w
          have kg := fun (o : Operand) (o' : Operand) (w : World) => run_guard_fd .neq o o' #[sv x.1, sv x.2] #[sv y.1, sv y.2] w
          go_wp2
          go_quiet (fail)
          go_wp2
          · go_ret
            refine ⟨retB ?_, below_drewN' (below_drewN' (Below.refl _ _) _) _⟩
            have ht : ¬ x = y := by rintro rfl; have := notT ‹(!fdEq x.1 x.2 x.1 x.2) = true›; simp [fdEq] at this
            rw [eq_comm, decide_eq_false_iff_not, H.out, Hx.out, Hy.out]
            simp [ht]
          · go_roundw
            case rel => exact ⟨k + 1, q + nq, by omega, by go_num, by rw [H.out, Hx.out, Hy.out]; have ht : x = y := (by have := notF ‹(!fdEq x.1 x.2 y.1 y.2) = false›; simpa [fdEq, Prod.ext_iff] using this); simp only [ht, true_and, List.cons.injEq]; exact Lib.hid trivial, by simp [World.drewN]⟩
            case measure => simp [intOf]; omega
        · go_wp2
          go_ret
          refine ⟨retB ?_, below_drewN' (Below.refl _ _) _⟩
          rw [eq_comm, decide_eq_true_eq, H.out, List.drop_of_length_le (by omega), List.drop_of_length_le (by omega)]

theorem law_intsR (A1 : Option Addr) (n1 c1 : Nat) (A2 : Option Addr) (n2 c2 : Nat) (l : List Int) (w : World) (h1 : Rd w w.heap.size 1 A1 n1 (l.map (Value.int .i64))) (h2 : Rd w w.heap.size 1 A2 n2 (l.map (Value.int .i64))) (hn : n1 ≤ 100000) :
    Calls Tryz.prog 52 #[.slice A1 n1 c1, .slice A2 n2 c2] w fun e w' => e = .returned (.bool true) ∧ Below w.heap.size w w' := by
  have e1 : l.length = n1 := by simpa using h1.1
  have e2 : l.length = n2 := by simpa using h2.1
  obtain rfl : n1 = n2 := by omega
  go_enter Tryz.func52, Tryz.ntmps52
  go_wp2
  go_loopw [5] (fun i wr => ∃ k q : Nat, k ≤ n1 ∧ i = .int .i64 k ∧ wr = w.drewN q) (fun i _ => n1 - (intOf i).toNat)
  case atStart => exact ⟨0, 0, Nat.zero_le _, rfl, rfl⟩
  case round =>
    obtain ⟨k, q, hk, rfl, rfl⟩ := hrel
    by_cases hlt : k < n1
    · obtain ⟨x, hx, -⟩ := drop_list l k (by omega)
      obtain ⟨b1, o1, rfl, hb1, hx1⟩ := h1.2 (by omega)
      obtain ⟨b2, o2, rfl, hb2, hx2⟩ := h2.2 (by omega)
      have cx := hx1 k (.int .i64 x) (map_get _ _ _ _ hx)
      have cy := hx2 k (.int .i64 x) (map_get _ _ _ _ hx)
      clear hx hx1 hx2
      go_wp2
      go_quiet (fail)
      go_wp2
      go_roundw
      case rel => exact ⟨k + 1, q + nq, by omega, by go_num, by simp [World.drewN]⟩
      case measure => simp [intOf]; omega
    · go_wp2
      go_ret
      exact ⟨rfl, below_drewN' (Below.refl _ _) q⟩
theorem law_responseR (r : Rs) (A1 A2 B1 B2 P1 P2 : Option Addr) (c1 c2 d1 d2 e1 e2 : Nat) (w : World) (h1 : RsR w ⟨r, A1, c1, B1, d1, P1, e1⟩) (h2 : RsR w ⟨r, A2, c2, B2, d2, P2, e2⟩) (hf : r.f.length ≤ 100000) (hb : r.b.length ≤ 100000) (hp : r.p.length ≤ 100000) :
    Calls Tryz.prog 24 #[rsW ⟨r, A1, c1, B1, d1, P1, e1⟩, rsW ⟨r, A2, c2, B2, d2, P2, e2⟩] w fun e w' => e = .returned (.bool true) ∧ Below w.heap.size w w' := by
  obtain ⟨st, F, B, P⟩ := r
  dsimp only at hf hb hp
  show Calls Tryz.prog 24 #[.agg #[.int .i64 st, .slice A1 F.length c1, .slice B1 B.length d1, .slice P1 P.length e1], .agg #[.int .i64 st, .slice A2 F.length c2, .slice B2 B.length d2, .slice P2 P.length e2]] w fun e w' => e = .returned (.bool true) ∧ Below w.heap.size w w'
  have L2 := allocW (allocW (Below.refl w.heap.size w) (.cells #[.int .i64 st, .slice A1 F.length c1, .slice B1 B.length d1, .slice P1 P.length e1] 38)) (.cells #[.int .i64 st, .slice A2 F.length c2, .slice B2 B.length d2, .slice P2 P.length e2] 38)
  have K1 := (Blk.new w 38 #[.int .i64 st, .slice A1 F.length c1, .slice B1 B.length d1, .slice P1 P.length e1]).alloc (.cells #[.int .i64 st, .slice A2 F.length c2, .slice B2 B.length d2, .slice P2 P.length e2] 38)
  have K2 := Blk.new' (w.alloc (.cells #[.int .i64 st, .slice A1 F.length c1, .slice B1 B.length d1, .slice P1 P.length e1] 38)) (w.heap.size + 1) (by simp) 38 #[.int .i64 st, .slice A2 F.length c2, .slice B2 B.length d2, .slice P2 P.length e2]
  have R1 := h1.belowW L2
  have R2 := h2.belowW L2
  have hF := fun (W : World) (L : Below _ _ W) => law_fieldsR A1 F.length c1 F A2 F.length c2 F W ((R1.belowW L).rf) ((R2.belowW L).rf) (by unfold maxLen; omega)
  have hB := fun (W : World) (L : Below _ _ W) => law_same26 B1 B.length d1 B B2 B.length d2 B W ((R1.belowW L).rb) ((R2.belowW L).rb) (by unfold maxLen; omega)
  have hP := fun (W : World) (L : Below _ _ W) => law_intsR P1 P.length e1 P2 P.length e2 P W ((R1.belowW L).rp) ((R2.belowW L).rp) (by omega)
  simp only [decide_true] at hF hB hP
  clear R1 R2 h1 h2
  obtain ⟨a0, a1, a2, a3, -⟩ := K1.c4
  obtain ⟨b0, b1, b2, b3, -⟩ := K2.c4
  go_enter Tryz.func24, Tryz.ntmps24
  go_wp2_with fail
  refine (hF _ (Below.refl _ _)).mono ?_
  rintro e w3 ⟨rfl, L3⟩
  obtain ⟨a0, a1, a2, a3, -⟩ := (K1.belowW L3).c4
  obtain ⟨b0, b1, b2, b3, -⟩ := (K2.belowW L3).c4
  go_wp2_with fail
  refine (hB _ L3).mono ?_
  rintro e w4 ⟨rfl, L4⟩
  have L4 := stepW L3 L4
  obtain ⟨a0, a1, a2, a3, -⟩ := (K1.belowW L4).c4
  obtain ⟨b0, b1, b2, b3, -⟩ := (K2.belowW L4).c4
  go_wp2_with fail
  refine (hP _ L4).mono ?_
  rintro e w5 ⟨rfl, L5⟩
  go_wp2
  go_ret
  exact ⟨rfl, stepW L2 (stepW L4 L5)⟩
theorem law_responsesR (A1 A2 : Option Addr) (c1 c2 : Nat) (l1 l2 : List RsP) (w : World) (h1 : RRs w A1 l1.length l1) (h2 : RRs w A2 l2.length l2) (hm : l1.map (·.r) = l2.map (·.r)) (hn : l1.length ≤ 100000)
    (hz : ∀ x ∈ l1, x.r.f.length ≤ 100000 ∧ x.r.b.length ≤ 100000 ∧ x.r.p.length ≤ 100000) :
    Calls Tryz.prog 9 #[.slice A1 l1.length c1, .slice A2 l2.length c2] w fun e w' => e = .returned (.bool true) ∧ Below w.heap.size w w' := by
  have hl : l2.length = l1.length := by have := congrArg List.length hm; simpa using this.symm
  rw [hl] at h2 ⊢
  obtain ⟨n, hN⟩ : ∃ n, n = l1.length := ⟨_, rfl⟩
  rw [← hN] at h1 h2 hn ⊢
  have HM := Lib.hid hm
  have HL := Lib.hid hl
  have HN := Lib.hid hN
  clear hm hl hN
  go_enter Tryz.func9, Tryz.ntmps9
  go_wp2
  go_loopw [5] (fun i wr => ∃ k : Nat, k ≤ n ∧ i = .int .i64 k ∧ Below w.heap.size w wr) (fun i _ => n - (intOf i).toNat)
  case atStart => exact ⟨0, Nat.zero_le _, rfl, Below.refl _ _⟩
  case round =>
    obtain ⟨k, hk, rfl, LB⟩ := hrel
    by_cases hlt : k < n
    · have hk1 : k < l1.length := by rw [← HN.out]; exact hlt
      have hk2 : k < l2.length := by rw [HL.out]; exact hk1
      obtain ⟨x, hx⟩ : ∃ x, l1[k]? = some x := ⟨_, List.getElem?_eq_getElem hk1⟩
      obtain ⟨y, hy⟩ : ∃ y, l2[k]? = some y := ⟨_, List.getElem?_eq_getElem hk2⟩
      have hxy : x.r = y.r := by
        have h := congrArg (fun l => l[k]?) HM.out
        simp only [List.getElem?_map, hx, hy, Option.map_some] at h
        injection h
      have hzx := hz x (List.mem_of_getElem? hx)
      have rx := (h1.rq x (List.mem_of_getElem? hx)).belowW LB
      have ry := (h2.rq y (List.mem_of_getElem? hy)).belowW LB
      obtain ⟨b1, o1, rfl, hb1, x0, x1, x2, x3⟩ := (h1.belowW LB).at_ hx
      obtain ⟨b2, o2, rfl, hb2, y0, y1, y2, y3⟩ := (h2.belowW LB).at_ hy
      obtain ⟨r, Af, cf, Ab, cb, Ap, cp⟩ := x
      obtain ⟨r', Ag, cg, Bb, db, Aq, cq⟩ := y
      dsimp only at hxy
      subst hxy
      dsimp only at x0 x1 x2 x3 y0 y1 y2 y3 hzx
      have hR := fun (W : World) (L : Below wr.heap.size wr W) => law_responseR r Af Ag Ab Bb Ap Aq cf cg cb db cp cq W (rx.belowW L) (ry.belowW L) hzx.1 hzx.2.1 hzx.2.2
      have hki : (k : Int) < (n : Int) := by omega
      clear hx hy rx ry hz hk1 hk2 hzx
      go_wp2_with fail
      go_region_with ((go_at_call 24; refine (hR _ (below_drewN' (Below.refl _ _) _)).mono ?_; rintro e w4 ⟨rfl, L4⟩; have M4 := stepW (below_drewN' (Below.refl wr.heap.size wr) _) L4))
      all_goals go_wp2_with fail
      all_goals
        go_roundw
        case rel => exact ⟨k + 1, by omega, by go_num, stepW LB M4⟩
        case measure => simp [intOf]; omega
    · have hki : ¬ (k : Int) < (n : Int) := by omega
      go_wp2
      go_ret
      exact ⟨rfl, LB⟩
end Go.Proofs.YtmjekdnfkgalbaaGreatDoor

/- usherlaw16: request. -/
import Derived.Test.YtbkakoboaophoaaGreatDoorLw16
import Derived.Test.YtbkakoboaophoaaGreatDoorTEq
import Derived.Test.YtbkakoboaophoaaGreatDoorSp1
import Derived.Laws.StructEq
namespace Go.Proofs.YtbkakoboaophoaaGreatDoor
open Go.RowKit
set_option maxRecDepth 100000
set_option maxHeartbeats 4000000

theorem law_request16 (x y : RP) (w : World) (h1 : RQR w x.r x.af x.ab) (h2 : RQR w y.r y.af y.ab) (hf : x.r.f.length ≤ 100000) (hb : x.r.b.length ≤ 100000) :
    Calls Tryz.prog 29 #[rqV x.r x.af x.cf x.ab x.cb, rqV y.r y.af y.cf y.ab y.cb] w fun e w' => e = .returned (.bool (decide (x.r = y.r))) ∧ Below w.heap.size w w' := by
  obtain ⟨⟨m1, t1, v1, F1, B1, c1, e1⟩, A1, n1, D1, k1⟩ := x
  obtain ⟨⟨m2, t2, v2, F2, B2, c2, e2⟩, A2, n2, D2, k2⟩ := y
  dsimp only at h1 h2 hf hb ⊢
  unfold rqV
  dsimp only
  have tq := fun w : World => run_eql_tg t1 t2 w
  have tg := fun (o : Operand) (o' : Operand) (xs ys : Array Value) (w : World) => run_guard_tg .eql o o' xs ys w
  unfold tgtV at tq
  have L2 := allocW (allocW (Below.refl w.heap.size w) (.cells #[sv m1, .int .i64 t1.form, sv t1.host, sv t1.path, sv t1.query, .int .i64 v1, .slice A1 F1.length n1, .slice D1 B1.length k1, .bool c1, .bool e1] 33)) (.cells #[sv m2, .int .i64 t2.form, sv t2.host, sv t2.path, sv t2.query, .int .i64 v2, .slice A2 F2.length n2, .slice D2 B2.length k2, .bool c2, .bool e2] 33)
  have K1 := (Blk.new w 33 #[sv m1, .int .i64 t1.form, sv t1.host, sv t1.path, sv t1.query, .int .i64 v1, .slice A1 F1.length n1, .slice D1 B1.length k1, .bool c1, .bool e1]).alloc (.cells #[sv m2, .int .i64 t2.form, sv t2.host, sv t2.path, sv t2.query, .int .i64 v2, .slice A2 F2.length n2, .slice D2 B2.length k2, .bool c2, .bool e2] 33)
  have K2 := Blk.new' (w.alloc (.cells #[sv m1, .int .i64 t1.form, sv t1.host, sv t1.path, sv t1.query, .int .i64 v1, .slice A1 F1.length n1, .slice D1 B1.length k1, .bool c1, .bool e1] 33)) (w.heap.size + 1) (by simp) 33 #[sv m2, .int .i64 t2.form, sv t2.host, sv t2.path, sv t2.query, .int .i64 v2, .slice A2 F2.length n2, .slice D2 B2.length k2, .bool c2, .bool e2]
  have R1 := h1.belowW L2
  have R2 := h2.belowW L2
  have hF := law_fields16 A1 F1.length n1 F1 A2 F2.length n2 F2 _ R1.f R2.f (by unfold maxLen; omega)
  have hB := fun (W : World) (L : Below _ _ W) => law_same16 D1 B1.length k1 B1 D2 B2.length k2 B2 W ((R1.belowW L).b) ((R2.belowW L).b) (by unfold maxLen; omega)
  clear R1 R2 h1 h2
  by_cases hm : m1 = m2
  case neg =>
    have hm' : (m1 == m2) = false := by simpa using hm
    go_enter Tryz.func29, Tryz.ntmps29
    go_wp2
    go_ret
    exact ⟨retB (by simp [hm]), L2⟩
  subst hm
  by_cases ht : t1 = t2
  case neg =>
    have ht' : tgEq t1 t2 = false := by simpa [tgEq] using ht
    rw [ht'] at tq
    go_enter Tryz.func29, Tryz.ntmps29
    go_wp2
    go_ret
    exact ⟨retB (by simp [ht]), L2⟩
  subst ht
  rw [show tgEq t1 t1 = true by simp [tgEq]] at tq
  by_cases hv : v1 = v2
  case neg =>
    have hv' : (v1 == v2) = false := by simpa using hv
    go_enter Tryz.func29, Tryz.ntmps29
    go_wp2
    go_ret
    exact ⟨retB (by simp [hv]), L2⟩
  subst hv
  go_enter Tryz.func29, Tryz.ntmps29
  go_wp2_with fail
  refine hF.mono ?_
  rintro e w3 ⟨rfl, L3⟩
  have K3 := K1.belowW L3
  have K4 := K2.belowW L3
  obtain ⟨⟨a0, a1, a2, a3, a4, a5, a6, a7, a8, a9⟩, -⟩ := K3.c10
  obtain ⟨⟨b0, b1, b2, b3, b4, b5, b6, b7, b8, b9⟩, -⟩ := K4.c10
  by_cases hFF : F1 = F2
  case neg =>
    rw [decide_eq_false hFF]
    go_wp2
    go_ret
    exact ⟨retB (by simp [hFF]), stepW L2 L3⟩
  rw [decide_eq_true hFF]
  go_wp2_with fail
  refine (hB _ L3).mono ?_
  rintro e w4 ⟨rfl, L4⟩
  have L5 := stepW (stepW L2 L3) L4
  obtain ⟨⟨a0, a1, a2, a3, a4, a5, a6, a7, a8, a9⟩, -⟩ := (K3.belowW L4).c10
  obtain ⟨⟨b0, b1, b2, b3, b4, b5, b6, b7, b8, b9⟩, -⟩ := (K4.belowW L4).c10
  by_cases hBB : B1 = B2
  case neg =>
    rw [decide_eq_false hBB]
    go_wp2
    go_ret
    exact ⟨retB (by simp [hBB]), L5⟩
  rw [decide_eq_true hBB]
  by_cases hc : c1 = c2
  case neg =>
    have hc' : (c1 == c2) = false := by simpa using hc
    go_wp2
    go_ret
    exact ⟨retB (by simp [hc]), L5⟩
  have hc' : (c1 == c2) = true := by simpa using hc
  go_wp2
  go_ret
  exact ⟨retB (by rw [Bool.eq_iff_iff]; simp [hFF, hBB, hc]), L5⟩
end Go.Proofs.YtbkakoboaophoaaGreatDoor

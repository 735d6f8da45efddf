/- spec.Same, with slices.Equal and bytes.Equal. -/
import Derived.Test.YtlambdccmfnloaaGreatDoorSp2
import Derived.Test.YtlambdccmfnloaaGreatDoorShelf
namespace Go.Proofs.YtlambdccmfnloaaGreatDoor
open Go.RowKit
set_option maxRecDepth 100000
set_option maxHeartbeats 4000000

theorem lib_fEq (A1 : Option Addr) (n1 c1 : Nat) (l1 : List Fd) (A2 : Option Addr) (n2 c2 : Nat) (l2 : List Fd) (w : World) (h1 : Rd w w.heap.size 2 A1 n1 (fcells l1)) (h2 : Rd w w.heap.size 2 A2 n2 (fcells l2)) (hn : n1 ≤ maxLen) :
    Calls Tryz.prog 81 #[.slice A1 n1 c1, .slice A2 n2 c2] w fun e w' => e = .returned (.bool (decide (l1 = l2))) ∧ Below w.heap.size w w' := by
  unfold maxLen at hn
  have e1 : l1.length = n1 := by have := h1.1; rw [fcells_len] at this; omega
  have e2 : l2.length = n2 := by have := h2.1; rw [fcells_len] at this; omega
  go_enter Tryz.func81, Tryz.ntmps81
  go_wp2
  · go_ret
    have hq := neT ‹((n1 : Int) != n2) = true›
    exact ⟨retB (by rw [eq_comm, decide_eq_false_iff_not]; intro h; subst h; omega), Below.refl _ _⟩
  · have hq := neF ‹((n1 : Int) != n2) = false›
    have hq : n1 = n2 := by omega
    by_cases hz : n1 = 0
    · have z1 : l1 = [] := List.eq_nil_of_length_eq_zero (by omega)
      have z2 : l2 = [] := List.eq_nil_of_length_eq_zero (by omega)
      go_loopw [13] (fun i wr => i = .int .i64 0 ∧ Below w.heap.size w wr) (fun i _ => 0)
      case atStart => exact ⟨rfl, Below.refl _ _⟩
      case round =>
        obtain ⟨rfl, hb⟩ := hrel
        go_wp2
        go_ret
        exact ⟨retB (by rw [z1, z2]; rfl), hb⟩
    · obtain ⟨b1, o1, rfl, hb1, hx1⟩ := h1.2 (by omega)
      obtain ⟨b2, o2, rfl, hb2, hx2⟩ := h2.2 (by omega)
      clear h1 h2
      go_loopw [13] (fun i wr => ∃ k q : Nat, k ≤ n1 ∧ i = .int .i64 k ∧ Hid ((l1 = l2) = (l1.drop k = l2.drop k)) ∧ wr = w.drewN q) (fun i _ => n1 - (intOf i).toNat)
      case atStart => exact ⟨0, 0, Nat.zero_le _, rfl, rfl, rfl⟩
      case round =>
        obtain ⟨k, q, hk, rfl, H, rfl⟩ := hrel
        by_cases hlt : k < n1
        · obtain ⟨x, hx, hdx⟩ := drop_list l1 k (by omega)
          obtain ⟨y, hy, hdy⟩ := drop_list l2 k (by omega)
          have Hx := Lib.hid hdx; clear hdx
          have Hy := Lib.hid hdy; clear hdy
          obtain ⟨cx0, cx1⟩ := fcells_at _ _ _ hx; have cx := hx1 (k * 2) _ cx0; have cx' := hx1 (k * 2 + 1) _ cx1; rw [← Nat.add_assoc] at cx'
          obtain ⟨cy0, cy1⟩ := fcells_at _ _ _ hy; have cy := hx2 (k * 2) _ cy0; have cy' := hx2 (k * 2 + 1) _ cy1; rw [← Nat.add_assoc] at cy'
          have kn := fun w : World => run_neq_fd x.1 x.2 y.1 y.2 w
          have kg := fun (o : Operand) (o' : Operand) (w : World) => run_guard_fd .neq o o' #[sv x.1, sv x.2] #[sv y.1, sv y.2] w
          go_wp2
          go_quiet (fail)
          go_wp2
          · go_ret
            refine ⟨retB ?_, below_drewN' (below_drewN' (Below.refl _ _) _) _⟩
            have ht : ¬ x = y := by rintro rfl; have := notT ‹(!fdEq x.1 x.2 x.1 x.2) = true›; simp [fdEq] at this
            rw [eq_comm, decide_eq_false_iff_not, H.out, Hx.out, Hy.out]
            simp [ht]
          · go_roundw
            case rel => exact ⟨k + 1, q + nq, by omega, by go_num, by rw [H.out, Hx.out, Hy.out]; have ht : x = y := (by have := notF ‹(!fdEq x.1 x.2 y.1 y.2) = false›; simpa [fdEq, Prod.ext_iff] using this); simp only [ht, true_and, List.cons.injEq]; exact Lib.hid trivial, by simp [World.drewN]⟩
            case measure => simp [intOf]; omega
        · go_wp2
          go_ret
          refine ⟨retB ?_, below_drewN' (Below.refl _ _) _⟩
          rw [eq_comm, decide_eq_true_eq, H.out, List.drop_of_length_le (by omega), List.drop_of_length_le (by omega)]

theorem bytesOf_bv (l : Bs) : Lib.bytesOf (l.map fun b => (b.toNat : Int)) = l := by
  unfold Lib.bytesOf
  rw [List.map_map]
  refine (List.map_congr_left fun b _ => ?_).trans (List.map_id l)
  simp
theorem lib_bEq (A1 : Option Addr) (n1 c1 : Nat) (l1 : Bs) (A2 : Option Addr) (n2 c2 : Nat) (l2 : Bs) (w : World) (h1 : Rd w w.heap.size 1 A1 n1 (l1.map bv)) (h2 : Rd w w.heap.size 1 A2 n2 (l2.map bv)) :
    Calls Tryz.prog 82 #[.slice A1 n1 c1, .slice A2 n2 c2] w fun e w' => e = .returned (.bool (decide (l1 = l2))) ∧ Below w.heap.size w w' := by
  have k1 := run_str_rd (P := Tryz.prog) h1 c1 25 5 9 Tryz.underlying25 Tryz.underlying5 Tryz.underlying9
  have k2 := run_str_rd (P := Tryz.prog) h2 c2 25 5 9 Tryz.underlying25 Tryz.underlying5 Tryz.underlying9
  refine (Tryz.bytes_Equal _ _ (l1.map fun b => (b.toNat : Int)) (l2.map fun b => (b.toNat : Int)) w (by rw [strOfNums_bv]; exact k1) (by rw [strOfNums_bv]; exact k2)).mono ?_
  rintro e w' ⟨rfl, rfl⟩
  rw [bytesOf_bv, bytesOf_bv]
  exact ⟨retB (by rw [Bool.eq_iff_iff]; simp), Below.refl _ _⟩
theorem spc_Same (x y : RP) (w : World) (h1 : RQR w x.r x.af x.ab) (h2 : RQR w y.r y.af y.ab) (hf : x.r.f.length ≤ 100000) (hb : x.r.b.length ≤ 100000) :
    Calls Tryz.prog 40 #[rqV x.r x.af x.cf x.ab x.cb, rqV y.r y.af y.cf y.ab y.cb] w fun e w' => e = .returned (.bool (decide (x.r = y.r))) ∧ Below w.heap.size w w' := by
  obtain ⟨⟨m1, t1, v1, F1, B1, c1, e1⟩, A1, n1, D1, k1⟩ := x
  obtain ⟨⟨m2, t2, v2, F2, B2, c2, e2⟩, A2, n2, D2, k2⟩ := y
  dsimp only at h1 h2 hf hb ⊢
  unfold rqV
  dsimp only
  have tq := fun w : World => run_eql_tg t1 t2 w
  have tg := fun (o : Operand) (o' : Operand) (xs ys : Array Value) (w : World) => run_guard_tg .eql o o' xs ys w
  unfold tgtV at tq
  have L2 := allocW (allocW (Below.refl w.heap.size w) (.cells #[sv m1, .int .i64 t1.form, sv t1.host, sv t1.path, sv t1.query, .int .i64 v1, .slice A1 F1.length n1, .slice D1 B1.length k1, .bool c1, .bool e1] 27)) (.cells #[sv m2, .int .i64 t2.form, sv t2.host, sv t2.path, sv t2.query, .int .i64 v2, .slice A2 F2.length n2, .slice D2 B2.length k2, .bool c2, .bool e2] 27)
  have K1 := (Blk.new w 27 #[sv m1, .int .i64 t1.form, sv t1.host, sv t1.path, sv t1.query, .int .i64 v1, .slice A1 F1.length n1, .slice D1 B1.length k1, .bool c1, .bool e1]).alloc (.cells #[sv m2, .int .i64 t2.form, sv t2.host, sv t2.path, sv t2.query, .int .i64 v2, .slice A2 F2.length n2, .slice D2 B2.length k2, .bool c2, .bool e2] 27)
  have K2 := Blk.new' (w.alloc (.cells #[sv m1, .int .i64 t1.form, sv t1.host, sv t1.path, sv t1.query, .int .i64 v1, .slice A1 F1.length n1, .slice D1 B1.length k1, .bool c1, .bool e1] 27)) (w.heap.size + 1) (by simp) 27 #[sv m2, .int .i64 t2.form, sv t2.host, sv t2.path, sv t2.query, .int .i64 v2, .slice A2 F2.length n2, .slice D2 B2.length k2, .bool c2, .bool e2]
  have R1 := h1.belowW L2
  have R2 := h2.belowW L2
  have hF := lib_fEq A1 F1.length n1 F1 A2 F2.length n2 F2 _ R1.f R2.f (by unfold maxLen; omega)
  have hB := fun (W : World) (L : Below _ _ W) => lib_bEq D1 B1.length k1 B1 D2 B2.length k2 B2 W ((R1.belowW L).b) ((R2.belowW L).b)
  clear R1 R2 h1 h2
  by_cases hm : m1 = m2
  case neg =>
    have hm' : (m1 == m2) = false := by simpa using hm
    go_enter Tryz.func40, Tryz.ntmps40
    go_wp2
    go_ret
    exact ⟨retB (by simp [hm]), L2⟩
  subst hm
  by_cases ht : t1 = t2
  case neg =>
    have ht' : tgEq t1 t2 = false := by simpa [tgEq] using ht
    rw [ht'] at tq
    go_enter Tryz.func40, Tryz.ntmps40
    go_wp2
    go_ret
    exact ⟨retB (by simp [ht]), L2⟩
  subst ht
  rw [show tgEq t1 t1 = true by simp [tgEq]] at tq
  by_cases hv : v1 = v2
  case neg =>
    have hv' : (v1 == v2) = false := by simpa using hv
    go_enter Tryz.func40, Tryz.ntmps40
    go_wp2
    go_ret
    exact ⟨retB (by simp [hv]), L2⟩
  subst hv
  go_enter Tryz.func40, Tryz.ntmps40
  go_wp2_with fail
  refine hF.mono ?_
  rintro e w3 ⟨rfl, L3⟩
  have K3 := K1.belowW L3
  have K4 := K2.belowW L3
  obtain ⟨⟨a0, a1, a2, a3, a4, a5, a6, a7, a8, a9⟩, -⟩ := K3.c10
  obtain ⟨⟨b0, b1, b2, b3, b4, b5, b6, b7, b8, b9⟩, -⟩ := K4.c10
  by_cases hFF : F1 = F2
  case neg =>
    rw [decide_eq_false hFF]
    go_wp2
    go_ret
    exact ⟨retB (by simp [hFF]), stepW L2 L3⟩
  rw [decide_eq_true hFF]
  go_wp2_with fail
  refine (hB _ L3).mono ?_
  rintro e w4 ⟨rfl, L4⟩
  have L5 := stepW (stepW L2 L3) L4
  obtain ⟨⟨a0, a1, a2, a3, a4, a5, a6, a7, a8, a9⟩, -⟩ := (K3.belowW L4).c10
  obtain ⟨⟨b0, b1, b2, b3, b4, b5, b6, b7, b8, b9⟩, -⟩ := (K4.belowW L4).c10
  by_cases hBB : B1 = B2
  case neg =>
    rw [decide_eq_false hBB]
    go_wp2
    go_ret
    exact ⟨retB (by simp [hBB]), L5⟩
  rw [decide_eq_true hBB]
  by_cases hc : c1 = c2
  case neg =>
    have hc' : (c1 == c2) = false := by simpa using hc
    go_wp2
    go_ret
    exact ⟨retB (by simp [hc]), L5⟩
  have hc' : (c1 == c2) = true := by simpa using hc
  go_wp2
  go_ret
  exact ⟨retB (by rw [Bool.eq_iff_iff]; simp [hFF, hBB, hc]), L5⟩
end Go.Proofs.YtlambdccmfnloaaGreatDoor

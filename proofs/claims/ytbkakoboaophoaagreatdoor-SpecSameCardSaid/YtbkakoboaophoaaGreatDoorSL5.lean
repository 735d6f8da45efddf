/- The law SpecSame. -/
import Derived.Test.YtbkakoboaophoaaGreatDoorSp6
import Derived.Test.YtbkakoboaophoaaGreatDoorSp5
import Derived.IntWalk
import Derived.Deep.RegionHeld3
namespace Go.Proofs.YtbkakoboaophoaaGreatDoor
open Go.RowKit
set_option maxRecDepth 100000
set_option maxHeartbeats 4000000

theorem law_Same16 (x y : RP) (w : World) (h1 : RQR w x.r x.af x.ab) (h2 : RQR w y.r y.af y.ab) (hl : ∀ f ∈ x.r.f, f.1.length ≤ 140737488355328 ∧ f.2.length ≤ 140737488355328) (hm : ML w) :
    Calls Tryz.prog 8 #[rqV x.r x.af x.cf x.ab x.cb, rqV y.r y.af y.cf y.ab y.cb] w fun e w' => e = .returned (.bool true) ∧ Below w.heap.size w w' := by
  rw [rqv_cells, rqv_cells]
  have La := allocW (Below.refl w.heap.size w) (.cells #[sv x.r.m, .int .i64 x.r.t.form, sv x.r.t.host, sv x.r.t.path, sv x.r.t.query, .int .i64 x.r.v, .slice x.af x.r.f.length x.cf, .slice x.ab x.r.b.length x.cb, .bool x.r.c, .bool x.r.e] 33)
  have L2 := allocW La (.cells #[sv y.r.m, .int .i64 y.r.t.form, sv y.r.t.host, sv y.r.t.path, sv y.r.t.query, .int .i64 y.r.v, .slice y.af y.r.f.length y.cf, .slice y.ab y.r.b.length y.cb, .bool y.r.c, .bool y.r.e] 33)
  have K1 := (Blk.new w 33 #[sv x.r.m, .int .i64 x.r.t.form, sv x.r.t.host, sv x.r.t.path, sv x.r.t.query, .int .i64 x.r.v, .slice x.af x.r.f.length x.cf, .slice x.ab x.r.b.length x.cb, .bool x.r.c, .bool x.r.e]).alloc (.cells #[sv y.r.m, .int .i64 y.r.t.form, sv y.r.t.host, sv y.r.t.path, sv y.r.t.query, .int .i64 y.r.v, .slice y.af y.r.f.length y.cf, .slice y.ab y.r.b.length y.cb, .bool y.r.c, .bool y.r.e] 33)
  have K2 := Blk.new' (w.alloc (.cells #[sv x.r.m, .int .i64 x.r.t.form, sv x.r.t.host, sv x.r.t.path, sv x.r.t.query, .int .i64 x.r.v, .slice x.af x.r.f.length x.cf, .slice x.ab x.r.b.length x.cb, .bool x.r.c, .bool x.r.e] 33)) (w.heap.size + 1) (by simp) 33 #[sv y.r.m, .int .i64 y.r.t.form, sv y.r.t.host, sv y.r.t.path, sv y.r.t.query, .int .i64 y.r.v, .slice y.af y.r.f.length y.cf, .slice y.ab y.r.b.length y.cb, .bool y.r.c, .bool y.r.e]
  go_enter Tryz.func8, Tryz.ntmps8
  go_upto_region 1 with (fail)
  generalize (w.alloc (.cells #[sv x.r.m, .int .i64 x.r.t.form, sv x.r.t.host, sv x.r.t.path, sv x.r.t.query, .int .i64 x.r.v, .slice x.af x.r.f.length x.cf, .slice x.ab x.r.b.length x.cb, .bool x.r.c, .bool x.r.e] 33)).alloc (.cells #[sv y.r.m, .int .i64 y.r.t.form, sv y.r.t.host, sv y.r.t.path, sv y.r.t.query, .int .i64 y.r.v, .slice y.af y.r.f.length y.cf, .slice y.ab y.r.b.length y.cb, .bool y.r.c, .bool y.r.e] 33) = W at L2 K1 K2 ⊢
  have R1 := h1.belowW L2
  have R2 := h2.belowW L2
  have hmW := hm.below L2 (Nat.le_refl _)
  clear h1 h2 La
  obtain ⟨⟨a0, a1, a2, a3, a4, a5, a6, a7, a8, a9⟩, -⟩ := K1.c10
  obtain ⟨⟨b0, b1, b2, b3, b4, b5, b6, b7, b8, b9⟩, -⟩ := K2.c10
  have hxf := R1.f.2
  go_wp2
  go_loopw [5, 6] (fun m i wr => ∃ (k N q : Nat), k ≤ x.r.f.length ∧ k ≤ 100 ∧ N ≤ k * 281474976710656 ∧ m = .int .i64 (N : Int) ∧ i = .int .i64 (k : Int) ∧ wr = W.drewN q) (fun _ i _ => 100 - (intOf i).toNat)
  case atStart => exact ⟨0, 0, 0, Nat.zero_le _, Nat.zero_le _, Nat.zero_le _, rfl, rfl, rfl⟩
  case round =>
    obtain ⟨k, N, q, hk, hk1, hN, rfl, rfl, rfl⟩ := hrel
    by_cases hlt : k < x.r.f.length
    · by_cases hlt2 : k < 100
      · obtain ⟨f, hf, -⟩ := drop_list x.r.f k hlt
        obtain ⟨bf, of, hAf, hbf, hcf⟩ := hxf (by omega)
        obtain ⟨c0, c1⟩ := fcells_at _ _ _ hf
        have d0 := hcf (k * 2) _ c0
        have d1 := hcf (k * 2 + 1) _ c1
        rw [← Nat.add_assoc] at d1
        obtain ⟨l1, l2⟩ := hl f (List.mem_of_getElem? hf)
        have w1 : IntKind.i64.wrap ((N : Int) + (f.1.length : Int)) = (N : Int) + (f.1.length : Int) := IntWalk.i64_in _ (by omega)
        have w2 : IntKind.i64.wrap ((N : Int) + (f.1.length : Int) + (f.2.length : Int)) = (N : Int) + (f.1.length : Int) + (f.2.length : Int) := IntWalk.i64_in _ (by omega)
        clear hf hcf c0 c1 R1 R2 K1 K2
        go_wp2_with fail
        go_quiet (fail)
        go_wp2
        go_roundw
        case rel => exact ⟨k + 1, N + f.1.length + f.2.length, q + nq, by omega, by omega, by omega, by go_num, by go_num, by simp [World.drewN]⟩
        case measure => simp [intOf]; omega
      · have h50 : 50 < x.r.f.length := by omega
        go_wp2
        go_ret
        exact ⟨rfl, below_drewN' L2 q⟩
    · have L3 := below_drewN' L2 q
      have S1 := R1.belowW (below_drewN' (Below.refl W.heap.size W) q)
      have S2 := R2.belowW (below_drewN' (Below.refl W.heap.size W) q)
      by_cases h50 : 50 < x.r.f.length
      case pos =>
        go_wp2
        go_ret
        exact ⟨rfl, L3⟩
      by_cases h51 : 50 < y.r.f.length
      case pos =>
        go_wp2
        go_ret
        exact ⟨rfl, L3⟩
      by_cases h52 : 6000 < N
      case pos =>
        go_wp2
        go_ret
        exact ⟨rfl, L3⟩
      by_cases h53 : 6000 < x.r.b.length
      case pos =>
        go_wp2
        go_ret
        exact ⟨rfl, L3⟩
      by_cases h54 : 6000 < y.r.b.length
      case pos =>
        go_wp2
        go_ret
        exact ⟨rfl, L3⟩
      have K1q := K1.drewN q
      have K2q := K2.drewN q
      have hmq := hmW.drewN q
      clear R1 R2 hxf a0 a1 a2 a3 a4 a5 a8 a9 b0 b1 b2 b3 b4 b5 b8 b9 K1 K2
      go_upto_region 8 with (fail)
      clear a6 a7 b6 b7
      generalize W.drewN q = V at L3 S1 S2 K1q K2q hmq ⊢
      have hZ : ∀ w', Below V.heap.size V w' → RH0 w.heap.size x w' ∧ RH0 (w.heap.size + 1) y w' := fun w' hb => ⟨((K1q.belowW hb).c10).1, ((K2q.belowW hb).c10).1⟩
      have Ld := (Below.refl V.heap.size V).drew
      have S0 := hZ V (Below.refl _ _)
      have Sd := hZ V.drew Ld
      have hA1 := spc_Same x y V.drew (S1.belowW Ld) (S2.belowW Ld) (by omega) (by omega)
      have hA2 := fun w' (L : Below V.heap.size V w') => law_request16 x y w' (S1.belowW L) (S2.belowW L) (by omega) (by omega)
      have hA3 := fun w' (L : Below V.heap.size V w') => spc_Same x x w' (S1.belowW L) (S1.belowW L) (by omega) (by omega)
      have hA4 := fun w' (L : Below V.heap.size V w') => law_known16 w' (hmq.below L (Nat.le_refl _))
      simp only [rqv_cells, decide_true] at hA1 hA2 hA3
      generalize decide (x.r = y.r) = D at hA1 hA2
      have hD : (D == D) = true := by simp
      clear S1 S2 K1q K2q hl hlt h50 h51 h52 h53 h54
      go_region_held3 (fun w' => RH0 w.heap.size x w' ∧ RH0 (w.heap.size + 1) y w') (first | with_reducible exact S0 | with_reducible exact Sd | with_reducible exact S5 | with_reducible exact S6 | with_reducible exact S7 | with_reducible exact S8)
        (first
          | (go_at_call 29; refine (hA2 _ N5).mono ?_; rintro e w6 ⟨rfl, L6⟩; have N6 := stepW N5 L6; have S6 := hZ w6 N6)
          | (go_at_call 27; refine (hA4 _ N7).mono ?_; rintro e w8 ⟨rfl, L8⟩; have N8 := stepW N7 L8; have S8 := hZ w8 N8)
          | (go_at_call 31; refine (hA3 _ N6).mono ?_; rintro e w7 ⟨rfl, L7⟩; have N7 := stepW N6 L7; have S7 := hZ w7 N7)
          | (go_at_call 31; refine hA1.mono ?_; rintro e w5 ⟨rfl, L5⟩; have N5 := stepW Ld L5; have S5 := hZ w5 N5))
      go_wp2
      go_ret
      exact ⟨rfl, stepW L3 N8⟩
end Go.Proofs.YtbkakoboaophoaaGreatDoor

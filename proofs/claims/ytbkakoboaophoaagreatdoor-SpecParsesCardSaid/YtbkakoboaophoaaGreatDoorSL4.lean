/- The law SpecParses. -/
import Derived.Test.YtbkakoboaophoaaGreatDoorSp5
import Derived.Test.YtbkakoboaophoaaGreatDoorQLaw3
import Derived.Deep.DeepCutAuto
import Derived.Deep.RegionHeld3
import Derived.IntWalk
namespace Go.Proofs.YtbkakoboaophoaaGreatDoor
open Go.RowKit
set_option maxRecDepth 100000
set_option maxHeartbeats 4000000

/-- What holds at the loop's head. -/
structure PaRel (W : World) (b : Bs) (n g a k j s : Nat) (cl : Bool) (r : PS) (S : Nat → Prop) (wr : World) : Prop where
  i : SpI b a k s r cl
  an : a ≤ n
  ja : j ≤ a
  fed : r.fed ≤ a
  inv : PInv r
  p : PR wr g S r
  s : ∀ k, S k → W.heap.size ≤ k
  b : Below W.heap.size W wr
theorem law_Parses16 (A : Option Addr) (n c : Nat) (b : Bs) (A2 : Option Addr) (n2 c2 : Nat) (zs : List Int) (w : World) (hA : Rd w w.heap.size 1 A n (b.map bv)) (hA2 : Rd w w.heap.size 1 A2 n2 (zs.map (Value.int .i64))) (hc : n ≤ c) (hm : ML w) :
    Calls Tryz.prog 5 #[.slice A n c, .slice A2 n2 c2] w fun e w' => e = .returned (.bool true) ∧ Below w.heap.size w w' := by
  by_cases hb : 6000 < n
  · go_enter Tryz.func5, Tryz.ntmps5
    go_wp2
    go_ret
    exact ⟨rfl, Below.refl _ _⟩
  have hle : n ≤ 6000 := by omega
  clear hb
  by_cases hb : 200 < n2
  · go_enter Tryz.func5, Tryz.ntmps5
    go_wp2
    go_ret
    exact ⟨rfl, Below.refl _ _⟩
  have hle2 : n2 ≤ 200 := by omega
  clear hb
  have hbl : b.length = n := by simpa using hA.1
  have hzl : zs.length = n2 := by simpa using hA2.1
  have kand := i64_and63
  obtain ⟨Q, ⟨U, P, T⟩, hR⟩ : ∃ R X, rdL b = (R, X) := ⟨_, _, rfl⟩
  have hC := (spc_Read A n c b w hA (by omega) hc hm).mono fun e w' h => h.q hbl hR
  have HR := Lib.hid hR
  clear hR
  go_enter Tryz.func5, Tryz.ntmps5
  go_wp2_with fail
  refine hC.mono ?_
  rintro e w2 ⟨A3, c3, l, rfl, hm2, hc3, hn2, rr2, L2⟩
  have HM2 := Lib.hid hm2
  clear hC hm2
  have La := allocW (Below.refl w2.heap.size w2) (.cells #[.int .i64 (U : Int), .int .i64 (P : Int), .int .i64 T] 42)
  have BW := Blk.new w2 42 #[.int .i64 (U : Int), .int .i64 (P : Int), .int .i64 T]
  have LW := stepW L2 La
  have hrr := rr2.belowW La
  obtain ⟨W, hW⟩ : ∃ W, W = w2.alloc (.cells #[.int .i64 (U : Int), .int .i64 (P : Int), .int .i64 T] 42) := ⟨_, rfl⟩
  rw [← hW] at La BW LW hrr
  have hmW := hm.below LW (Nat.le_refl _)
  have hA := (hA.below LW).more LW.size
  have hA2 := (hA2.below LW).more LW.size
  clear hm rr2 La
  go_wp2_with fail
  rw [← hW]
  clear hW
  refine (prs_New W).mono ?_
  rintro e w3 ⟨⟨g, S1, rfl, hK1, hS1⟩, L3⟩
  have hR0 : PaRel W b n g 0 0 0 0 false p0 S1 w3 := ⟨SpI.start b, Nat.zero_le _, Nat.le_refl _, Nat.le_refl _, p0_inv, hK1, hS1, L3⟩
  clear hK1 hS1 L3
  go_wp2
  go_loopw [8, 9, 10, 11] (fun x8 x9 x10 x11 wr => ∃ (a k j s : Nat) (cl : Bool) (r : PS) (S : Nat → Prop), x8 = .int .i64 a ∧ x9 = .int .i64 k ∧ x10 = .int .i64 j ∧ x11 = .bool cl ∧ PaRel W b n g a k j s cl r S wr) (fun x8 _ _ _ _ => n - (intOf x8).toNat)
  case atStart => exact ⟨0, 0, 0, 0, false, p0, S1, rfl, rfl, rfl, rfl, hR0⟩
  case round =>
    obtain ⟨a, k, j, s, cl, r, S, rfl, rfl, rfl, rfl, H⟩ := hrel
    have han := H.an
    have hja := H.ja
    have HLL : Hid (l.length = Q.length) := Lib.hid (by rw [← HM2.out, List.length_map])
    cases cl with
    | true =>
      obtain ⟨i1, i2, i3, i4⟩ := H.i.off rfl
      rw [HR.out] at i1 i2 i3
      dsimp only at i1 i2 i3
      have hp1 : p0.phase = 0 := rfl
      have hp2 : p0.status = 0 := rfl
      have kP := H.p
      rw [i4] at kP
      have hlk : ((k : Int) != (l.length : Int)) = false := by have hll := HLL.out; simp; omega
      have e1 : (P : Int) = ((p0).phase : Int) := by omega
      have e2 : T = (p0).status := (by rw [i3]; rfl)
      have hP := fun q => prs_Phase g _ _ _ (kP.belowW (below_drewN' (Below.refl wr.heap.size wr) q))
      have hS := fun q => prs_Status g _ _ _ (kP.belowW (below_drewN' (Below.refl wr.heap.size wr) q))
      have hK := fun q => law_known16 (wr.drewN q) (hmW.below (below_drewN' H.b q) (Nat.le_refl _))
      rw [← e1] at hP
      rw [← e2] at hS
      have hZ : ∀ w', Below W.heap.size W w' → w'.cell? ⟨w2.heap.size, 1, none⟩ = some (.int .i64 (P : Int)) ∧ w'.cell? ⟨w2.heap.size, 2, none⟩ = some (.int .i64 T) := fun w' hb => ⟨((BW.belowW hb).c3).2.1, ((BW.belowW hb).c3).2.2.1⟩
      have S0 := hZ wr H.b
      have Sd := hZ wr.drew H.b.drew
      have Sq := fun q => hZ (wr.drewN q) (below_drewN' H.b q)
      have LL := fun q => stepW H.b (below_drewN' (Below.refl wr.heap.size wr) q)
      clear hrr hA hA2
      go_wp2_with fail
      go_region_held3 (fun w' => w'.cell? ⟨w2.heap.size, 1, none⟩ = some (.int .i64 (P : Int)) ∧ w'.cell? ⟨w2.heap.size, 2, none⟩ = some (.int .i64 T)) (first | with_reducible exact S0 | with_reducible exact Sq _ | with_reducible exact Sd | with_reducible exact S8) (first
        | (go_at_call 28; refine (hP _).mono ?_; rintro e w6 ⟨rfl, rfl⟩)
        | (go_at_call 30; refine (hS _).mono ?_; rintro e w7 ⟨rfl, rfl⟩)
        | (go_at_call 27; refine (hK _).mono ?_; rintro e w8 ⟨rfl, L8⟩; have S8 := hZ w8 (stepW (LL _) L8)))
      go_wp2
      go_ret
      exact ⟨rfl, stepW LW (stepW (LL _) L8)⟩
    | false =>
      by_cases hlt : a < n
      case neg =>
        obtain ⟨i1, i2, i3⟩ := H.i.end_ (by omega)
        rw [HR.out] at i1 i2 i3
        dsimp only at i1 i2 i3
        have kP := H.p
        have hlk : ((k : Int) != (l.length : Int)) = false := by have hll := HLL.out; simp; omega
        have e1 : (P : Int) = ((r).phase : Int) := by omega
        have e2 : T = (r).status := i3
        have hP := fun q => prs_Phase g _ _ _ (kP.belowW (below_drewN' (Below.refl wr.heap.size wr) q))
        have hS := fun q => prs_Status g _ _ _ (kP.belowW (below_drewN' (Below.refl wr.heap.size wr) q))
        have hK := fun q => law_known16 (wr.drewN q) (hmW.below (below_drewN' H.b q) (Nat.le_refl _))
        rw [← e1] at hP
        rw [← e2] at hS
        have hZ : ∀ w', Below W.heap.size W w' → w'.cell? ⟨w2.heap.size, 1, none⟩ = some (.int .i64 (P : Int)) ∧ w'.cell? ⟨w2.heap.size, 2, none⟩ = some (.int .i64 T) := fun w' hb => ⟨((BW.belowW hb).c3).2.1, ((BW.belowW hb).c3).2.2.1⟩
        have S0 := hZ wr H.b
        have Sd := hZ wr.drew H.b.drew
        have Sq := fun q => hZ (wr.drewN q) (below_drewN' H.b q)
        have LL := fun q => stepW H.b (below_drewN' (Below.refl wr.heap.size wr) q)
        clear hrr hA hA2
        go_wp2_with fail
        go_region_held3 (fun w' => w'.cell? ⟨w2.heap.size, 1, none⟩ = some (.int .i64 (P : Int)) ∧ w'.cell? ⟨w2.heap.size, 2, none⟩ = some (.int .i64 T)) (first | with_reducible exact S0 | with_reducible exact Sq _ | with_reducible exact Sd | with_reducible exact S8) (first
          | (go_at_call 28; refine (hP _).mono ?_; rintro e w6 ⟨rfl, rfl⟩)
          | (go_at_call 30; refine (hS _).mono ?_; rintro e w7 ⟨rfl, rfl⟩)
          | (go_at_call 27; refine (hK _).mono ?_; rintro e w8 ⟨rfl, L8⟩; have S8 := hZ w8 (stepW (LL _) L8)))
        go_wp2
        go_ret
        exact ⟨rfl, stepW LW (stepW (LL _) L8)⟩
      obtain ⟨D, hD⟩ : ∃ D : Nat, D = n - a := ⟨_, rfl⟩
      have hD2 : (n : Int) - (a : Int) = (D : Int) := by omega
      have hDn : D + a = n := by omega
      have hD0 : 0 < D := by omega
      have HDn := Lib.hid hDn
      clear hD hDn
      have hAr2 := hA2.below H.b
      go_upto_if 45 with (fail)
      go_cut [12] (fun v wx => ∃ m : Nat, v = .int .i64 m ∧ 0 < m ∧ m ≤ D ∧ wr = wx)
      case first =>
        by_cases hjn : j < n2
        · obtain ⟨z, hz, -⟩ := drop_list zs j (by omega)
          obtain ⟨b1, o1, rfl, hb1, hx1⟩ := hAr2.2 (by omega)
          have cx := hx1 j (.int .i64 z) (map_get _ _ _ _ hz)
          clear hz hx1
          have wz : IntKind.i64.wrap (1 + z % 64) = 1 + z % 64 := IntWalk.i64_in _ (by omega)
          go_wp2_with fail
          go_meet
          case rel => exact ⟨min D (1 + z % 64).toNat, by rw [Value.int.injEq]; exact ⟨rfl, by omega⟩, by omega, by omega, rfl⟩
        · go_wp2_with fail
          go_meet
          case rel => exact ⟨D, rfl, hD0, Nat.le_refl _, rfl⟩
      case rest =>
        obtain ⟨m, rfl, hm0, hmD, rfl⟩ := hcut
        have hDn := HDn.out
        obtain ⟨q, hq⟩ : ∃ q, q = pFeed r ((b.drop a).take m) := ⟨_, rfl⟩
        obtain ⟨q1, q2, q3, q4, q5⟩ := H.i.step hm0 (by omega) q hq
        have hqf : q.2.fed ≤ a + q.1 := by rw [hq]; have := pFeed_fed ((b.drop a).take m) r; have := H.fed; omega
        have hll2 : (b.drop a).length = n - a := by rw [List.length_drop, hbl]
        obtain ⟨b1, o1, rfl, -, -⟩ := hA.2 (by omega)
        have hRd : RdO wr S (some ⟨b1, o1, none⟩) n (b.map bv) := ⟨(hA.below H.b).more H.b.size, hA.off H.s⟩
        have r1 := hRd.part (V := some ⟨b1, o1 + a, none⟩) (a := a) (m := m) (by omega) (fun _ => by rw [Option.map_some, add_lit'])
        have hlt' : ∀ k, S k → k < wr.heap.size := fun k hk => H.p.lt hk
        have Lc := allocW (Below.refl wr.heap.size wr) (.cells #[.slice (some ⟨b1, o1 + a, none⟩) m (c - a)] 22)
        have rp := RdP.one hlt' wr.heap.size rfl 22 _ (by rw [List.length_take, hll2]; omega) r1 (show m ≤ c - a by omega)
        have hF := prs_FeedP g S r _ 1 1 _ _ (H.p.belowW Lc) H.inv rp (by simp only [List.flatten_cons, List.flatten_nil, List.append_nil, List.length_take]; omega) (by have := H.fed; omega) (hmW.below (stepW H.b Lc) (Nat.le_refl _)) (hi_of hmW H.s) (by decide)
        rw [List.flatten_cons, List.flatten_nil, List.append_nil, ← hq] at hF
        have HQ := Lib.hid hq
        have w1 : IntKind.i64.wrap ((a : Int) + (m : Int)) = (a : Int) + (m : Int) := IntWalk.i64_in _ (by omega)
        have w2' : IntKind.i64.wrap ((a : Int) + (q.1 : Int)) = (a : Int) + (q.1 : Int) := IntWalk.i64_in _ (by omega)
        have w3' : IntKind.i64.wrap ((j : Int) + 1) = (j : Int) + 1 := IntWalk.i64_in _ (by omega)
        have t1 : ((a : Int) + (m : Int)).toNat = a + m := by omega
        have c1 : (a : Int) + (m : Int) ≤ (c : Int) := by omega
        have c2' : a + m - a = m := by omega
        have c3' : ¬ c = a := by omega
        have z1 : ¬ ((q.1 : Int) < 0) := by omega
        have z2 : ¬ ((m : Int) < (q.1 : Int)) := by omega
        have z3 : ((q.1 : Int) == 0) = false := by simp; omega
        clear hq r1 rp hll2
        go_wp2_with fail
        refine hF.mono ?_
        rintro e w5 ⟨rfl, hi5, S5, k5, m5⟩
        have L5 := moved_below m5 (stepW H.b Lc) H.s
        have hS5 := moved_hs m5 (Nat.le_trans H.b.size Lc.size) H.s
        have hPh := prs_Phase g S5 q.2 w5 k5
        clear hF hRd m5 Lc hlt'
        by_cases h4 : q.2.phase = 4
        · obtain ⟨i1, i2, i3⟩ := q3 h4
          rw [HR.out] at i1 i2 i3
          dsimp only at i1 i2 i3
          have hph4 : ((q.2.phase : Int) == 4) = true := by simp; omega
          clear q3 q4 q5
          go_wp2_with fail
          refine hPh.mono ?_
          rintro e w6 ⟨rfl, rfl⟩
          have hlk : ((k : Int) != (l.length : Int)) = false := by have hll := HLL.out; simp; omega
          have e1 : (P : Int) = ((q.2).phase : Int) := by omega
          have e2 : T = (q.2).status := i3
          have hP := fun q => prs_Phase g _ _ _ (k5.belowW (below_drewN' (Below.refl w5.heap.size w5) q))
          have hS := fun q => prs_Status g _ _ _ (k5.belowW (below_drewN' (Below.refl w5.heap.size w5) q))
          have hK := fun q => law_known16 (w5.drewN q) (hmW.below (below_drewN' L5 q) (Nat.le_refl _))
          rw [← e1] at hP
          rw [← e2] at hS
          have hZ : ∀ w', Below W.heap.size W w' → w'.cell? ⟨w2.heap.size, 1, none⟩ = some (.int .i64 (P : Int)) ∧ w'.cell? ⟨w2.heap.size, 2, none⟩ = some (.int .i64 T) := fun w' hb => ⟨((BW.belowW hb).c3).2.1, ((BW.belowW hb).c3).2.2.1⟩
          have S0 := hZ w5 L5
          have Sd := hZ w5.drew L5.drew
          have Sq := fun q => hZ (w5.drewN q) (below_drewN' L5 q)
          have LL := fun q => stepW L5 (below_drewN' (Below.refl w5.heap.size w5) q)
          clear hrr hA hA2
          go_wp2_with fail
          go_region_held3 (fun w' => w'.cell? ⟨w2.heap.size, 1, none⟩ = some (.int .i64 (P : Int)) ∧ w'.cell? ⟨w2.heap.size, 2, none⟩ = some (.int .i64 T)) (first | with_reducible exact S0 | with_reducible exact Sq _ | with_reducible exact Sd | with_reducible exact S8) (first
            | (go_at_call 28; refine (hP _).mono ?_; rintro e w6 ⟨rfl, rfl⟩)
            | (go_at_call 30; refine (hS _).mono ?_; rintro e w7 ⟨rfl, rfl⟩)
            | (go_at_call 27; refine (hK _).mono ?_; rintro e w8 ⟨rfl, L8⟩; have S8 := hZ w8 (stepW (LL _) L8)))
          go_wp2
          go_ret
          exact ⟨rfl, stepW LW (stepW (LL _) L8)⟩
        have hph4 : ((q.2.phase : Int) == 4) = false := by simp; omega
        by_cases h3 : q.2.phase = 3
        case neg =>
          have hq5 := q5 (by have := hi5.ph; omega)
          have hph3 : ((q.2.phase : Int) != 3) = true := by simp; omega
          go_wp2_with fail
          refine hPh.mono ?_
          rintro e w6 ⟨rfl, rfl⟩
          go_wp2_with fail
          refine hPh.mono ?_
          rintro e w6 ⟨rfl, rfl⟩
          go_wp2_with fail
          go_roundw
          case rel =>
            exact ⟨a + q.1, k, j + 1, s, false, q.2, S5, by go_num, rfl, by go_num, rfl, ⟨hq5, by omega, by omega, hqf, hi5, k5, hS5, L5⟩⟩
          case measure => simp [intOf]; omega
        obtain ⟨i1, i2, i3⟩ := q4 h3
        rw [HR.out] at i1 i2
        dsimp only at i1 i2
        have hph3 : ((q.2.phase : Int) != 3) = false := by simp; omega
        have hT := prs_TakeW g S5 q.2 w5 k5 hi5 h3
        unfold TakeW at hT
        obtain ⟨R, hR⟩ : ∃ R, R = rqOf q.2 := ⟨_, rfl⟩
        have hRc : q.2.head.how.close = R.c := by rw [hR]; rfl
        rw [hRc] at i3
        rw [← hR] at i1
        have hRs : R.f.length ≤ 100000 ∧ R.b.length ≤ 100000 := by
          have h9 := rT_len q.2 hi5
          rw [show rT q.2 = rqOf q.2 from if_pos h3, ← hR] at h9
          exact h9
        rw [← hR] at hT
        simp only [rqv_cells] at hT
        obtain ⟨y, hy, hyr⟩ : ∃ y, l[k]? = some y ∧ y.r = R := by
          rw [← HM2.out, List.getElem?_map, Option.map_eq_some_iff] at i1
          exact i1
        obtain ⟨bl, ol, rfl, hbl2, hY⟩ := hrr.at_ hy
        have hym := List.mem_of_getElem? hy
        have hYc : RC bl (ol + k * 10) y W := hY
        clear hR hRc q3 q4 q5 i1 hy hY
        go_wp2_with fail
        refine hPh.mono ?_
        rintro e w6 ⟨rfl, rfl⟩
        go_wp2_with fail
        refine hPh.mono ?_
        rintro e w6 ⟨rfl, rfl⟩
        go_wp2_with fail
        refine hT.mono ?_
        rintro e w7 ⟨AF, cF, AB, cB, rfl, hr7, -, S7, k7, m7, -⟩
        have L7 := moved_below m7 L5 hS5
        have hS7 := moved_hs m7 L5.size hS5
        have La := allocW (Below.refl w7.heap.size w7) (.cells #[sv R.m, .int .i64 R.t.form, sv R.t.host, sv R.t.path, sv R.t.query, .int .i64 R.v, .slice AF R.f.length cF, .slice AB R.b.length cB, .bool R.c, .bool R.e] 33)
        have Ba := Blk.new w7 33 #[sv R.m, .int .i64 R.t.form, sv R.t.host, sv R.t.path, sv R.t.query, .int .i64 R.v, .slice AF R.f.length cF, .slice AB R.b.length cB, .bool R.c, .bool R.e]
        have k8 := k7.belowW La
        have L8 := stepW L7 La
        have hr8 := hr7.belowW La
        go_upto_region 19 with (fail)
        generalize w7.alloc (.cells #[sv R.m, .int .i64 R.t.form, sv R.t.host, sv R.t.path, sv R.t.query, .int .i64 R.v, .slice AF R.f.length cF, .slice AB R.b.length cB, .bool R.c, .bool R.e] 33) = w8 at La Ba k8 L8 hr8 ⊢
        have hC : ∀ q, Calls Tryz.prog 29 #[.agg #[sv R.m, .int .i64 R.t.form, sv R.t.host, sv R.t.path, sv R.t.query, .int .i64 R.v, .slice AF R.f.length cF, .slice AB R.b.length cB, .bool R.c, .bool R.e], .agg #[sv y.r.m, .int .i64 y.r.t.form, sv y.r.t.host, sv y.r.t.path, sv y.r.t.query, .int .i64 y.r.v, .slice y.af y.r.f.length y.cf, .slice y.ab y.r.b.length y.cb, .bool y.r.c, .bool y.r.e]] (w8.drewN q) fun e w' => e = .returned (.bool true) ∧ Below (w8.drewN q).heap.size (w8.drewN q) w' := by
          intro q
          have Lq := below_drewN' (Below.refl w8.heap.size w8) q
          have h9 := law_request16 ⟨R, AF, cF, AB, cB⟩ y (w8.drewN q) (hr8.belowW Lq) ((hrr.rq y hym).belowW (stepW L8 Lq)) hRs.1 hRs.2
          rw [decide_eq_true hyr.symm] at h9
          exact h9
        have hZ : ∀ w', Below w8.heap.size w8 w' → RH0 w7.heap.size ⟨R, AF, cF, AB, cB⟩ w' ∧ RC bl (ol + k * 10) y w' := fun w' hb => ⟨((Ba.belowW hb).c10).1, hYc.belowW (stepW L8 hb) hbl2⟩
        have S0 := hZ w8 (Below.refl _ _)
        have Sd := hZ w8.drew (Below.refl w8.heap.size w8).drew
        have Sq := fun q => hZ (w8.drewN q) (below_drewN' (Below.refl w8.heap.size w8) q)
        have LL := fun q => below_drewN' (Below.refl w8.heap.size w8) q
        have hll := HLL.out
        have hkl : decide ((l.length : Int) ≤ (k : Int)) = false := decide_eq_false (by omega)
        have hkl2 : decide (l.length ≤ k) = false := decide_eq_false (by omega)
        have hkl5 : k < l.length := by omega
        have hkl3 : decide ((k : Int) ≥ (l.length : Int)) = false := decide_eq_false (by omega)
        have hkl4 : decide ((k : Int) < (l.length : Int)) = true := decide_eq_true (by omega)
        clear hll
        clear hrr hYc hyr hym hT hA hA2 hr7 hr8 m7 k7 Ba
        go_region_held3 (fun w' => RH0 w7.heap.size ⟨R, AF, cF, AB, cB⟩ w' ∧ RC bl (ol + k * 10) y w') (first | with_reducible exact S0 | with_reducible exact Sq _ | with_reducible exact Sd | with_reducible exact S9) ((go_at_call 29; refine (hC _).mono ?_; rintro e w9 ⟨rfl, L9⟩; have S9 := hZ w9 (stepW (LL _) L9)))
        obtain ⟨⟨d0, d1, d2, d3, d4, d5, d6, d7, d8, d9⟩, -⟩ := S9
        have L10 := stepW (LL _) L9
        go_wp2_with fail
        go_roundw
        case rel => exact ⟨a + q.1, k + 1, j + 1, a + q.1, R.c, p0, S7, by go_num, by go_num, by go_num, rfl, ⟨i3, by omega, by omega, Nat.zero_le _, p0_inv, k8.belowW L10, hS7, stepW L8 L10⟩⟩
        case measure => simp [intOf]; omega
end Go.Proofs.YtbkakoboaophoaaGreatDoor

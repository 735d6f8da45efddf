/- usherlaw12: FramingLengths. -/
import Derived.Test.YtfpojnijjpojlaaGreatDoorFLaw4
namespace Go.Proofs.YtfpojnijjpojlaaGreatDoor
open Go.RowKit
set_option maxRecDepth 100000
set_option maxHeartbeats 4000000

def nOf (z : Int) : Nat := (z % 4096).toNat
theorem nOf_lt (z : Int) : nOf z < 4096 := by unfold nOf; omega
theorem nOf_eq (z : Int) : z % 4096 = (nOf z : Int) := by unfold nOf; omega
theorem ns_lt (zs : List Int) : ∀ k ∈ zs.map nOf, k < 4096 := by
  intro k hk; obtain ⟨z, -, rfl⟩ := List.mem_map.1 hk; exact nOf_lt z
theorem digs_4096 (n : Nat) (h : n < 4096) : (digs 10 n).length ≤ 4 := digs_len' 10 (by omega) 3 n (by omega)
theorem lens_sz (zs : List Int) (coded : Bool) : FdSz (lenRow (zs.map nOf) coded) := by
  intro f hf
  rw [lenRow, List.mem_cons, List.mem_append] at hf
  rcases hf with rfl | hf | hf
  · decide +kernel
  · obtain ⟨k, hk, rfl⟩ := List.mem_map.1 hf
    have := digs_4096 k (ns_lt zs k hk)
    exact ⟨by show clN.length ≤ _; decide, by show (digs 10 k).length ≤ _; omega⟩
  · cases coded
    · simp at hf
    · simp at hf; rw [hf]; decide +kernel
theorem law_FLengths (minor : Int) (A : Option Addr) (n c : Nat) (zs : List Int) (coded : Bool) (w : World) (hA : Rd w w.heap.size 1 A n (zs.map iv)) (hm : ML w) (hm0 : -9223372036854775808 ≤ minor) (hm1 : minor ≤ 9223372036854775807) :
    Calls Tryz.prog 8 #[.int .i64 minor, .slice A n c, .bool coded] w fun e w' => e = .returned (.bool true) ∧ Below w.heap.size w w' := by
  have hzn : zs.length = n := by simpa using hA.1
  by_cases hbig : 15 < n
  · go_enter Tryz.func8, Tryz.ntmps8
    go_wp2
    go_ret
    exact ⟨rfl, Below.refl _ _⟩
  · go_enter Tryz.func8, Tryz.ntmps8
    go_wp2
    have ho0 : OF (w.alloc (.cells (fcells [hostAF]).toArray 39)) w.heap.size (.slice (some ⟨w.heap.size, 0, none⟩) 1 1) [hostAF] := Own.lit w _ rfl w.heap.size (Nat.le_refl _) _ 2 1 (fcells [hostAF]) rfl (by decide)
    go_loopw [7, 8, 9] (fun v sm i wr => ∃ k : Nat, k ≤ n ∧ i = .int .i64 k ∧ (∃ sb, sm = .bool sb ∧ Hid (sb = ((zs.take k).map nOf).all (fun x => decide (x = (zs.map nOf).headD 0)))) ∧ OF wr w.heap.size v (hostAF :: ((zs.take k).map nOf).map lenF) ∧ Below w.heap.size w wr) (fun _ _ i _ => n - (intOf i).toNat)
    case atStart => exact ⟨0, Nat.zero_le _, rfl, ⟨true, rfl, Lib.hid rfl⟩, ho0, allocW (Below.refl _ _) _⟩
    case round =>
      obtain ⟨k, hk, rfl, ⟨sb, rfl, HSb⟩, ho, L⟩ := hrel
      clear ho0
      by_cases hlt : k < n
      · obtain ⟨z, hz⟩ : ∃ z, zs[k]? = some z := ⟨_, List.getElem?_eq_getElem (by omega)⟩
        obtain ⟨z0, hz0⟩ : ∃ z, zs[0]? = some z := ⟨_, List.getElem?_eq_getElem (by omega)⟩
        have hhd : (zs.map nOf).headD 0 = nOf z0 := by
          cases zs with
          | nil => simp at hz0
          | cons x xs => simp at hz0; subst hz0; rfl
        obtain ⟨b, o, rfl, hb, x0⟩ := (hA.belowW (Nat.le_refl _) L).iv k z hz
        have hks := nOf_eq z
        have hk0 := nOf_eq z0
        have hand := i64_and4095 z
        have hand0 := i64_and4095 z0
        have hdl := digs_4096 _ (nOf_lt z)
        have hall : (zs.take (k + 1)).map nOf = (zs.take k).map nOf ++ [nOf z] := by rw [List.take_add_one, hz]; simp
        have HA := Lib.hid hall
        have HSn : Hid ((sb && decide (nOf z = nOf z0)) = ((zs.take (k + 1)).map nOf).all (fun x => decide (x = (zs.map nOf).headD 0))) := by
          rw [hall, List.all_append, ← HSb.out, hhd]; exact Lib.hid (by simp)
        have Hz := Lib.hid hz
        have Hz0 := Lib.hid hz0
        have hSw := L.size
        have hlen : (hostAF :: ((zs.take k).map nOf).map lenF).length ≤ 16 := by simp; omega
        clear hz hz0 hall hhd HSb
        generalize hkz : nOf z = kz at *
        generalize hkz0 : nOf z0 = kz0 at *
        go_wp2_with fail
        refine (ref_Dec (kz : Int) wr (by omega)).mono ?_
        rw [show ((kz : Int)).toNat = kz by omega]
        rintro e w1 ⟨rfl, L1⟩
        have K1 := stepW L L1
        have ho1 := ho.belowW L1
        have hS1 := L1.size
        cases sb
        · go_wp2_with (at_builtin; refine wp_appF rfl _ _ rfl w.heap.size _ _ rfl ho1 (allocW (Below.refl _ _) _) (some ⟨w1.heap.size, 0, none⟩) 1 1 (w1.heap.size + 1) rfl [lenF kz] rfl (Rd.new w1 _ rfl [sv clN, sv (digs 10 kz)] _ 1 2 rfl) (by simp at hlen ⊢; omega) (by omega) ?_; intro v' w2 ho2 hx)
          have L2 := hx.below ho1 (Nat.le_refl _) (by omega)
          have hf : ∀ n, Below w.heap.size w (w2.drewN n) := fun n => below_drewN' (K1.trans L2) n
          go_quiet (fail)
          go_wp2
          go_roundw
          case rel => exact ⟨k + 1, by omega, by go_num, ⟨_, rfl, by rw [← HSn.out]; exact Lib.hid rfl⟩, by rw [HA.out, List.map_append, ← List.cons_append]; exact Own.drewN ho2 _, hf _⟩
          case measure => simp [intOf]; omega
        · have h0n : (0 : Int) < (n : Int) := by omega
          have hkn : (k : Int) < (n : Int) := by omega
          obtain ⟨eb, heb⟩ : ∃ eb, decide (kz = kz0) = eb := ⟨_, rfl⟩
          have hkb : ((kz : Int) == (kz0 : Int)) = eb := by rw [← heb, Bool.eq_iff_iff, beq_iff_eq, decide_eq_true_eq]; omega
          rw [heb] at HSn
          clear heb
          cases eb
          all_goals
            go_wp2_with (at_builtin; refine wp_appF rfl _ _ rfl w.heap.size _ _ rfl ho1 (allocW (Below.refl _ _) _) (some ⟨w1.heap.size, 0, none⟩) 1 1 (w1.heap.size + 1) rfl [lenF kz] rfl (Rd.new w1 _ rfl [sv clN, sv (digs 10 kz)] _ 1 2 rfl) (by simp at hlen ⊢; omega) (by omega) ?_; intro v' w2 ho2 hx)
            have L2 := hx.below ho1 (Nat.le_refl _) (by omega)
            have K2 := K1.trans L2
            have hf : ∀ n, Below w.heap.size w (w2.drewN n) := fun n => below_drewN' K2 n
            obtain ⟨b2, o2, e2, -, x2⟩ := (hA.belowW (Nat.le_refl _) K2).iv k z Hz.out
            injection e2 with e2
            injection e2 with e2 e3
            subst e2 e3
            obtain ⟨b2, o2, e2, -, x3⟩ := (hA.belowW (Nat.le_refl _) K2).iv 0 z0 Hz0.out
            injection e2 with e2
            injection e2 with e2 e3
            subst e2 e3
            rw [Nat.add_zero] at x3
            go_quiet (fail)
            go_wp2
            go_roundw
            case rel => exact ⟨k + 1, by omega, by go_num, ⟨_, rfl, by rw [← HSn.out]; exact Lib.hid rfl⟩, by rw [HA.out, List.map_append, ← List.cons_append]; exact Own.drewN ho2 _, hf _⟩
            case measure => simp [intOf]; omega
      · have hkn : k = n := by omega
        subst hkn
        rw [List.take_of_length_le (by omega)] at ho HSb
        have hns := ns_lt zs
        have hkl : (zs.map nOf).length = k := by simp; omega
        obtain ⟨F1, F2, F3, F4, F5, F6⟩ := frm_lens (decide (1 ≤ minor)) coded (zs.map nOf) hns
        rw [hkl] at F1 F2 F3 F4 F5 F6
        have HA1 := Lib.hid hA
        have G1 := Lib.hid F1
        have G2 := Lib.hid F2
        have G3 := Lib.hid F3
        have G4 := Lib.hid F4
        have G5 := Lib.hid F5
        have G6 := Lib.hid F6
        clear F1 F2 F3 F4 F5 F6 hns
        cases coded
        · have hcF : hostAF :: (zs.map nOf).map lenF = lenRow (zs.map nOf) false := by simp [lenRow]
          rw [hcF] at ho
          clear hcF
          have hqn : (lenRow (zs.map nOf) false).length = k + 1 := by simp [lenRow]; omega
          have HAD := Lib.hid (show (addL [] (lenRow (zs.map nOf) false) 0).1 = lenRow (zs.map nOf) false by rw [addL_all _ _ _ (lenRow_ok _ _) (by rw [hqn]; simp; omega)]; rfl)
          have hfz0 := lens_sz zs false
          generalize hq : lenRow (zs.map nOf) false = q at *
          clear hq
          rcases Nat.eq_zero_or_pos k with h0 | h0
          · subst h0
            have hfz := hfz0
            have HADx := HAD
            obtain ⟨Af, cf, hvv, hc1, hc2, hrd⟩ := ho.form
            have hln : q.length = 0 + 1 := hqn
            rw [hln] at hrd hvv
            subst hvv
            go_wp2_with fail
            refine (fld_Of (0 + 1) cf Af q wr hrd hfz (by omega)).mono ?_
            rw [HAD.out]
            rintro e w1 ⟨⟨g, v, rfl, hF⟩, L1⟩
            have K1 := stepW L L1
            go_wp2_with fail
            refine (law12_of minor Af (0 + 1) cf _ q w1 (hrd.belowW (Nat.le_refl _) L1) L1.size hfz (by omega) (hm.below K1 (Nat.le_refl _)) hm0 hm1).mono ?_
            rintro e w2 ⟨rfl, L2⟩
            have K2 := stepW K1 L2
            have hF2 := hF.rd.belowW L2
            go_wp2_with fail
            refine (frm_Of minor (some ⟨g, 0, none⟩) q w2 (.inr ⟨g, rfl, hF2⟩) (by omega) hfz (hm.below K2 (Nat.le_refl _))).mono ?_
            clear HAD HADx hF hF2 hrd ho
            obtain ⟨fb, hkk⟩ : ∃ fb : Bool, frmL (decide (1 ≤ minor)) q = (⟨0, 0, fb, false⟩, 0) := ⟨_, G3.out (by trivial) (by trivial)⟩
            have HFR := Lib.hid hkk
            clear hkk G1 G2 G3 G4 G5 G6
            rw [HFR.out, howR_mk]
            rintro e w3 ⟨rfl, L3⟩
            have K3 := stepW K2 L3
            have LW : Below w.heap.size w (w3.alloc (.cells (howC ⟨0, 0, fb, false⟩) 44)) := allocW K3 _
            obtain ⟨j0, j1, j2, j3, -, -, -, -⟩ := (Blk.new' w3 w3.heap.size rfl 44 (howC ⟨0, 0, fb, false⟩)).c4
            go_wp2_with fail
            refine (law12_known _ (hm.below LW (Nat.le_refl _))).mono ?_
            rintro e w4 ⟨rfl, L4⟩
            go_wp2
            go_ret
            exact ⟨rfl, stepW LW L4⟩
          · have h0i : (0 : Int) < (k : Int) := by omega
            have h0b : ((k : Int) == 0) = false := by rw [Bool.eq_false_iff]; intro h; have := beq_iff_eq.1 h; omega
            obtain ⟨z0, hz0⟩ : ∃ z, zs[0]? = some z := ⟨_, List.getElem?_eq_getElem (by omega)⟩
            have hhd : (zs.map nOf).headD 0 = nOf z0 := by
              cases zs with
              | nil => simp at hz0
              | cons x xs => simp at hz0; subst hz0; rfl
            have hk0 := nOf_eq z0
            have hand0 := i64_and4095 z0
            have G5 := Lib.hid (show _ from by have h := G5.out; rw [hhd] at h; exact h)
            have G6 := Lib.hid (show _ from by have h := G6.out; rw [hhd] at h; exact h)
            have Hz0 := Lib.hid hz0
            clear hz0 hhd
            generalize hkz0 : nOf z0 = kz0 at *
            have HS := Lib.hid (show sb = allN (zs.map nOf) from HSb.out)
            clear HSb
            cases sb
            · have hfz := hfz0
              have HADx := HAD
              obtain ⟨Af, cf, hvv, hc1, hc2, hrd⟩ := ho.form
              have hln : q.length = k + 1 := hqn
              rw [hln] at hrd hvv
              subst hvv
              go_wp2_with fail
              refine (fld_Of (k + 1) cf Af q wr hrd hfz (by omega)).mono ?_
              rw [HAD.out]
              rintro e w1 ⟨⟨g, v, rfl, hF⟩, L1⟩
              have K1 := stepW L L1
              go_wp2_with fail
              refine (law12_of minor Af (k + 1) cf _ q w1 (hrd.belowW (Nat.le_refl _) L1) L1.size hfz (by omega) (hm.below K1 (Nat.le_refl _)) hm0 hm1).mono ?_
              rintro e w2 ⟨rfl, L2⟩
              have K2 := stepW K1 L2
              have hF2 := hF.rd.belowW L2
              go_wp2_with fail
              refine (frm_Of minor (some ⟨g, 0, none⟩) q w2 (.inr ⟨g, rfl, hF2⟩) (by omega) hfz (hm.below K2 (Nat.le_refl _))).mono ?_
              clear HAD HADx hF hF2 hrd ho
              obtain ⟨kk, hkk⟩ : ∃ kk, frmL (decide (1 ≤ minor)) q = (kk, 400) := ⟨_, Prod.ext rfl (G4.out (by trivial) h0 HS.out.symm)⟩
              have HFR := Lib.hid hkk
              clear hkk G1 G2 G3 G4 G5 G6
              rw [HFR.out, howR_mk]
              rintro e w3 ⟨rfl, L3⟩
              have K3 := stepW K2 L3
              have LW : Below w.heap.size w (w3.alloc (.cells (howC kk) 44)) := allocW K3 _
              obtain ⟨j0, j1, j2, j3, -, -, -, -⟩ := (Blk.new' w3 w3.heap.size rfl 44 (howC kk)).c4
              go_wp2_with fail
              refine (law12_known _ (hm.below LW (Nat.le_refl _))).mono ?_
              rintro e w4 ⟨rfl, L4⟩
              go_wp2
              go_ret
              exact ⟨rfl, stepW LW L4⟩
            · by_cases hbig2 : 2048 < kz0
              · have hb2 : (2048 : Int) < (kz0 : Int) := by omega
                have HB2 := Lib.hid hbig2
                have hfz := hfz0
                have HADx := HAD
                obtain ⟨Af, cf, hvv, hc1, hc2, hrd⟩ := ho.form
                have hln : q.length = k + 1 := hqn
                rw [hln] at hrd hvv
                subst hvv
                go_wp2_with fail
                refine (fld_Of (k + 1) cf Af q wr hrd hfz (by omega)).mono ?_
                rw [HAD.out]
                rintro e w1 ⟨⟨g, v, rfl, hF⟩, L1⟩
                have K1 := stepW L L1
                go_wp2_with fail
                refine (law12_of minor Af (k + 1) cf _ q w1 (hrd.belowW (Nat.le_refl _) L1) L1.size hfz (by omega) (hm.below K1 (Nat.le_refl _)) hm0 hm1).mono ?_
                rintro e w2 ⟨rfl, L2⟩
                have K2 := stepW K1 L2
                have hF2 := hF.rd.belowW L2
                go_wp2_with fail
                refine (frm_Of minor (some ⟨g, 0, none⟩) q w2 (.inr ⟨g, rfl, hF2⟩) (by omega) hfz (hm.below K2 (Nat.le_refl _))).mono ?_
                clear HAD HADx hF hF2 hrd ho
                obtain ⟨kk, hkk⟩ : ∃ kk, frmL (decide (1 ≤ minor)) q = (kk, 413) := ⟨_, Prod.ext rfl (G5.out (by trivial) h0 HS.out.symm HB2.out)⟩
                have HFR := Lib.hid hkk
                clear hkk G1 G2 G3 G4 G5 G6
                rw [HFR.out, howR_mk]
                rintro e w3 ⟨rfl, L3⟩
                have K3 := stepW K2 L3
                have LW : Below w.heap.size w (w3.alloc (.cells (howC kk) 44)) := allocW K3 _
                obtain ⟨j0, j1, j2, j3, -, -, -, -⟩ := (Blk.new' w3 w3.heap.size rfl 44 (howC kk)).c4
                obtain ⟨b2, o2, rfl, -, x3⟩ := (HA1.out.belowW (Nat.le_refl _) LW).iv 0 z0 Hz0.out
                rw [Nat.add_zero] at x3
                go_wp2_with fail
                refine (law12_known _ (hm.below LW (Nat.le_refl _))).mono ?_
                rintro e w4 ⟨rfl, L4⟩
                go_wp2
                go_ret
                exact ⟨rfl, stepW LW L4⟩
              · have hb2 : ¬ (2048 : Int) < (kz0 : Int) := by omega
                have hfz := hfz0
                have HADx := HAD
                obtain ⟨Af, cf, hvv, hc1, hc2, hrd⟩ := ho.form
                have hln : q.length = k + 1 := hqn
                rw [hln] at hrd hvv
                subst hvv
                go_wp2_with fail
                refine (fld_Of (k + 1) cf Af q wr hrd hfz (by omega)).mono ?_
                rw [HAD.out]
                rintro e w1 ⟨⟨g, v, rfl, hF⟩, L1⟩
                have K1 := stepW L L1
                go_wp2_with fail
                refine (law12_of minor Af (k + 1) cf _ q w1 (hrd.belowW (Nat.le_refl _) L1) L1.size hfz (by omega) (hm.below K1 (Nat.le_refl _)) hm0 hm1).mono ?_
                rintro e w2 ⟨rfl, L2⟩
                have K2 := stepW K1 L2
                have hF2 := hF.rd.belowW L2
                go_wp2_with fail
                refine (frm_Of minor (some ⟨g, 0, none⟩) q w2 (.inr ⟨g, rfl, hF2⟩) (by omega) hfz (hm.below K2 (Nat.le_refl _))).mono ?_
                clear HAD HADx hF hF2 hrd ho
                obtain ⟨fb, hkk⟩ : ∃ fb : Bool, frmL (decide (1 ≤ minor)) q = (⟨1, (kz0 : Int), fb, false⟩, 0) := ⟨_, G6.out (by trivial) h0 HS.out.symm (by omega)⟩
                have HFR := Lib.hid hkk
                clear hkk G1 G2 G3 G4 G5 G6
                rw [HFR.out, howR_mk]
                rintro e w3 ⟨rfl, L3⟩
                have K3 := stepW K2 L3
                have LW : Below w.heap.size w (w3.alloc (.cells (howC ⟨1, (kz0 : Int), fb, false⟩) 44)) := allocW K3 _
                obtain ⟨j0, j1, j2, j3, -, -, -, -⟩ := (Blk.new' w3 w3.heap.size rfl 44 (howC ⟨1, (kz0 : Int), fb, false⟩)).c4
                obtain ⟨b2, o2, rfl, -, x3⟩ := (HA1.out.belowW (Nat.le_refl _) LW).iv 0 z0 Hz0.out
                rw [Nat.add_zero] at x3
                go_wp2_with fail
                obtain ⟨V, hV⟩ : ∃ V, V = w3.alloc (.cells (howC ⟨1, (kz0 : Int), fb, false⟩) 44) := ⟨_, rfl⟩
                rw [show (Obj.cells #[Value.int IntKind.i64 1, Value.int IntKind.i64 (kz0 : Int), Value.bool fb, Value.bool false] 44) = .cells (howC ⟨1, (kz0 : Int), fb, false⟩) 44 from rfl, ← hV]
                rw [← hV] at LW j0 j1 j2 j3 x3
                clear hV
                have hmV := hm.below (below_drewN' LW 1) (Nat.le_refl _)
                go_region_with ((go_at_call 16; refine (law12_known _ hmV).mono ?_; rintro e w4 ⟨rfl, L4⟩; have L5 := stepW (below_drewN' LW 1) L4))
                all_goals
                  go_wp2
                  go_ret
                  exact ⟨rfl, L5⟩
        · have hSw := L.size
          have hl16 : (hostAF :: (zs.map nOf).map lenF).length ≤ 16 := by simp; omega
          go_wp2_with (first | (at_builtin; refine wp_appF rfl _ _ rfl w.heap.size _ _ rfl ho (allocW (Below.refl _ _) _) (some ⟨wr.heap.size, 0, none⟩) 1 1 (wr.heap.size + 1) rfl [chkF] rfl (Rd.new wr _ rfl [sv teN, sv chunkedB] _ 1 2 rfl) (by simp at hl16 ⊢; omega) (by omega) ?_; intro v' wx ho2 hx) | fail)
          have Lx := L.trans (hx.below ho (Nat.le_refl _) hSw)
          have ho3 := ho2
          rw [show (hostAF :: (zs.map nOf).map lenF) ++ [chkF] = lenRow (zs.map nOf) true by simp [lenRow]] at ho3
          clear hx ho L ho2
          have ho := ho3
          clear ho3
          have hqn : (lenRow (zs.map nOf) true).length = k + 2 := by simp [lenRow]; omega
          have HAD := Lib.hid (show (addL [] (lenRow (zs.map nOf) true) 0).1 = lenRow (zs.map nOf) true by rw [addL_all _ _ _ (lenRow_ok _ _) (by rw [hqn]; simp; omega)]; rfl)
          have hfz0 := lens_sz zs true
          generalize hq : lenRow (zs.map nOf) true = q at *
          clear hq
          by_cases hmn : 1 ≤ minor
          · have HM := Lib.hid hmn
            rcases Nat.eq_zero_or_pos k with h0 | h0
            · subst h0
              have hm1' : ¬ minor < 1 := by omega
              have hfz := hfz0
              have HADx := HAD
              obtain ⟨Af, cf, hvv, hc1, hc2, hrd⟩ := ho.form
              have hln : q.length = 0 + 2 := hqn
              rw [hln] at hrd hvv
              subst hvv
              go_wp2_with fail
              refine (fld_Of (0 + 2) cf Af q wx hrd hfz (by omega)).mono ?_
              rw [HAD.out]
              rintro e w1 ⟨⟨g, v, rfl, hF⟩, L1⟩
              have K1 := stepW Lx L1
              go_wp2_with fail
              refine (law12_of minor Af (0 + 2) cf _ q w1 (hrd.belowW (Nat.le_refl _) L1) L1.size hfz (by omega) (hm.below K1 (Nat.le_refl _)) hm0 hm1).mono ?_
              rintro e w2 ⟨rfl, L2⟩
              have K2 := stepW K1 L2
              have hF2 := hF.rd.belowW L2
              go_wp2_with fail
              refine (frm_Of minor (some ⟨g, 0, none⟩) q w2 (.inr ⟨g, rfl, hF2⟩) (by omega) hfz (hm.below K2 (Nat.le_refl _))).mono ?_
              clear HAD HADx hF hF2 hrd ho
              have HFR := Lib.hid (show frmL (decide (1 ≤ minor)) q = (⟨2, 0, false, false⟩, 0) from G2.out (by trivial) (by trivial) (decide_eq_true (by have := HM.out; omega)))
              clear G1 G2 G3 G4 G5 G6
              rw [HFR.out, howR_mk]
              rintro e w3 ⟨rfl, L3⟩
              have K3 := stepW K2 L3
              have LW : Below w.heap.size w (w3.alloc (.cells (howC ⟨2, 0, false, false⟩) 44)) := allocW K3 _
              obtain ⟨j0, j1, j2, j3, -, -, -, -⟩ := (Blk.new' w3 w3.heap.size rfl 44 (howC ⟨2, 0, false, false⟩)).c4
              go_wp2_with fail
              refine (law12_known _ (hm.below LW (Nat.le_refl _))).mono ?_
              rintro e w4 ⟨rfl, L4⟩
              go_wp2
              go_ret
              exact ⟨rfl, stepW LW L4⟩
            · have h0i : (0 : Int) < (k : Int) := by omega
              have hfz := hfz0
              have HADx := HAD
              obtain ⟨Af, cf, hvv, hc1, hc2, hrd⟩ := ho.form
              have hln : q.length = k + 2 := hqn
              rw [hln] at hrd hvv
              subst hvv
              go_wp2_with fail
              refine (fld_Of (k + 2) cf Af q wx hrd hfz (by omega)).mono ?_
              rw [HAD.out]
              rintro e w1 ⟨⟨g, v, rfl, hF⟩, L1⟩
              have K1 := stepW Lx L1
              go_wp2_with fail
              refine (law12_of minor Af (k + 2) cf _ q w1 (hrd.belowW (Nat.le_refl _) L1) L1.size hfz (by omega) (hm.below K1 (Nat.le_refl _)) hm0 hm1).mono ?_
              rintro e w2 ⟨rfl, L2⟩
              have K2 := stepW K1 L2
              have hF2 := hF.rd.belowW L2
              go_wp2_with fail
              refine (frm_Of minor (some ⟨g, 0, none⟩) q w2 (.inr ⟨g, rfl, hF2⟩) (by omega) hfz (hm.below K2 (Nat.le_refl _))).mono ?_
              clear HAD HADx hF hF2 hrd ho
              obtain ⟨kk, hkk⟩ : ∃ kk, frmL (decide (1 ≤ minor)) q = (kk, 400) := ⟨_, Prod.ext rfl (G1.out (by trivial) (.inl h0))⟩
              have HFR := Lib.hid hkk
              clear hkk G1 G2 G3 G4 G5 G6
              rw [HFR.out, howR_mk]
              rintro e w3 ⟨rfl, L3⟩
              have K3 := stepW K2 L3
              have LW : Below w.heap.size w (w3.alloc (.cells (howC kk) 44)) := allocW K3 _
              obtain ⟨j0, j1, j2, j3, -, -, -, -⟩ := (Blk.new' w3 w3.heap.size rfl 44 (howC kk)).c4
              go_wp2_with fail
              refine (law12_known _ (hm.below LW (Nat.le_refl _))).mono ?_
              rintro e w4 ⟨rfl, L4⟩
              go_wp2
              go_ret
              exact ⟨rfl, stepW LW L4⟩
          · have HM := Lib.hid hmn
            rcases Nat.eq_zero_or_pos k with h0 | h0
            · subst h0
              have hm1' : minor < 1 := by omega
              have hfz := hfz0
              have HADx := HAD
              obtain ⟨Af, cf, hvv, hc1, hc2, hrd⟩ := ho.form
              have hln : q.length = 0 + 2 := hqn
              rw [hln] at hrd hvv
              subst hvv
              go_wp2_with fail
              refine (fld_Of (0 + 2) cf Af q wx hrd hfz (by omega)).mono ?_
              rw [HAD.out]
              rintro e w1 ⟨⟨g, v, rfl, hF⟩, L1⟩
              have K1 := stepW Lx L1
              go_wp2_with fail
              refine (law12_of minor Af (0 + 2) cf _ q w1 (hrd.belowW (Nat.le_refl _) L1) L1.size hfz (by omega) (hm.below K1 (Nat.le_refl _)) hm0 hm1).mono ?_
              rintro e w2 ⟨rfl, L2⟩
              have K2 := stepW K1 L2
              have hF2 := hF.rd.belowW L2
              go_wp2_with fail
              refine (frm_Of minor (some ⟨g, 0, none⟩) q w2 (.inr ⟨g, rfl, hF2⟩) (by omega) hfz (hm.below K2 (Nat.le_refl _))).mono ?_
              clear HAD HADx hF hF2 hrd ho
              obtain ⟨kk, hkk⟩ : ∃ kk, frmL (decide (1 ≤ minor)) q = (kk, 400) := ⟨_, Prod.ext rfl (G1.out (by trivial) (.inr (decide_eq_false (by have := HM.out; omega))))⟩
              have HFR := Lib.hid hkk
              clear hkk G1 G2 G3 G4 G5 G6
              rw [HFR.out, howR_mk]
              rintro e w3 ⟨rfl, L3⟩
              have K3 := stepW K2 L3
              have LW : Below w.heap.size w (w3.alloc (.cells (howC kk) 44)) := allocW K3 _
              obtain ⟨j0, j1, j2, j3, -, -, -, -⟩ := (Blk.new' w3 w3.heap.size rfl 44 (howC kk)).c4
              go_wp2_with fail
              refine (law12_known _ (hm.below LW (Nat.le_refl _))).mono ?_
              rintro e w4 ⟨rfl, L4⟩
              go_wp2
              go_ret
              exact ⟨rfl, stepW LW L4⟩
            · have h0i : (0 : Int) < (k : Int) := by omega
              have hm1' : minor < 1 := by omega
              have hfz := hfz0
              have HADx := HAD
              obtain ⟨Af, cf, hvv, hc1, hc2, hrd⟩ := ho.form
              have hln : q.length = k + 2 := hqn
              rw [hln] at hrd hvv
              subst hvv
              go_wp2_with fail
              refine (fld_Of (k + 2) cf Af q wx hrd hfz (by omega)).mono ?_
              rw [HAD.out]
              rintro e w1 ⟨⟨g, v, rfl, hF⟩, L1⟩
              have K1 := stepW Lx L1
              go_wp2_with fail
              refine (law12_of minor Af (k + 2) cf _ q w1 (hrd.belowW (Nat.le_refl _) L1) L1.size hfz (by omega) (hm.below K1 (Nat.le_refl _)) hm0 hm1).mono ?_
              rintro e w2 ⟨rfl, L2⟩
              have K2 := stepW K1 L2
              have hF2 := hF.rd.belowW L2
              go_wp2_with fail
              refine (frm_Of minor (some ⟨g, 0, none⟩) q w2 (.inr ⟨g, rfl, hF2⟩) (by omega) hfz (hm.below K2 (Nat.le_refl _))).mono ?_
              clear HAD HADx hF hF2 hrd ho
              obtain ⟨kk, hkk⟩ : ∃ kk, frmL (decide (1 ≤ minor)) q = (kk, 400) := ⟨_, Prod.ext rfl (G1.out (by trivial) (.inr (decide_eq_false (by have := HM.out; omega))))⟩
              have HFR := Lib.hid hkk
              clear hkk G1 G2 G3 G4 G5 G6
              rw [HFR.out, howR_mk]
              rintro e w3 ⟨rfl, L3⟩
              have K3 := stepW K2 L3
              have LW : Below w.heap.size w (w3.alloc (.cells (howC kk) 44)) := allocW K3 _
              obtain ⟨j0, j1, j2, j3, -, -, -, -⟩ := (Blk.new' w3 w3.heap.size rfl 44 (howC kk)).c4
              go_wp2_with fail
              refine (law12_known _ (hm.below LW (Nat.le_refl _))).mono ?_
              rintro e w4 ⟨rfl, L4⟩
              go_wp2
              go_ret
              exact ⟨rfl, stepW LW L4⟩
end Go.Proofs.YtfpojnijjpojlaaGreatDoor

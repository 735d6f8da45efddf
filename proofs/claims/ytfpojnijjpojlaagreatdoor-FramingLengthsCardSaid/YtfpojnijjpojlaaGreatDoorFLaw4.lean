/- usherlaw12: FramingCloses. -/
import Derived.Test.YtfpojnijjpojlaaGreatDoorFLaw3
namespace Go.Proofs.YtfpojnijjpojlaaGreatDoor
open Go.RowKit
set_option maxRecDepth 100000
set_option maxHeartbeats 4000000

theorem conF_sz : ∀ k : Fin 6, (conF k.val).1.length ≤ 1000000 ∧ (conF k.val).2.length ≤ 1000000 := by decide +kernel
theorem words_sz (zs : List Int) : FdSz (hostAF :: (zs.map kOf).map conF) := by
  intro f hf
  rcases List.mem_cons.1 hf with rfl | hf
  · decide +kernel
  · obtain ⟨k, hk, rfl⟩ := List.mem_map.1 hf
    exact conF_sz ⟨k, ks_lt zs k hk⟩
theorem words_ok (zs : List Int) : ∀ f ∈ hostAF :: (zs.map kOf).map conF, isF f = true := by
  intro f hf
  rcases List.mem_cons.1 hf with rfl | hf
  · exact hostAF_ok
  · obtain ⟨k, hk, rfl⟩ := List.mem_map.1 hf
    exact conF_ok ⟨k, ks_lt zs k hk⟩
theorem Own.lit (w : World) (g : Nat) (hg : g = w.heap.size) (base : Nat) (hb : base ≤ w.heap.size) (e : TypeId) (size n : Nat) (cs : List Value) (hc : cs.length = n * size) (hm : n ≤ maxLen) :
    Own (w.alloc (.cells cs.toArray e)) base e size (.slice (some ⟨g, 0, none⟩) n n) n cs :=
  ⟨hc, .inr ⟨g, n, cs.toArray, (0, 0), rfl, by omega, hg ▸ heap_alloc_new w _, .inl (Nat.le_refl _), Nat.le_refl _, hm, by simpa using hc, by simp [← hc]⟩⟩
theorem law_FCloses (minor : Int) (A : Option Addr) (n c : Nat) (zs : List Int) (w : World) (hA : Rd w w.heap.size 1 A n (zs.map iv)) (hm : ML w) :
    Calls Tryz.prog 5 #[.int .i64 minor, .slice A n c] w fun e w' => e = .returned (.bool true) ∧ Below w.heap.size w w' := by
  have hzn : zs.length = n := by simpa using hA.1
  by_cases hbig : 10 < n
  · go_enter Tryz.func5, Tryz.ntmps5
    go_wp2
    go_ret
    exact ⟨rfl, Below.refl _ _⟩
  · go_enter Tryz.func5, Tryz.ntmps5
    go_wp2
    obtain ⟨V, hV⟩ : ∃ V, V = w.alloc (.cells (clsA.map tv).toArray 9) := ⟨_, rfl⟩
    have LV : Below w.heap.size w V := by rw [hV]; exact allocW (Below.refl _ _) _
    have hS : V.heap.size = w.heap.size + 1 := by rw [hV]; simp
    have hL : Rd V V.heap.size 1 (some ⟨w.heap.size, 0, none⟩) 6 (clsA.map tv) := by rw [hS, hV]; exact Rd.new w _ rfl (clsA.map tv) _ 6 1 rfl
    have hAV := (hA.belowW (Nat.le_refl _) LV).more LV.size
    have ho0 : OF (V.alloc (.cells (fcells [hostAF]).toArray 39)) V.heap.size (.slice (some ⟨w.heap.size + 1, 0, none⟩) 1 1) [hostAF] := Own.lit V _ (by omega) V.heap.size (Nat.le_refl _) _ 2 1 (fcells [hostAF]) rfl (by decide)
    go_loopw [6, 7, 8, 9] (fun v cl kp i wr => ∃ k : Nat, k ≤ n ∧ i = .int .i64 k ∧ (∃ cb, cl = .bool cb ∧ Hid (cb = ((zs.take k).map kOf).any (fun k => decide (k < 2)))) ∧ (∃ kb, kp = .bool kb ∧ Hid (kb = ((zs.take k).map kOf).any (fun k => k == 2 || k == 3))) ∧ OF wr V.heap.size v (hostAF :: ((zs.take k).map kOf).map conF) ∧ Below V.heap.size V wr) (fun _ _ _ i _ => n - (intOf i).toNat)
    case atStart => exact ⟨0, Nat.zero_le _, rfl, ⟨false, rfl, Lib.hid rfl⟩, ⟨false, rfl, Lib.hid rfl⟩, by rw [hV] at ho0 ⊢; exact ho0, by rw [hV]; exact allocW (Below.refl _ _) _⟩
    case round =>
      obtain ⟨k, hk, rfl, ⟨cb, rfl, HCb⟩, ⟨kb, rfl, HKb⟩, ho, L⟩ := hrel
      clear hV ho0
      by_cases hlt : k < n
      · obtain ⟨z, hz⟩ : ∃ z, zs[k]? = some z := ⟨_, List.getElem?_eq_getElem (by omega)⟩
        obtain ⟨b, o, rfl, hb, x0⟩ := (hAV.belowW (Nat.le_refl _) L).iv k z hz
        have hk6 := kOf_lt z
        have hks := kOf_eq z
        have hand := i64_and1023 z
        have hall : (zs.take (k + 1)).map kOf = (zs.take k).map kOf ++ [kOf z] := by rw [List.take_add_one, hz]; simp
        have HA := Lib.hid hall
        have hhz : clsA[kOf z]? = some (conF (kOf z)).2 := by
          have : ∀ k : Fin 6, clsA[k.val]? = some (conF k.val).2 := by decide
          exact this ⟨kOf z, hk6⟩
        obtain ⟨b2, o2, e2, hb2, y0⟩ := (hL.belowW (Nat.le_refl _) L).tx (kOf z) _ hhz
        injection e2 with e2
        injection e2 with e2 e3
        subst e2 e3
        rw [Nat.zero_add] at y0
        clear hz hall hhz
        have hSw := L.size
        have hlen : (hostAF :: ((zs.take k).map kOf).map conF).length ≤ 11 := by simp; omega
        generalize hkz : kOf z = kz at *
        have HCn : Hid ((cb || decide (kz < 2)) = ((zs.take (k + 1)).map kOf).any (fun k => decide (k < 2))) := by rw [HA.out, List.any_append, ← HCb.out]; exact Lib.hid (by simp)
        have HKn : Hid ((kb || (kz == 2 || kz == 3)) = ((zs.take (k + 1)).map kOf).any (fun k => k == 2 || k == 3)) := by rw [HA.out, List.any_append, ← HKb.out]; exact Lib.hid (by simp)
        clear HCb HKb
        rcases (by omega : kz = 0 ∨ kz = 1 ∨ kz = 2 ∨ kz = 3 ∨ kz = 4 ∨ kz = 5) with rfl | rfl | rfl | rfl | rfl | rfl
        all_goals
          cases cb <;> cases kb
          all_goals
            go_wp2_with (at_builtin; refine wp_appF rfl _ _ rfl V.heap.size _ _ rfl ho (allocW (Below.refl _ _) _) (some ⟨wr.heap.size, 0, none⟩) 1 1 (wr.heap.size + 1) rfl [conF _] rfl (Rd.new wr _ rfl [sv coN, sv (conF _).2] _ 1 2 rfl) (by simp at hlen ⊢; omega) hSw ?_; intro v' w2 ho2 hx)
            go_roundw
            case rel =>
              refine ⟨k + 1, by omega, by go_num, ⟨_, rfl, ?_⟩, ⟨_, rfl, ?_⟩, by rw [HA.out, List.map_append, ← List.cons_append]; exact ho2, L.trans (hx.below ho (Nat.le_refl _) hSw)⟩
              · rw [← HCn.out]; exact Lib.hid rfl
              · rw [← HKn.out]; exact Lib.hid rfl
            case measure => simp [intOf]; omega
      · have hkn : k = n := by omega
        subst hkn
        rw [List.take_of_length_le (by omega)] at ho HCb HKb
        have hkl := ks_lt zs
        obtain ⟨Af, cf, rfl, hc1, hc2, hrd⟩ := ho.form
        have hln : (hostAF :: (zs.map kOf).map conF).length = k + 1 := by simp; omega
        have HFR := Lib.hid (frm_words (decide (1 ≤ minor)) (zs.map kOf) hkl)
        have HAD := Lib.hid (show (addL [] (hostAF :: (zs.map kOf).map conF) 0).1 = hostAF :: (zs.map kOf).map conF by rw [addL_all _ _ _ (words_ok zs) (by rw [hln]; simp; omega)]; rfl)
        have hfz := words_sz zs
        rw [← HCb.out, ← HKb.out] at HFR
        clear hkl HCb HKb
        generalize hq : (hostAF :: (zs.map kOf).map conF) = q at *
        clear hq
        have KV := stepW LV L
        rw [hln] at hrd
        go_wp2_with fail
        refine (fld_Of (k + 1) cf Af q wr hrd hfz (by omega)).mono ?_
        rw [HAD.out]
        rintro e w1 ⟨⟨g, v, rfl, hF⟩, L1⟩
        have K1 := stepW KV L1
        go_wp2_with fail
        refine (frm_Of minor (some ⟨g, 0, none⟩) q w1 (.inr ⟨g, rfl, hF.rd⟩) (by omega) hfz (hm.below K1 (Nat.le_refl _))).mono ?_
        rw [HFR.out]
        clear HFR HAD hF hrd ho hL hAV
        by_cases h1 : 1 ≤ minor
        · have h2 : ¬ minor < 1 := by omega
          rw [show decide (1 ≤ minor) = true by simp [h1]]
          cases cb
          · cases kb
            · rw [show ((⟨0, 0, false || (!true && !false), false⟩, 0) : How × Int) = (⟨0, 0, false, false⟩, 0) from rfl, howR_mk]
              rintro e w2 ⟨rfl, L2⟩
              have K2 := stepW K1 L2
              have LW : Below w.heap.size w (w2.alloc (.cells (howC ⟨0, 0, false, false⟩) 44)) := allocW K2 _
              obtain ⟨j0, j1, j2, j3, -, -, -, -⟩ := (Blk.new' w2 w2.heap.size rfl 44 (howC ⟨0, 0, false, false⟩)).c4
              go_wp2_with fail
              refine (law12_known _ (hm.below LW (Nat.le_refl _))).mono ?_
              rintro e w3 ⟨rfl, L3⟩
              go_wp2
              go_ret
              exact ⟨rfl, stepW LW L3⟩
            · rw [show ((⟨0, 0, false || (!true && !true), false⟩, 0) : How × Int) = (⟨0, 0, false, false⟩, 0) from rfl, howR_mk]
              rintro e w2 ⟨rfl, L2⟩
              have K2 := stepW K1 L2
              have LW : Below w.heap.size w (w2.alloc (.cells (howC ⟨0, 0, false, false⟩) 44)) := allocW K2 _
              obtain ⟨j0, j1, j2, j3, -, -, -, -⟩ := (Blk.new' w2 w2.heap.size rfl 44 (howC ⟨0, 0, false, false⟩)).c4
              go_wp2_with fail
              refine (law12_known _ (hm.below LW (Nat.le_refl _))).mono ?_
              rintro e w3 ⟨rfl, L3⟩
              go_wp2
              go_ret
              exact ⟨rfl, stepW LW L3⟩
          · cases kb
            · rw [show ((⟨0, 0, true || (!true && !false), false⟩, 0) : How × Int) = (⟨0, 0, true, false⟩, 0) from rfl, howR_mk]
              rintro e w2 ⟨rfl, L2⟩
              have K2 := stepW K1 L2
              have LW : Below w.heap.size w (w2.alloc (.cells (howC ⟨0, 0, true, false⟩) 44)) := allocW K2 _
              obtain ⟨j0, j1, j2, j3, -, -, -, -⟩ := (Blk.new' w2 w2.heap.size rfl 44 (howC ⟨0, 0, true, false⟩)).c4
              go_wp2_with fail
              refine (law12_known _ (hm.below LW (Nat.le_refl _))).mono ?_
              rintro e w3 ⟨rfl, L3⟩
              go_wp2
              go_ret
              exact ⟨rfl, stepW LW L3⟩
            · rw [show ((⟨0, 0, true || (!true && !true), false⟩, 0) : How × Int) = (⟨0, 0, true, false⟩, 0) from rfl, howR_mk]
              rintro e w2 ⟨rfl, L2⟩
              have K2 := stepW K1 L2
              have LW : Below w.heap.size w (w2.alloc (.cells (howC ⟨0, 0, true, false⟩) 44)) := allocW K2 _
              obtain ⟨j0, j1, j2, j3, -, -, -, -⟩ := (Blk.new' w2 w2.heap.size rfl 44 (howC ⟨0, 0, true, false⟩)).c4
              go_wp2_with fail
              refine (law12_known _ (hm.below LW (Nat.le_refl _))).mono ?_
              rintro e w3 ⟨rfl, L3⟩
              go_wp2
              go_ret
              exact ⟨rfl, stepW LW L3⟩
        · have h2 : minor < 1 := by omega
          rw [show decide (1 ≤ minor) = false by simp [h1]]
          cases cb
          · cases kb
            · rw [show ((⟨0, 0, false || (!false && !false), false⟩, 0) : How × Int) = (⟨0, 0, true, false⟩, 0) from rfl, howR_mk]
              rintro e w2 ⟨rfl, L2⟩
              have K2 := stepW K1 L2
              have LW : Below w.heap.size w (w2.alloc (.cells (howC ⟨0, 0, true, false⟩) 44)) := allocW K2 _
              obtain ⟨j0, j1, j2, j3, -, -, -, -⟩ := (Blk.new' w2 w2.heap.size rfl 44 (howC ⟨0, 0, true, false⟩)).c4
              go_wp2_with fail
              refine (law12_known _ (hm.below LW (Nat.le_refl _))).mono ?_
              rintro e w3 ⟨rfl, L3⟩
              go_wp2
              go_ret
              exact ⟨rfl, stepW LW L3⟩
            · rw [show ((⟨0, 0, false || (!false && !true), false⟩, 0) : How × Int) = (⟨0, 0, false, false⟩, 0) from rfl, howR_mk]
              rintro e w2 ⟨rfl, L2⟩
              have K2 := stepW K1 L2
              have LW : Below w.heap.size w (w2.alloc (.cells (howC ⟨0, 0, false, false⟩) 44)) := allocW K2 _
              obtain ⟨j0, j1, j2, j3, -, -, -, -⟩ := (Blk.new' w2 w2.heap.size rfl 44 (howC ⟨0, 0, false, false⟩)).c4
              go_wp2_with fail
              refine (law12_known _ (hm.below LW (Nat.le_refl _))).mono ?_
              rintro e w3 ⟨rfl, L3⟩
              go_wp2
              go_ret
              exact ⟨rfl, stepW LW L3⟩
          · cases kb
            · rw [show ((⟨0, 0, true || (!false && !false), false⟩, 0) : How × Int) = (⟨0, 0, true, false⟩, 0) from rfl, howR_mk]
              rintro e w2 ⟨rfl, L2⟩
              have K2 := stepW K1 L2
              have LW : Below w.heap.size w (w2.alloc (.cells (howC ⟨0, 0, true, false⟩) 44)) := allocW K2 _
              obtain ⟨j0, j1, j2, j3, -, -, -, -⟩ := (Blk.new' w2 w2.heap.size rfl 44 (howC ⟨0, 0, true, false⟩)).c4
              go_wp2_with fail
              refine (law12_known _ (hm.below LW (Nat.le_refl _))).mono ?_
              rintro e w3 ⟨rfl, L3⟩
              go_wp2
              go_ret
              exact ⟨rfl, stepW LW L3⟩
            · rw [show ((⟨0, 0, true || (!false && !true), false⟩, 0) : How × Int) = (⟨0, 0, true, false⟩, 0) from rfl, howR_mk]
              rintro e w2 ⟨rfl, L2⟩
              have K2 := stepW K1 L2
              have LW : Below w.heap.size w (w2.alloc (.cells (howC ⟨0, 0, true, false⟩) 44)) := allocW K2 _
              obtain ⟨j0, j1, j2, j3, -, -, -, -⟩ := (Blk.new' w2 w2.heap.size rfl 44 (howC ⟨0, 0, true, false⟩)).c4
              go_wp2_with fail
              refine (law12_known _ (hm.below LW (Nat.le_refl _))).mono ?_
              rintro e w3 ⟨rfl, L3⟩
              go_wp2
              go_ret
              exact ⟨rfl, stepW LW L3⟩
end Go.Proofs.YtfpojnijjpojlaaGreatDoor

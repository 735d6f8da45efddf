/- usherlaw12: FramingHosts. -/
import Derived.Test.YtfpojnijjpojlaaGreatDoorFLaw1
import Derived.Test.YtfpojnijjpojlaaGreatDoorFPl2
namespace Go.Proofs.YtfpojnijjpojlaaGreatDoor
open Go.RowKit
set_option maxRecDepth 100000
set_option maxHeartbeats 4000000

abbrev iv (z : Int) : Value := .int .i64 z
def kOf (z : Int) : Nat := ((z % 1024).tmod 6).toNat
theorem kOf_lt (z : Int) : kOf z < 6 := by
  unfold kOf
  have h1 : 0 ≤ z % 1024 := Int.emod_nonneg _ (by omega)
  rw [Int.tmod_eq_emod_of_nonneg h1]
  omega
theorem kOf_eq (z : Int) : (z % 1024).tmod 6 = (kOf z : Int) := by
  unfold kOf
  have h1 : 0 ≤ z % 1024 := Int.emod_nonneg _ (by omega)
  rw [Int.tmod_eq_emod_of_nonneg h1]
  omega
theorem ks_lt (zs : List Int) : ∀ k ∈ zs.map kOf, k < 6 := by
  intro k hk; obtain ⟨z, -, rfl⟩ := List.mem_map.1 hk; exact kOf_lt z
theorem Rd.iv {w : World} {B n : Nat} {A : Option Addr} {l : List Int} (h : Rd w B 1 A n (l.map iv)) (k : Nat) (s : Int) (hs : l[k]? = some s) :
    ∃ b o, A = some ⟨b, o, none⟩ ∧ b < B ∧ w.cell? ⟨b, o + k, none⟩ = some (.int .i64 s) := by
  have hk : k < l.length := (List.getElem?_eq_some_iff.1 hs).1
  have hn : l.length = n := by simpa using h.1
  obtain ⟨b, o, e, hb, hc⟩ := h.2 (by omega)
  exact ⟨b, o, e, hb, hc k _ (by rw [List.getElem?_map, hs]; rfl)⟩
theorem hostF_sz : ∀ k : Fin 6, (hostF k.val).1.length ≤ 1000000 ∧ (hostF k.val).2.length ≤ 1000000 := by decide +kernel
theorem hosts_sz (zs : List Int) : FdSz ((zs.map kOf).map hostF) := by
  intro f hf
  obtain ⟨k, hk, rfl⟩ := List.mem_map.1 hf
  exact hostF_sz ⟨k, ks_lt zs k hk⟩
theorem hosts_ok (zs : List Int) : ∀ f ∈ (zs.map kOf).map hostF, isF f = true := by
  intro f hf
  obtain ⟨k, hk, rfl⟩ := List.mem_map.1 hf
  exact hostF_ok ⟨k, ks_lt zs k hk⟩
theorem law_FHosts (minor : Int) (A : Option Addr) (n c : Nat) (zs : List Int) (w : World) (hA : Rd w w.heap.size 1 A n (zs.map iv)) (hm : ML w) :
    Calls Tryz.prog 6 #[.int .i64 minor, .slice A n c] w fun e w' => e = .returned (.bool true) ∧ Below w.heap.size w w' := by
  have hzn : zs.length = n := by simpa using hA.1
  by_cases hbig : 10 < n
  · go_enter Tryz.func6, Tryz.ntmps6
    go_wp2
    go_ret
    exact ⟨rfl, Below.refl _ _⟩
  · go_enter Tryz.func6, Tryz.ntmps6
    go_wp2
    obtain ⟨V, hV⟩ : ∃ V, V = w.alloc (.cells (hstA.map tv).toArray 9) := ⟨_, rfl⟩
    have LV : Below w.heap.size w V := by rw [hV]; exact allocW (Below.refl _ _) _
    have hS : V.heap.size = w.heap.size + 1 := by rw [hV]; simp
    have hL : Rd V V.heap.size 1 (some ⟨w.heap.size, 0, none⟩) 6 (hstA.map tv) := by rw [hS, hV]; exact Rd.new w _ rfl (hstA.map tv) _ 6 1 rfl
    have hAV := (hA.belowW (Nat.le_refl _) LV).more LV.size
    go_loopw [6, 7, 8] (fun v r i wr => ∃ k : Nat, k ≤ n ∧ i = .int .i64 k ∧ (∃ rb, r = .bool rb ∧ Hid (rb = ((zs.take k).map kOf).all (· < 3))) ∧ OF wr V.heap.size v (((zs.take k).map kOf).map hostF) ∧ Below V.heap.size V wr) (fun _ _ i _ => n - (intOf i).toNat)
    case atStart => exact ⟨0, Nat.zero_le _, rfl, ⟨true, rfl, Lib.hid rfl⟩, OF.nil _ _, by rw [hV]; exact Below.refl _ _⟩
    case round =>
      obtain ⟨k, hk, rfl, ⟨rb, rfl, HRb⟩, ho, L⟩ := hrel
      clear hV
      by_cases hlt : k < n
      · obtain ⟨z, hz⟩ : ∃ z, zs[k]? = some z := ⟨_, List.getElem?_eq_getElem (by omega)⟩
        obtain ⟨b, o, rfl, hb, x0⟩ := (hAV.belowW (Nat.le_refl _) L).iv k z hz
        have hk6 := kOf_lt z
        have hks := kOf_eq z
        have hand := i64_and1023 z
        have hall : (zs.take (k + 1)).map kOf = (zs.take k).map kOf ++ [kOf z] := by rw [List.take_add_one, hz]; simp
        have HA := Lib.hid hall
        have hhz : hstA[kOf z]? = some (hostF (kOf z)).2 := by
          have : ∀ k : Fin 6, hstA[k.val]? = some (hostF k.val).2 := by decide
          exact this ⟨kOf z, hk6⟩
        obtain ⟨b2, o2, e2, hb2, y0⟩ := (hL.belowW (Nat.le_refl _) L).tx (kOf z) _ hhz
        injection e2 with e2
        injection e2 with e2 e3
        subst e2 e3
        rw [Nat.zero_add] at y0
        clear hz hall hhz
        have hSw := L.size
        have hlen : (((zs.take k).map kOf).map hostF).length ≤ 10 := by simp; omega
        generalize hkz : kOf z = kz at *
        cases rb
        all_goals
          go_wp2_with (at_builtin; refine wp_appF rfl _ _ rfl V.heap.size _ _ rfl ho (allocW (Below.refl _ _) _) (some ⟨wr.heap.size, 0, none⟩) 1 1 (wr.heap.size + 1) rfl [hostF kz] rfl (Rd.new wr _ rfl [.string ⟨#[104, 79, 83, 84]⟩, sv (hostF kz).2] _ 1 2 rfl) (by simp at hlen ⊢; omega) hSw ?_; intro v' w2 ho2 hx)
          go_roundw
          case rel =>
            refine ⟨k + 1, by omega, by go_num, ⟨_, rfl, ?_⟩, by rw [HA.out, List.map_append]; exact ho2, L.trans (hx.below ho (Nat.le_refl _) hSw)⟩
            rw [HA.out, List.all_append, ← HRb.out]
            exact Lib.hid (by simp <;> omega)
          case measure => simp [intOf]; omega
      · have hkn : k = n := by omega
        subst hkn
        rw [List.take_of_length_le (by omega)] at ho HRb
        have hkl := ks_lt zs
        obtain ⟨Af, cf, rfl, hc1, hc2, hrd⟩ := ho.form
        have hln : ((zs.map kOf).map hostF).length = k := by simp; omega
        have HFR := Lib.hid (frm_hosts (decide (1 ≤ minor)) (zs.map kOf) hkl)
        have HAD := Lib.hid (show (addL [] ((zs.map kOf).map hostF) 0).1 = (zs.map kOf).map hostF by rw [addL_all _ _ _ (hosts_ok zs) (by rw [hln]; simp; omega)]; rfl)
        have hbadE : badH (decide (1 ≤ minor)) (zs.map kOf) = (decide (1 < k) || !rb || (decide (k = 0) && decide (1 ≤ minor))) := by
          rw [badH, HRb.out, List.length_map, hzn]
        have HB := Lib.hid hbadE
        have hfz := hosts_sz zs
        clear hbadE hkl HRb
        generalize hq : (zs.map kOf).map hostF = q at *
        clear hq
        have KV := stepW LV L
        go_wp2_with fail
        rw [hln] at hrd
        refine (fld_Of k cf Af q wr hrd hfz (by omega)).mono ?_
        rw [HAD.out]
        rintro e w1 ⟨⟨g, v, rfl, hF⟩, L1⟩
        have K1 := stepW KV L1
        go_wp2_with fail
        refine (frm_Of minor (some ⟨g, 0, none⟩) q w1 (.inr ⟨g, rfl, hF.rd⟩) (by omega) hfz (hm.below K1 (Nat.le_refl _))).mono ?_
        rw [HFR.out, HB.out]
        clear HFR HB HAD hF hrd ho hL hAV
        cases hbad : (decide (1 < k) || !rb || (decide (k = 0) && decide (1 ≤ minor)))
        · simp only [Bool.or_eq_false_iff, Bool.not_eq_false', Bool.and_eq_false_iff, decide_eq_false_iff_not] at hbad
          obtain ⟨⟨b1, rfl⟩, b3⟩ := hbad
          rw [if_neg (by simp), howR_mk]
          by_cases h1 : 1 ≤ minor
          · obtain rfl : k = 1 := by omega
            rw [show decide (1 ≤ minor) = true by simp [h1]]
            have h2 : ¬ minor < 1 := by omega
            rintro e w2 ⟨rfl, L2⟩
            have K2 := stepW K1 L2
            have LW : Below w.heap.size w (w2.alloc (.cells (howC ⟨0, 0, false, false⟩) 44)) := allocW K2 _
            obtain ⟨j0, j1, j2, j3, -, -, -, -⟩ := (Blk.new' w2 w2.heap.size rfl 44 (howC ⟨0, 0, false, false⟩)).c4
            have kq := fun w : World => run_eql_how ⟨0, 0, false, false⟩ ⟨0, 0, false, false⟩ w
            rw [show howEq ⟨0, 0, false, false⟩ ⟨0, 0, false, false⟩ = true by decide] at kq
            have kg := fun (o : Operand) (o' : Operand) (xs ys : Array Value) (w : World) => run_guard_how .eql o o' xs ys w
            go_wp2_with fail
            refine (law12_known _ (hm.below LW (Nat.le_refl _))).mono ?_
            rintro e w3 ⟨rfl, L3⟩
            go_wp2
            go_ret
            exact ⟨rfl, stepW LW L3⟩
          · rw [show decide (1 ≤ minor) = false by simp [h1]]
            have h2 : minor < 1 := by omega
            rintro e w2 ⟨rfl, L2⟩
            have K2 := stepW K1 L2
            rcases (by omega : k = 0 ∨ k = 1) with rfl | rfl
            all_goals
              have LW : Below w.heap.size w (w2.alloc (.cells (howC ⟨0, 0, true, false⟩) 44)) := allocW K2 _
              obtain ⟨j0, j1, j2, j3, -, -, -, -⟩ := (Blk.new' w2 w2.heap.size rfl 44 (howC ⟨0, 0, true, false⟩)).c4
              have kq := fun w : World => run_eql_how ⟨0, 0, true, false⟩ ⟨0, 0, true, false⟩ w
              rw [show howEq ⟨0, 0, true, false⟩ ⟨0, 0, true, false⟩ = true by decide] at kq
              have kg := fun (o : Operand) (o' : Operand) (xs ys : Array Value) (w : World) => run_guard_how .eql o o' xs ys w
              go_wp2_with fail
              refine (law12_known _ (hm.below LW (Nat.le_refl _))).mono ?_
              rintro e w3 ⟨rfl, L3⟩
              go_wp2
              go_ret
              exact ⟨rfl, stepW LW L3⟩
        · rw [if_pos rfl, howR_mk]
          rintro e w2 ⟨rfl, L2⟩
          have K2 := stepW K1 L2
          simp only [Bool.or_eq_true, Bool.not_eq_true', Bool.and_eq_true, decide_eq_true_eq] at hbad
          rcases hbad with (b1 | rfl) | ⟨rfl, b3⟩
          · have b2 : (1 : Int) < k := by omega
            have LW : Below w.heap.size w (w2.alloc (.cells (howC how0) 44)) := allocW K2 _
            obtain ⟨j0, j1, j2, j3, -, -, -, -⟩ := (Blk.new' w2 w2.heap.size rfl 44 (howC how0)).c4
            have kq := fun w : World => run_eql_how how0 how0 w
            rw [show howEq how0 how0 = true by decide] at kq
            have kg := fun (o : Operand) (o' : Operand) (xs ys : Array Value) (w : World) => run_guard_how .eql o o' xs ys w
            go_wp2_with fail
            refine (law12_known _ (hm.below LW (Nat.le_refl _))).mono ?_
            rintro e w3 ⟨rfl, L3⟩
            go_wp2
            go_ret
            exact ⟨rfl, stepW LW L3⟩
          · by_cases b1 : 1 < k
            · have b2 : (1 : Int) < k := by omega
              have LW : Below w.heap.size w (w2.alloc (.cells (howC how0) 44)) := allocW K2 _
              obtain ⟨j0, j1, j2, j3, -, -, -, -⟩ := (Blk.new' w2 w2.heap.size rfl 44 (howC how0)).c4
              have kq := fun w : World => run_eql_how how0 how0 w
              rw [show howEq how0 how0 = true by decide] at kq
              have kg := fun (o : Operand) (o' : Operand) (xs ys : Array Value) (w : World) => run_guard_how .eql o o' xs ys w
              go_wp2_with fail
              refine (law12_known _ (hm.below LW (Nat.le_refl _))).mono ?_
              rintro e w3 ⟨rfl, L3⟩
              go_wp2
              go_ret
              exact ⟨rfl, stepW LW L3⟩
            · have b2 : ¬ (1 : Int) < k := by omega
              have LW : Below w.heap.size w (w2.alloc (.cells (howC how0) 44)) := allocW K2 _
              obtain ⟨j0, j1, j2, j3, -, -, -, -⟩ := (Blk.new' w2 w2.heap.size rfl 44 (howC how0)).c4
              have kq := fun w : World => run_eql_how how0 how0 w
              rw [show howEq how0 how0 = true by decide] at kq
              have kg := fun (o : Operand) (o' : Operand) (xs ys : Array Value) (w : World) => run_guard_how .eql o o' xs ys w
              go_wp2_with fail
              refine (law12_known _ (hm.below LW (Nat.le_refl _))).mono ?_
              rintro e w3 ⟨rfl, L3⟩
              go_wp2
              go_ret
              exact ⟨rfl, stepW LW L3⟩
          · cases rb
            all_goals
              have LW : Below w.heap.size w (w2.alloc (.cells (howC how0) 44)) := allocW K2 _
              obtain ⟨j0, j1, j2, j3, -, -, -, -⟩ := (Blk.new' w2 w2.heap.size rfl 44 (howC how0)).c4
              have kq := fun w : World => run_eql_how how0 how0 w
              rw [show howEq how0 how0 = true by decide] at kq
              have kg := fun (o : Operand) (o' : Operand) (xs ys : Array Value) (w : World) => run_guard_how .eql o o' xs ys w
              go_wp2_with fail
              refine (law12_known _ (hm.below LW (Nat.le_refl _))).mono ?_
              rintro e w3 ⟨rfl, L3⟩
              go_wp2
              go_ret
              exact ⟨rfl, stepW LW L3⟩
end Go.Proofs.YtfpojnijjpojlaaGreatDoor

/- The law HeadMany. -/
import Derived.Test.YtmnnbfaaaifcoaaGreatDoorHPl3
namespace Go.Proofs.YtmnnbfaaaifcoaaGreatDoor
open Go.RowKit
set_option maxRecDepth 100000
set_option maxHeartbeats 4000000

theorem mS_succ (j : Nat) : mS (j + 1) = mS j ++ [98] := by
  rw [mS, mS, List.replicate_succ', List.append_assoc]
theorem mS_app {w : World} {base : Nat} {v : Value} {k j : Nat} {P : List Bs} {S : Bs} (h : OS w base v (P ++ List.replicate k (mS j) ++ [S])) (hs : S = mS j) : OS w base v (P ++ List.replicate (k + 1) (mS j)) := by
  rw [hs, List.append_assoc, ← List.replicate_succ'] at h
  exact h
theorem wM_yes (m i : Nat) (h0 : wM m i = 0) (c : 256 < m + 2 ∨ 1024 < 25 + (i + 1) * (m + 4) ∨ 24 < i + 2) : wM m (i + 1) = 431 := by rw [wM, if_pos ⟨h0, c⟩]
theorem wM_no (m i : Nat) (c : ¬ (wM m i = 0 ∧ (256 < m + 2 ∨ 1024 < 25 + (i + 1) * (m + 4) ∨ 24 < i + 2))) : wM m (i + 1) = wM m i := by rw [wM, if_neg c]
theorem law_HeadMany (a b : Int) (w : World) (hm : ML w) :
    Calls Tryz.prog 6 #[.int .i64 a, .int .i64 b] w fun e w' => e = .returned (.bool true) ∧ Below w.heap.size w w' := by
  by_cases hout : a < 0 ∨ 40 < a ∨ b < 0 ∨ 300 < b
  · have hK := law13_known w hm
    by_cases h1 : a < 0
    · go_enter Tryz.func6, Tryz.ntmps6
      go_wp2_with fail
      refine hK.mono ?_
      rintro e w1 ⟨rfl, L1⟩
      go_wp2
      go_ret
      exact ⟨rfl, L1⟩
    by_cases h2 : 40 < a
    · go_enter Tryz.func6, Tryz.ntmps6
      go_wp2_with fail
      refine hK.mono ?_
      rintro e w1 ⟨rfl, L1⟩
      go_wp2
      go_ret
      exact ⟨rfl, L1⟩
    by_cases h3 : b < 0
    · go_enter Tryz.func6, Tryz.ntmps6
      go_wp2_with fail
      refine hK.mono ?_
      rintro e w1 ⟨rfl, L1⟩
      go_wp2
      go_ret
      exact ⟨rfl, L1⟩
    have h4 : 300 < b := by omega
    go_enter Tryz.func6, Tryz.ntmps6
    go_wp2_with fail
    refine hK.mono ?_
    rintro e w1 ⟨rfl, L1⟩
    go_wp2
    go_ret
    exact ⟨rfl, L1⟩
  obtain ⟨n, rfl⟩ : ∃ n : Nat, a = (n : Int) := ⟨a.toNat, by omega⟩
  obtain ⟨z, rfl⟩ : ∃ z : Nat, b = (z : Int) := ⟨b.toNat, by omega⟩
  have hn : n ≤ 40 := by omega
  have hz : z ≤ 300 := by omega
  obtain ⟨m, hmz⟩ : ∃ m, m = z - 2 := ⟨_, rfl⟩
  clear hout
  have hO : OS (w.alloc (.cells #[.string ⟨#[71, 69, 84, 32, 47, 32, 72, 84, 84, 80, 47, 49, 46, 49]⟩, .string ⟨#[72, 111, 115, 116, 58, 32, 97]⟩] 9)) w.heap.size (.slice (some ⟨w.heap.size, 0, none⟩) 2 2) [kh1, kh2] := Own.lit w _ rfl _ (Nat.le_refl _) _ 1 2 ([kh1, kh2].map tv) rfl (by decide)
  have L0 := allocW (Below.refl w.heap.size w) (.cells #[.string ⟨#[71, 69, 84, 32, 47, 32, 72, 84, 84, 80, 47, 49, 46, 49]⟩, .string ⟨#[72, 111, 115, 116, 58, 32, 97]⟩] 9)
  go_enter Tryz.func6, Tryz.ntmps6
  go_wp2
  go_loopw [5, 6, 7, 8] (fun v by_ wt i wr => ∃ (k B : Nat) (W : Int), k ≤ n ∧ i = .int .i64 k ∧ by_ = .int .i64 B ∧ wt = .int .i64 W ∧ Hid (B = 25 + k * (m + 4)) ∧ B ≤ 25 + 310 * k ∧ Hid (W = wM m k) ∧ (W = 0 ∨ W = 431) ∧ OS wr w.heap.size v ([kh1, kh2] ++ List.replicate k (mS m)) ∧ Below w.heap.size w wr) (fun _ _ _ i _ => n - (intOf i).toNat)
  case atStart => exact ⟨0, 25, 0, Nat.zero_le _, rfl, rfl, rfl, Lib.hid (by simp), Nat.le_refl _, Lib.hid rfl, .inl rfl, hO, L0⟩
  case round =>
    obtain ⟨k, B, W, hk, rfl, rfl, rfl, HB, hB2, HW, hW2, ho, L⟩ := hrel
    have hsz := L.size
    have hlr : ([kh1, kh2] ++ List.replicate k (mS m)).length = 2 + k := by simp; omega
    by_cases hlt : k < n
    · go_wp2
      go_loopw [9] (fun s wi => ∃ (j : Nat) (S : ByteArray), j ≤ m ∧ s = .string S ∧ S.size = j + 2 ∧ Hid (S.data.toList = mS j) ∧ wr = wi) (fun s _ => z - (match s with | .string S => S.size | _ => 0))
      case atStart => exact ⟨0, ⟨#[97, 58]⟩, Nat.zero_le _, rfl, rfl, Lib.hid rfl, rfl⟩
      case round =>
        obtain ⟨j, S, hj, rfl, hS, HS, rfl⟩ := hrel
        by_cases hjz : j + 2 < z
        · obtain ⟨T, hT⟩ : ∃ T, T = S ++ ⟨#[98]⟩ := ⟨_, rfl⟩
          have hTl : T.data.toList = mS (j + 1) := by rw [hT, app_data, HS.out, mS_succ]
          have hTs : T.size = (j + 1) + 2 := by rw [← len_data, hTl, mS_len]
          have HT := Lib.hid hTl
          have hTe := hT.symm
          clear hTl hT
          go_wp2
          go_roundw
          case rel => exact ⟨j + 1, T, by omega, rfl, hTs, HT, by first | rfl | trivial⟩
          case measure => simp [hTs, hS]; omega
        · obtain rfl : j = m := by omega
          obtain ⟨B', hB'⟩ : ∃ B', B' = B + (j + 2) + 2 := ⟨_, rfl⟩
          have HB' := Lib.hid (show B' = 25 + (k + 1) * (j + 4) by rw [hB', HB.out, Nat.succ_mul]; omega)
          have hzi : (z : Int) ≤ (S.size : Int) := by omega
          have hSi : (S.size : Int) ≤ 300 := by omega
          have hBi : (B' : Int) = (B : Int) + (S.size : Int) + 2 := by omega
          have C1 : Hid (256 < j + 2) ∨ (S.size : Int) ≤ 256 := by
            by_cases c1 : 256 < j + 2
            · exact .inl (Lib.hid c1)
            · exact .inr (by omega)
          have hSj := Lib.hid hS
          clear hS hmz hB' hjz hj
          rcases hW2 with rfl | rfl
          · rcases C1 with C1 | c1i
            · have HWn := Lib.hid (show (431 : Int) = wM j (k + 1) from (wM_yes j k HW.out.symm (.inl C1.out)).symm)
              have c1i : 256 < (S.size : Int) := by have h1 := C1.out; have h2 := hSj.out; omega
              go_wp2_with (at_builtin; refine wp_appS1 rfl _ _ rfl w.heap.size _ _ rfl ho _ rfl S rfl (by omega) (by omega) ?_; intro v' w4 ho4 hx)
              go_roundw
              case rel => exact ⟨k + 1, B', 431, by omega, by go_num, by go_num, by go_num, HB', by omega, HWn, .inr rfl, mS_app ho4 HS.out, L.trans (hx.below ho (Nat.le_refl _) (by omega))⟩
              case measure => simp [intOf]; omega
            by_cases c2i : 1024 < (B : Int) + (S.size : Int) + 2
            · have HWn := Lib.hid (show (431 : Int) = wM j (k + 1) from (wM_yes j k HW.out.symm (.inr (.inl (by have h1 := HB'.out; omega)))).symm)
              go_wp2_with (at_builtin; refine wp_appS1 rfl _ _ rfl w.heap.size _ _ rfl ho _ rfl S rfl (by omega) (by omega) ?_; intro v' w4 ho4 hx)
              go_roundw
              case rel => exact ⟨k + 1, B', 431, by omega, by go_num, by go_num, by go_num, HB', by omega, HWn, .inr rfl, mS_app ho4 HS.out, L.trans (hx.below ho (Nat.le_refl _) (by omega))⟩
              case measure => simp [intOf]; omega
            by_cases c3i : 24 < (k : Int) + 2
            · have HWn := Lib.hid (show (431 : Int) = wM j (k + 1) from (wM_yes j k HW.out.symm (.inr (.inr (by omega)))).symm)
              go_wp2_with (at_builtin; refine wp_appS1 rfl _ _ rfl w.heap.size _ _ rfl ho _ rfl S rfl (by omega) (by omega) ?_; intro v' w4 ho4 hx)
              go_roundw
              case rel => exact ⟨k + 1, B', 431, by omega, by go_num, by go_num, by go_num, HB', by omega, HWn, .inr rfl, mS_app ho4 HS.out, L.trans (hx.below ho (Nat.le_refl _) (by omega))⟩
              case measure => simp [intOf]; omega
            have HWn := Lib.hid (show (0 : Int) = wM j (k + 1) by rw [wM_no j k (fun h => by have h1 := HB'.out; have h2 := hSj.out; rcases h.2 with h | h | h <;> omega)]; exact HW.out)
            go_wp2_with (at_builtin; refine wp_appS1 rfl _ _ rfl w.heap.size _ _ rfl ho _ rfl S rfl (by omega) (by omega) ?_; intro v' w4 ho4 hx)
            go_roundw
            case rel => exact ⟨k + 1, B', 0, by omega, by go_num, by go_num, by go_num, HB', by omega, HWn, .inl rfl, mS_app ho4 HS.out, L.trans (hx.below ho (Nat.le_refl _) (by omega))⟩
            case measure => simp [intOf]; omega
          · have HWn := Lib.hid (show (431 : Int) = wM j (k + 1) by rw [wM_no j k (fun h => by rw [← HW.out] at h; exact absurd h.1 (by decide))]; exact HW.out)
            clear C1
            go_wp2_with (at_builtin; refine wp_appS1 rfl _ _ rfl w.heap.size _ _ rfl ho _ rfl S rfl (by omega) (by omega) ?_; intro v' w4 ho4 hx)
            go_roundw
            case rel => exact ⟨k + 1, B', 431, by omega, by go_num, by go_num, by go_num, HB', by omega, HWn, .inr rfl, mS_app ho4 HS.out, L.trans (hx.below ho (Nat.le_refl _) (by omega))⟩
            case measure => simp [intOf]; omega
    · obtain rfl : k = n := by omega
      have hzs : ∀ p ∈ [kh1, kh2] ++ List.replicate k (mS m) ++ [[]], p.length ≤ 1000000 := fun p hp => by
        rcases List.mem_append.1 hp with hp | hp
        · rcases List.mem_append.1 hp with hp | hp
          · simp at hp
            rcases hp with rfl | rfl <;> decide
          · rw [List.eq_of_mem_replicate hp, mS_len]; omega
        · simp at hp
          rw [hp]; exact Nat.zero_le _
      obtain ⟨f1, f2⟩ := many_law m k
      unfold mLines at f1 f2
      have hB9 : (25 + k * (m + 4) + 2) = B + 2 := by rw [HB.out]
      unfold wEnd at f1 f2
      rw [hB9, ← HW.out] at f1 f2
      clear hB9 hmz
      by_cases c : 1024 < B + 2
      · rw [if_pos c] at f1 f2
        have HS9 := Lib.hid f1
        have HW9 := Lib.hid (f2.trans (show decide ((431 : Int) = 0) = false from rfl))
        have hci : 1024 < (B : Int) + 2 := by omega
        clear f1 f2 c
        go_wp2_with (at_builtin; refine wp_appS1 rfl _ _ rfl w.heap.size _ _ rfl ho _ rfl ⟨#[]⟩ rfl (by omega) (by omega) ?_; intro v' w4 ho4 hx)
        have L4 := L.trans (hx.below ho (Nat.le_refl _) (by omega))
        obtain ⟨A, c, rfl, -, -, hr4⟩ := ho4.form
        refine (law_play A _ c _ _ w4 hr4 (Nat.le_refl _) (by simp; omega) hzs (hm.below L4 (Nat.le_refl _))).mono ?_
        rintro e w5 ⟨⟨g, gx, X, rfl, kx⟩, L5⟩
        have L6 := stepW L4 L5
        obtain ⟨Af, cf, bb, BX, -⟩ := kx.parts
        have c12 := BX.cell 12
        have c13 := BX.cell 13
        unfold xhCells at c12 c13
        have c12' : w5.cell? ⟨gx, 12, none⟩ = some (.bool false) := by rw [← HW9.out]; exact c12
        have c13' : w5.cell? ⟨gx, 13, none⟩ = some (.int .i64 431) := by rw [← HS9.out]; exact c13
        clear c12 c13 BX kx ho ho4 hr4
        go_wp2_with fail
        refine (law13_known w5 (hm.below L6 (Nat.le_refl _))).mono ?_
        rintro e w6 ⟨rfl, L7⟩
        go_wp2
        go_ret
        exact ⟨rfl, stepW L6 L7⟩
      have hci : (B : Int) + 2 ≤ 1024 := by omega
      rw [if_neg c] at f1 f2
      clear c
      rcases hW2 with rfl | rfl
      · have HS9 := Lib.hid f1
        have HW9 := Lib.hid (f2.trans (show decide ((0 : Int) = 0) = true from rfl))
        clear f1 f2
        go_wp2_with (at_builtin; refine wp_appS1 rfl _ _ rfl w.heap.size _ _ rfl ho _ rfl ⟨#[]⟩ rfl (by omega) (by omega) ?_; intro v' w4 ho4 hx)
        have L4 := L.trans (hx.below ho (Nat.le_refl _) (by omega))
        obtain ⟨A, c, rfl, -, -, hr4⟩ := ho4.form
        refine (law_play A _ c _ _ w4 hr4 (Nat.le_refl _) (by simp; omega) hzs (hm.below L4 (Nat.le_refl _))).mono ?_
        rintro e w5 ⟨⟨g, gx, X, rfl, kx⟩, L5⟩
        have L6 := stepW L4 L5
        obtain ⟨Af, cf, bb, BX, -⟩ := kx.parts
        have c12 := BX.cell 12
        have c13 := BX.cell 13
        unfold xhCells at c12 c13
        have c12' : w5.cell? ⟨gx, 12, none⟩ = some (.bool true) := by rw [← HW9.out]; exact c12
        have c13' : w5.cell? ⟨gx, 13, none⟩ = some (.int .i64 0) := by rw [← HS9.out]; exact c13
        clear c12 c13 BX kx ho ho4 hr4
        go_wp2_with fail
        refine (law13_known w5 (hm.below L6 (Nat.le_refl _))).mono ?_
        rintro e w6 ⟨rfl, L7⟩
        go_wp2
        go_ret
        exact ⟨rfl, stepW L6 L7⟩
      · have HS9 := Lib.hid f1
        have HW9 := Lib.hid (f2.trans (show decide ((431 : Int) = 0) = false from rfl))
        clear f1 f2
        go_wp2_with (at_builtin; refine wp_appS1 rfl _ _ rfl w.heap.size _ _ rfl ho _ rfl ⟨#[]⟩ rfl (by omega) (by omega) ?_; intro v' w4 ho4 hx)
        have L4 := L.trans (hx.below ho (Nat.le_refl _) (by omega))
        obtain ⟨A, c, rfl, -, -, hr4⟩ := ho4.form
        refine (law_play A _ c _ _ w4 hr4 (Nat.le_refl _) (by simp; omega) hzs (hm.below L4 (Nat.le_refl _))).mono ?_
        rintro e w5 ⟨⟨g, gx, X, rfl, kx⟩, L5⟩
        have L6 := stepW L4 L5
        obtain ⟨Af, cf, bb, BX, -⟩ := kx.parts
        have c12 := BX.cell 12
        have c13 := BX.cell 13
        unfold xhCells at c12 c13
        have c12' : w5.cell? ⟨gx, 12, none⟩ = some (.bool false) := by rw [← HW9.out]; exact c12
        have c13' : w5.cell? ⟨gx, 13, none⟩ = some (.int .i64 431) := by rw [← HS9.out]; exact c13
        clear c12 c13 BX kx ho ho4 hr4
        go_wp2_with fail
        refine (law13_known w5 (hm.below L6 (Nat.le_refl _))).mono ?_
        rintro e w6 ⟨rfl, L7⟩
        go_wp2
        go_ret
        exact ⟨rfl, stepW L6 L7⟩
end Go.Proofs.YtmnnbfaaaifcoaaGreatDoor

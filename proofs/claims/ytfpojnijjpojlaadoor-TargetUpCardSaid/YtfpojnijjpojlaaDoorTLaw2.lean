/- usherlaw11: TargetCleans, TargetUp. -/
import Derived.Test.YtfpojnijjpojlaaDoorTLaw1
import Derived.Test.YtfpojnijjpojlaaDoorTPl2
namespace Go.Proofs.YtfpojnijjpojlaaDoor
open Go.RowKit
set_option maxRecDepth 100000
set_option maxHeartbeats 4000000

theorem law_Cleans (s : ByteArray) (w : World) (hm : ML w) :
    Calls Tryd.prog 4 #[.string s] w fun e w' => e = .returned (.bool true) ∧ Below w.heap.size w w' := by
  go_enter Tryd.func4, Tryd.ntmps4
  by_cases h2 : s.size ≤ 2000
  · go_wp2_with fail
    refine (tgt_Clean s w (by omega) hm).mono ?_
    cases hC : cleanL s.data.toList with
    | none =>
      have HC := Lib.hid hC
      clear hC
      rw [clnR_none]
      rintro e w1 ⟨rfl, L1⟩
      go_wp2_with fail
      refine (ref11_Clean s w1 (by omega)).mono ?_
      rw [HC.out, clnR_none]
      rintro e w2 ⟨rfl, L2⟩
      have K2 := stepW L1 L2
      go_wp2_with fail
      refine (law11_known _ (hm.below K2 (Nat.le_refl _))).mono ?_
      rintro e w3 ⟨rfl, L3⟩
      go_wp2
      go_ret
      exact ⟨rfl, stepW K2 L3⟩
    | some a =>
      have hl := clean_len _ a hC
      rw [len_data] at hl
      have HS := Lib.hid (clean_stays _ a hC)
      have HC := Lib.hid hC
      clear hC
      rw [clnR_some]
      rintro e w1 ⟨rfl, L1⟩
      go_wp2_with fail
      refine (ref11_Clean s w1 (by omega)).mono ?_
      rw [HC.out, clnR_some]
      rintro e w2 ⟨rfl, L2⟩
      have K2 := stepW L1 L2
      go_wp2_with fail
      refine (tgt_Clean ⟨a.toArray⟩ w2 (by show a.length < 4294967281; omega) (hm.below K2 (Nat.le_refl _))).mono ?_
      rw [show (⟨a.toArray⟩ : ByteArray).data.toList = a from rfl, HS.out, clnR_some]
      rintro e w3 ⟨rfl, L3⟩
      have K3 := stepW K2 L3
      go_wp2_with fail
      refine (law11_known _ (hm.below K3 (Nat.le_refl _))).mono ?_
      rintro e w4 ⟨rfl, L4⟩
      go_wp2
      go_ret
      exact ⟨rfl, stepW K3 L4⟩
  · go_wp2
    go_ret
    exact ⟨rfl, Below.refl _ _⟩

theorem rep_one (n : Nat) (p : Bs) : joinP (List.replicate (n + 1) p) = joinP (List.replicate n p) ++ 47 :: p := by
  rw [List.replicate_succ', joinP_app]; simp [joinP]
theorem rep_len (n : Nat) (p : Bs) : (joinP (List.replicate n p)).length = n * (p.length + 1) := by
  induction n with
  | zero => simp [joinP]
  | succ n ih => rw [rep_one, List.length_append, ih, List.length_cons, Nat.succ_mul]
theorem law_Up (n : Int) (name : ByteArray) (w : World) (hm : ML w) :
    Calls Tryd.prog 6 #[.int .i64 n, .string name] w fun e w' => e = .returned (.bool true) ∧ Below w.heap.size w w' := by
  by_cases h0 : 0 ≤ n ∧ n ≤ 60 ∧ name.size ≤ 20
  · obtain ⟨a1, a2, a3⟩ := h0
    obtain ⟨N, rfl⟩ : ∃ N : Nat, n = N := ⟨n.toNat, by omega⟩
    go_enter Tryd.func6, Tryd.ntmps6
    go_wp2
    go_loop [5] (fun i => ∃ k : Nat, k ≤ name.size ∧ i = .int .i64 k ∧ Hid (∀ b ∈ name.data.toList.take k, b ≠ 47)) (fun i => name.size - (intOf i).toNat)
    case atStart => exact ⟨0, Nat.zero_le _, rfl, by intro b hb; simp at hb⟩
    case round =>
      obtain ⟨k, hk, rfl, H⟩ := hrel
      by_cases hlt : k < name.size
      · obtain ⟨b, hb, hbt⟩ := drop_bt name k hlt
        have hbs := PlainAid.get_bt name
        have hb8 := u8lt b
        by_cases h47 : b = 47
        · subst h47
          have hq : PlainAid.bt name k = 47 := hbt
          clear hbt hb
          go_wp2_with fail
          refine (law11_known _ hm).mono ?_
          rintro e w3 ⟨rfl, L3⟩
          go_wp2
          go_ret
          exact ⟨rfl, L3⟩
        · have hne : ((b.toNat : Int) == 47) = false := by
            rw [Bool.eq_false_iff]; intro h; exact h47 (u8inj (by have := beq_iff_eq.1 h; simp; omega))
          have H2 : Hid (∀ b ∈ name.data.toList.take (k + 1), b ≠ 47) := by
            intro x hx
            have hkl : k < name.data.toList.length := by rw [len_data]; exact hlt
            rw [List.take_succ_eq_append_getElem hkl] at hx
            rcases List.mem_append.1 hx with hx | hx
            · exact H.out x hx
            · have e := List.drop_eq_getElem_cons hkl
              rw [hb] at e
              have : x = b := by rw [(List.cons.inj e).1]; simpa using hx
              exact this ▸ h47
          clear hb h47 H
          go_wp2
          go_round
          case rel => exact ⟨k + 1, by omega, by go_num, H2⟩
          case measure => simp [intOf]; omega
      · have hno : ∀ b ∈ name.data.toList, b ≠ 47 := by have := H.out; rwa [List.take_of_length_le (by rw [len_data]; omega)] at this
        have eN : name.toList = name.data.toList := ByteArray.toList_eq _
        by_cases hbad : name.data.toList = [] ∨ name.data.toList = [46] ∨ name.data.toList = [46, 46]
        · have cc : (name.toList.isEmpty = true) ∨ (name.toList.isEmpty = false ∧ (name.toList == [46]) = true) ∨ (name.toList.isEmpty = false ∧ (name.toList == [46]) = false ∧ (name.toList == [46, 46]) = true) := by
            rw [eN]
            rcases hbad with h | h | h <;> rw [h] <;> simp
          clear hbad hno eN H
          rcases cc with c1 | ⟨c1, c2⟩ | ⟨c1, c2, c3⟩
          all_goals
            go_wp2_with fail
            refine (law11_known _ hm).mono ?_
            rintro e w3 ⟨rfl, L3⟩
            go_wp2
            go_ret
            exact ⟨rfl, L3⟩
        · have hg : goodP name.data.toList := ⟨fun e => hbad (.inl e), fun e => hbad (.inr (.inl e)), fun e => hbad (.inr (.inr e)), hno⟩
          have c1 : name.toList.isEmpty = false := by rw [eN, List.isEmpty_eq_false_iff]; exact hg.1
          have c2 : (name.toList == [46]) = false := by rw [eN]; simpa using hg.2.1
          have c3 : (name.toList == [46, 46]) = false := by rw [eN]; simpa using hg.2.2.1
          have HG := Lib.hid hg
          have hNl : N * (name.size + 1) ≤ 1260 := Nat.mul_le_mul (by omega : N ≤ 60) (by omega : name.size + 1 ≤ 21)
          have hN3 : N * 3 ≤ 180 := by omega
          clear hg hbad hno eN H
          go_wp2
          go_loop [6, 7, 8] (fun s t i => ∃ (j : Nat) (S T : ByteArray), j ≤ N ∧ i = .int .i64 j ∧ s = .string S ∧ t = .string T ∧ Hid (S.data.toList = joinP (List.replicate j name.data.toList)) ∧ Hid (T.data.toList = joinP (List.replicate j [46, 46]))) (fun _ _ i => N - (intOf i).toNat)
          case atStart => exact ⟨0, ⟨#[]⟩, ⟨#[]⟩, Nat.zero_le _, rfl, rfl, rfl, rfl, rfl⟩
          case round =>
            obtain ⟨j, S, T, hj, rfl, rfl, rfl, HS, HT⟩ := hrel
            have s1 : S.size ≤ 1260 := by
              rw [← len_data, HS.out, rep_len, len_data]
              exact Nat.le_trans (Nat.mul_le_mul_right _ hj) hNl
            have s2 : T.size ≤ 180 := by
              rw [← len_data, HT.out, rep_len]
              exact Nat.le_trans (Nat.mul_le_mul_right _ hj) (by simpa using hN3)
            by_cases hjn : j < N
            · go_wp2
              go_round
              case rel => exact ⟨j + 1, _, _, by omega, by go_num, rfl, rfl, by rw [rep_one, app_data, app_data, HS.out]; show joinP (List.replicate j name.data.toList) ++ [47] ++ name.data.toList = _; simp, by rw [rep_one, app_data, HT.out]; exact Lib.hid rfl⟩
              case measure => simp [intOf]; omega
            · obtain rfl : j = N := by omega
              obtain ⟨P1, hP1⟩ : ∃ P1 : ByteArray, P1 = (S ++ T) ++ ⟨#[47]⟩ := ⟨_, rfl⟩
              obtain ⟨P2, hP2⟩ : ∃ P2 : ByteArray, P2 = (S ++ T) ++ ⟨#[47, 46, 46]⟩ := ⟨_, rfl⟩
              have z1 : P1.size < 4294967281 := by rw [hP1, ByteArray.size_append, ByteArray.size_append]; show S.size + T.size + 1 < 4294967281; omega
              have z2 : P2.size < 4294967281 := by rw [hP2, ByteArray.size_append, ByteArray.size_append]; show S.size + T.size + 3 < 4294967281; omega
              have k1 : cleanL P1.data.toList = some [47] := by
                rw [hP1, app_data, app_data, HS.out, HT.out]; exact clean_root j _ HG.out
              have k2 : cleanL P2.data.toList = none := by
                rw [hP2, app_data, app_data, HS.out, HT.out]; exact clean_out j _ HG.out
              have K1 := Lib.hid k1
              have K2 := Lib.hid k2
              have e1 := hP1.symm
              have e2 := hP2.symm
              clear k1 k2 hP1 hP2
              go_wp2_with fail
              refine (tgt_Clean P1 w z1 hm).mono ?_
              rw [K1.out, clnR_some]
              rintro e w1 ⟨rfl, L1⟩
              go_wp2_with fail
              refine (tgt_Clean P2 w1 z2 (hm.below L1 (Nat.le_refl _))).mono ?_
              rw [K2.out, clnR_none]
              rintro e w2 ⟨rfl, L2⟩
              have M2 := stepW L1 L2
              go_wp2_with fail
              refine (law11_known _ (hm.below M2 (Nat.le_refl _))).mono ?_
              rintro e w3 ⟨rfl, L3⟩
              go_wp2
              go_ret
              exact ⟨rfl, stepW M2 L3⟩
  · go_enter Tryd.func6, Tryd.ntmps6
    go_wp2_with fail
    all_goals (refine (law11_known _ hm).mono ?_; rintro e w3 ⟨rfl, L3⟩; go_wp2; go_ret; exact ⟨rfl, L3⟩)
end Go.Proofs.YtfpojnijjpojlaaDoor

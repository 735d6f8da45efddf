/- usherlaw11: TargetDecodes, TargetCleans, TargetHosts. -/
import Derived.Test.YtfpojnijjpojlaaDoorTKnown
import Derived.Test.YtfpojnijjpojlaaDoorTRef3
namespace Go.Proofs.YtfpojnijjpojlaaDoor
open Go.RowKit
set_option maxRecDepth 100000
set_option maxHeartbeats 4000000

theorem law_Decodes (s : ByteArray) (w : World) (hm : ML w) :
    Calls Tryd.prog 3 #[.string s] w fun e w' => e = .returned (.bool true) ∧ Below w.heap.size w w' := by
  go_enter Tryd.func3, Tryd.ntmps3
  by_cases h2 : s.size ≤ 2000
  · go_wp2_with fail
    refine (tgt_Decode s w (by omega)).mono ?_
    cases hD : decodeL s.data.toList with
    | none =>
      have HD := Lib.hid hD
      clear hD
      rw [decR_none]
      rintro e w1 ⟨rfl, L1⟩
      go_wp2_with fail
      refine (ref11_Decode s w1 (by omega)).mono ?_
      rw [HD.out, decR_none]
      rintro e w2 ⟨rfl, L2⟩
      have K2 := stepW L1 L2
      go_wp2_with fail
      refine (law11_known _ (hm.below K2 (Nat.le_refl _))).mono ?_
      rintro e w3 ⟨rfl, L3⟩
      go_wp2
      go_ret
      exact ⟨rfl, stepW K2 L3⟩
    | some r =>
      have hl := decodeL_len _ _ (Nat.le_refl _) r hD
      rw [len_data] at hl
      have HD := Lib.hid hD
      clear hD
      rw [decR_some]
      rintro e w1 ⟨rfl, L1⟩
      go_wp2_with fail
      refine (ref11_Decode s w1 (by omega)).mono ?_
      rw [HD.out, decR_some]
      rintro e w2 ⟨rfl, L2⟩
      have K2 := stepW L1 L2
      go_wp2_with fail
      refine (law11_known _ (hm.below K2 (Nat.le_refl _))).mono ?_
      rintro e w3 ⟨rfl, L3⟩
      go_wp2
      go_ret
      exact ⟨rfl, stepW K2 L3⟩
  · go_wp2
    go_ret
    exact ⟨rfl, Below.refl _ _⟩

theorem law_Hosts (s : ByteArray) (w : World) (hs : s.size ≤ maxLen) (hm : ML w) :
    Calls Tryd.prog 5 #[.string s] w fun e w' => e = .returned (.bool true) ∧ Below w.heap.size w w' := by
  go_enter Tryd.func5, Tryd.ntmps5
  by_cases h2 : s.size ≤ 2000
  · obtain ⟨S, hS⟩ : ∃ S : ByteArray, S = ⟨#[97]⟩ ++ s := ⟨_, rfl⟩
    have hSs : S.size ≤ 2001 := by rw [hS, ByteArray.size_append]; show 1 + s.size ≤ 2001; omega
    have hSe : (⟨#[97]⟩ ++ s : ByteArray) = S := hS.symm
    clear hS
    go_wp2_with fail
    refine (tgt_Host s w (by omega) hm).mono ?_
    obtain ⟨H1, hH1⟩ : ∃ b, hostL s.data.toList = b := ⟨_, rfl⟩
    rw [hH1]
    rintro e w1 ⟨rfl, L1⟩
    go_wp2_with fail
    refine (ref11_Host s w1 hs).mono ?_
    rw [hH1]
    rintro e w2 ⟨rfl, rfl⟩
    have hm1 := hm.below L1 (Nat.le_refl _)
    go_wp2_with fail
    refine (tgt_Host S w1 (by omega) hm1).mono ?_
    obtain ⟨H2, hH2⟩ : ∃ b, hostL S.data.toList = b := ⟨_, rfl⟩
    rw [hH2]
    rintro e w2 ⟨rfl, L2⟩
    have K2 := stepW L1 L2
    go_wp2_with fail
    refine (ref11_Host S w2 (by unfold maxLen; omega)).mono ?_
    rw [hH2]
    rintro e w3 ⟨rfl, rfl⟩
    go_wp2_with fail
    refine (law11_known _ (hm.below K2 (Nat.le_refl _))).mono ?_
    rintro e w3 ⟨rfl, L3⟩
    go_wp2
    go_ret
    exact ⟨rfl, stepW K2 L3⟩
  · go_wp2
    go_ret
    exact ⟨rfl, Below.refl _ _⟩
end Go.Proofs.YtfpojnijjpojlaaDoor

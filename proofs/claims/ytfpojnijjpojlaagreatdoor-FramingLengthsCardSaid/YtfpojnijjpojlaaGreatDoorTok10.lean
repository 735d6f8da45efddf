/- usherref9.Has. -/
import Derived.Test.YtfpojnijjpojlaaGreatDoorTok9
namespace Go.Proofs.YtfpojnijjpojlaaGreatDoor
open Go.RowKit
set_option maxRecDepth 100000
set_option maxHeartbeats 2000000

theorem hasL_none (t : Bs) (vs : List Bs) (h : toksL vs = none) : hasL t vs = false := by rw [hasL, h]
theorem hasL_some (t : Bs) (vs l : List Bs) (h : toksL vs = some l) : hasL t vs = l.contains (lowL t) := by rw [hasL, h]
theorem ref9_Has (tok : ByteArray) (A : Option Addr) (c B : Nat) (vs : List Bs) (w : World) (hA : Rd w B 1 A vs.length (vs.map tv)) (hB : B ≤ w.heap.size) (hn : vs.length ≤ 1000) (hsz : TxSz vs) (ht : tok.size ≤ 1000000) :
    Calls Tryz.prog 51 #[.string tok, .slice A vs.length c] w fun e w' => e = .returned (.bool (hasL tok.data.toList vs)) ∧ Below w.heap.size w w' := by
  go_enter Tryz.func51, Tryz.ntmps51
  go_wp2_with fail
  refine (ref9_Tokens A c B vs w hA hB hn hsz).mono ?_
  rintro e w1 ⟨⟨A1, c1, rfl, h1, h2, h3⟩, L⟩
  cases ho : toksL vs with
  | none =>
    have HR := Lib.hid (hasL_none tok.data.toList vs ho)
    clear ho
    rw [show ((none : Option (List Bs)).getD []) = [] from rfl, show (none : Option (List Bs)).isSome = false from rfl]
    go_wp2
    go_loop [7] (fun i => i = .int .i64 0) (fun i => 1 - (intOf i).toNat)
    case atStart => rfl
    case round =>
      subst hrel
      go_wp2
      go_ret
      exact ⟨by rw [HR.out]; rfl, L⟩
  | some l =>
    have HO := Lib.hid ho
    rw [ho, show ((some l : Option (List Bs)).getD []) = l from rfl] at h1 h3
    rw [show ((some l : Option (List Bs)).getD []) = l from rfl, show (some l : Option (List Bs)).isSome = true from rfl]
    clear ho
    go_wp2
    go_loopw [7] (fun i wr => ∃ k : Nat, k ≤ l.length ∧ i = .int .i64 k ∧ Hid (∀ x ∈ l.take k, x ≠ lowL tok.data.toList) ∧ Below w1.heap.size w1 wr) (fun i _ => l.length - (intOf i).toNat)
    case atStart => exact ⟨0, Nat.zero_le _, rfl, by intro x hx; simp at hx, Below.refl _ _⟩
    case round =>
      obtain ⟨k, hk, rfl, H, L1⟩ := hrel
      have hmx : l.length ≤ 9223372036854775807 := by have : c1 ≤ maxLen := h2; unfold maxLen at this; omega
      by_cases hlt : k < l.length
      · obtain ⟨s, hs, -⟩ := drop_tx hlt
        have hR := h3.belowW (Nat.le_refl _) L1
        obtain ⟨b, o, rfl, hb, x0⟩ := hR.tx k s hs
        have HS := Lib.hid hs
        clear hs
        have hSw := L1.size
        have hR0 := hR.tx k s HS.out
        go_wp2
        go_region_with ((go_at_call 29; refine (ref_LowerS tok _ (by omega)).mono ?_; rintro e w2 ⟨rfl, L2⟩; have L3 := stepW (below_drewN' L1 1) L2; obtain ⟨b2, o2, e2, hb2, x2⟩ := (Rd.belowW hR.drew hSw L2).tx k s HS.out; injection e2 with e2; injection e2 with e2 e3; subst e2 e3))
        all_goals
          cases hE : (s == lowL tok.data.toList)
          · have HN := Lib.hid (show ∀ x ∈ l.take (k + 1), x ≠ lowL tok.data.toList by
              intro x hx
              rw [List.take_add_one, HS.out, Option.toList_some] at hx
              rcases List.mem_append.1 hx with hx | hx
              · exact H.out x hx
              · rw [List.mem_singleton] at hx; subst hx; simpa using hE)
            go_wp2
            go_roundw
            case rel => exact ⟨k + 1, by omega, by go_num, HN, L3⟩
            case measure => simp [intOf]; omega
          · have HR := Lib.hid (show hasL tok.data.toList vs = true by
              rw [hasL_some _ _ _ HO.out, List.contains_iff_mem, ← beq_iff_eq.1 hE]
              exact List.mem_of_getElem? HS.out)
            go_wp2
            go_ret
            exact ⟨by rw [HR.out]; rfl, stepW L L3⟩
      · have HR := Lib.hid (show hasL tok.data.toList vs = false by
          rw [hasL_some _ _ _ HO.out, List.contains_eq_any_beq, List.any_eq_false]
          intro x hx
          have := H.out x (by rw [List.take_of_length_le (by omega)]; exact hx)
          simpa using fun h => this h.symm)
        go_wp2
        go_ret
        exact ⟨by rw [HR.out]; rfl, stepW L L1⟩
end Go.Proofs.YtfpojnijjpojlaaGreatDoor

/- usherref12: length. -/
import Derived.Test.YtfpojnijjpojlaaGreatDoorRef12
namespace Go.Proofs.YtfpojnijjpojlaaGreatDoor
open Go.RowKit
set_option maxRecDepth 100000
set_option maxHeartbeats 2000000

theorem r12_length (g : Nat) (l : List Fd) (w : World) (hF : FR w 77 g l) (hl : l.length ≤ 24) (hsz : FdSz l) :
    Calls Tryz.prog 49 #[.pointer (some ⟨g, 0, none⟩)] w fun e w' => e = .returned (.tuple #[.int .i64 (lenL (valsL clN l)).1, .int .i64 (lenL (valsL clN l)).2]) ∧ Below w.heap.size w w' := by
  have hVC := fun (w : World) (hF : FR w 77 g l) => ref10_Values g l ⟨clN.toArray⟩ w hF (by omega) hsz (by decide)
  dsimp only at hVC
  have hvz := valsL_sz clN l hsz
  have hvl := valsL_len clN l
  generalize valsL clN l = cl at *
  go_enter Tryz.func49, Tryz.ntmps49
  go_wp2_with fail
  refine (hVC w hF).mono ?_
  rintro e w2 ⟨⟨A1, c1, rfl, h1, h2, h3⟩, L⟩
  go_wp2_with fail
  refine (ref9_Tokens A1 c1 _ cl w2 h3 (Nat.le_refl _) (by omega) hvz).mono ?_
  rintro e w3 ⟨⟨A3, c3, rfl, k1, k2, k3⟩, L3⟩
  have L4 := stepW L L3
  cases ht : toksL cl with
  | none =>
    have HE := Lib.hid (show lenL cl = (0, 400) by rw [lenL, ht])
    clear ht
    rw [show ((none : Option (List Bs)).getD []) = [] from rfl, show (none : Option (List Bs)).isSome = false from rfl]
    go_wp2
    go_ret2
    exact ⟨by rw [HE.out]; rfl, L4⟩
  | some t =>
    have hts := toks_sz _ t ht hvz
    rw [ht, show ((some t : Option (List Bs)).getD []) = t from rfl] at k1 k3
    rw [show ((some t : Option (List Bs)).getD []) = t from rfl, show (some t : Option (List Bs)).isSome = true from rfl]
    have HT := Lib.hid (show lenL cl = lenT t by rw [lenL, ht])
    clear ht h1 h2 h3
    have k4 : t.length ≤ 9223372036854775807 := by unfold maxLen at k2; omega
    rcases Nat.eq_zero_or_pos t.length with h0 | h0
    · obtain rfl : t = [] := List.eq_nil_of_length_eq_zero h0
      go_wp2
      go_ret2
      exact ⟨by rw [HT.out]; rfl, L4⟩
    · have q5 : ((t.length : Int) == 0) = false := by rw [Bool.eq_false_iff]; intro h; have := beq_iff_eq.1 h; omega
      go_wp2
      go_loop [6, 7] (fun v i => ∃ (k : Nat) (n : Int), k ≤ t.length ∧ i = .int .i64 k ∧ v = .int .i64 n ∧ Hid (k = 0 ∨ (0 < k ∧ sameN (t.take k) = some n))) (fun _ i => t.length - (intOf i).toNat)
      case atStart => exact ⟨0, 0, Nat.zero_le _, rfl, rfl, Lib.hid (.inl rfl)⟩
      case round =>
        obtain ⟨k, n, hk, rfl, rfl, H⟩ := hrel
        by_cases hlt : k < t.length
        · obtain ⟨x, hx, -⟩ := drop_tx hlt
          have hxs := hts x (List.mem_of_getElem? hx)
          obtain ⟨b, o, rfl, hb, x0⟩ := k3.tx k x hx
          have Hx := Lib.hid hx
          clear hx
          go_wp2_with fail
          refine (ref_Num ⟨x.toArray⟩ w3 (fsz_max hxs)).mono ?_
          rw [show (⟨x.toArray⟩ : ByteArray).data.toList = x from rfl]
          cases hN : numR 10 15 x with
          | none =>
            have HR := Lib.hid (show lenL cl = (0, 400) by rw [HT.out, lenT_none t (sameN_none t k x Hx.out hN)])
            clear hN
            rintro e w1 ⟨rfl, rfl⟩
            rw [show numV none = .tuple #[.int .i64 0, .bool false] from rfl]
            go_wp2
            go_ret2
            exact ⟨by rw [HR.out]; rfl, L4⟩
          | some m =>
            have HN := Lib.hid hN
            clear hN
            rintro e w1 ⟨rfl, rfl⟩
            rw [show numV (some m) = .tuple #[.int .i64 m, .bool true] from rfl]
            by_cases hz : k = 0
            · subst hz
              have HT2 := Lib.hid (sameN_one t 0 x m Hx.out HN.out (.inl rfl))
              go_wp2
              go_round
              case rel => exact ⟨1, m, by omega, rfl, rfl, Lib.hid (.inr ⟨by omega, HT2.out⟩)⟩
              case measure => simp [intOf]; omega
            · have hs : sameN (t.take k) = some n := by
                rcases H.out with h | h
                · exact absurd h hz
                · exact h.2
              have hz1 : (0 : Int) < (k : Int) := by omega
              by_cases hmn : m = n
              · subst hmn
                have HT2 := Lib.hid (sameN_one t k x m Hx.out HN.out (.inr hs))
                have hmm : (m == m) = true := by simp
                clear hs
                go_wp2
                go_round
                case rel => exact ⟨k + 1, m, by omega, by go_num, rfl, Lib.hid (.inr ⟨by omega, HT2.out⟩)⟩
                case measure => simp [intOf]; omega
              · have hmn1 : (m == n) = false := by rw [Bool.eq_false_iff]; intro h; exact hmn (beq_iff_eq.1 h)
                have hmn2 : (m != n) = true := by rw [bne_iff_ne]; exact hmn
                have HR := Lib.hid (show lenL cl = (0, 400) by rw [HT.out, lenT_none t (sameN_no t k x n Hx.out (by rw [HN.out]; intro h; exact hmn (Option.some.inj h)) (by omega) hs)])
                clear hs
                go_wp2
                go_ret2
                exact ⟨by rw [HR.out]; rfl, L4⟩
        · have hs : sameN t = some n := by
            rcases H.out with h | h
            · omega
            · rw [List.take_of_length_le (by omega)] at h; exact h.2
          by_cases hn2 : n ≤ 2048
          · have HR := Lib.hid (show lenL cl = (n, 0) by rw [HT.out, lenT, hs]; exact if_pos hn2)
            clear hs
            go_wp2
            go_ret2
            exact ⟨by rw [HR.out]; rfl, L4⟩
          · have HR := Lib.hid (show lenL cl = (0, 413) by rw [HT.out, lenT, hs]; exact if_neg hn2)
            have hn3 : 2048 < n := by omega
            clear hs
            go_wp2
            go_ret2
            exact ⟨by rw [HR.out]; rfl, L4⟩
end Go.Proofs.YtfpojnijjpojlaaGreatDoor

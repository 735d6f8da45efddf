/- usherref12: host, coding, length. usherref12: length. -/
import Derived.Test.YtlambdccmfnloaaGreatDoorTok
import Derived.Test.YtlambdccmfnloaaGreatDoorIs10
namespace Go.Proofs.YtlambdccmfnloaaGreatDoor
open Go.RowKit
set_option maxRecDepth 100000
set_option maxHeartbeats 2000000

def mI (first : Bool) : Int := if first then 1 else 0
theorem r12_host (first : Bool) (g : Nat) (l : List Fd) (w : World) (hF : FR w 132 g l) (hl : l.length ≤ 24) (hsz : FdSz l) :
    Calls Tryz.prog 255 #[.int .i64 (mI first), .pointer (some ⟨g, 0, none⟩)] w fun e w' => e = .returned (.bool (hostOk first (valsL hostN l))) ∧ Below w.heap.size w w' := by
  have hV := ref10_Values g l ⟨hostN.toArray⟩ w hF (by omega) hsz (by decide)
  rw [show (⟨hostN.toArray⟩ : ByteArray).data.toList = hostN from rfl] at hV
  have hvz := valsL_sz hostN l hsz
  have hvl := valsL_len hostN l
  generalize valsL hostN l = vs at *
  rcases vs with _ | ⟨x, _ | ⟨x2, r⟩⟩
  · cases first
    all_goals
      go_enter Tryz.func255, Tryz.ntmps255
      go_wp2_with fail
      refine hV.mono ?_
      rintro e w1 ⟨⟨A, c, rfl, h1, h2, h3⟩, L⟩
      go_wp2
      go_ret
      exact ⟨rfl, L⟩
  · have hxz := hvz x (by simp)
    by_cases hx : x = []
    · have hxe : (x : Bs).isEmpty = true := by rw [hx]; rfl
      have Hok := Lib.hid (show hostOk first [x] = true by rw [hostOk, hx]; rfl)
      clear hx
      go_enter Tryz.func255, Tryz.ntmps255
      go_wp2_with fail
      refine hV.mono ?_
      rintro e w1 ⟨⟨A, c, rfl, h1, h2, h3⟩, L⟩
      obtain ⟨b, o, rfl, hb, x0⟩ := h3.tx 0 x rfl
      rw [Nat.add_zero] at x0
      go_wp2
      go_ret
      exact ⟨by rw [Hok.out]; rfl, L⟩
    · have hxe : (x : Bs).isEmpty = false := by rw [List.isEmpty_eq_false_iff]; exact hx
      have Hok := Lib.hid (show hostOk first [x] = hostL x by rw [hostOk]; simp [hx])
      clear hx
      go_enter Tryz.func255, Tryz.ntmps255
      go_wp2_with fail
      refine hV.mono ?_
      rintro e w1 ⟨⟨A, c, rfl, h1, h2, h3⟩, L⟩
      obtain ⟨b, o, rfl, hb, x0⟩ := h3.tx 0 x rfl
      rw [Nat.add_zero] at x0
      go_wp2_with fail
      refine (ref11_Host ⟨x.toArray⟩ w1 (fsz_max hxz)).mono ?_
      rw [show (⟨x.toArray⟩ : ByteArray).data.toList = x from rfl]
      rintro e w2 ⟨rfl, rfl⟩
      go_wp2
      go_ret
      exact ⟨by rw [Hok.out]; rfl, L⟩
  · have Hok := Lib.hid (show hostOk first (x :: x2 :: r) = false from rfl)
    have hz : ¬ ((x :: x2 :: r).length : Int) ≤ 1 := by simp; omega
    go_enter Tryz.func255, Tryz.ntmps255
    go_wp2_with fail
    refine hV.mono ?_
    rintro e w1 ⟨⟨A, c, rfl, h1, h2, h3⟩, L⟩
    go_wp2
    go_ret
    exact ⟨by rw [Hok.out]; rfl, L⟩
theorem codL_none (first : Bool) (te cl : List Bs) (h : toksL te = none) : codL first te cl = 400 := by
  rw [codL, h]; split <;> rfl
theorem codT_nil : codT [] = 400 := rfl
theorem codT_last (t : List Bs) (x : Bs) (h : t.getLast? = some x) (hx : x ≠ chunkedB) : codT t = 400 := by
  rw [codT, if_neg]; rw [h]; intro e; exact hx (Option.some.inj e)
theorem r12_coding (first : Bool) (g : Nat) (l : List Fd) (w : World) (hF : FR w 132 g l) (hl : l.length ≤ 24) (hsz : FdSz l) :
    Calls Tryz.prog 257 #[.int .i64 (mI first), .pointer (some ⟨g, 0, none⟩)] w fun e w' => e = .returned (.int .i64 (codL first (valsL teN l) (valsL clN l))) ∧ Below w.heap.size w w' := by
  have hVC := fun (w : World) (hF : FR w 132 g l) => ref10_Values g l ⟨clN.toArray⟩ w hF (by omega) hsz (by decide)
  have hVT := fun (w : World) (hF : FR w 132 g l) => ref10_Values g l ⟨teN.toArray⟩ w hF (by omega) hsz (by decide)
  dsimp only at hVC hVT
  have hvz := valsL_sz teN l hsz
  have hvl := valsL_len teN l
  generalize valsL clN l = cl at *
  generalize valsL teN l = te at *
  cases first with
  | false =>
    have HE := Lib.hid (show codL false te cl = 400 from rfl)
    go_enter Tryz.func257, Tryz.ntmps257
    unfold mI
    go_wp2
    go_ret
    exact ⟨by rw [HE.out]; rfl, Below.refl _ _⟩
  | true =>
    go_enter Tryz.func257, Tryz.ntmps257
    unfold mI
    go_wp2_with fail
    refine (hVC w hF).mono ?_
    cases cl with
    | cons c0 cr =>
      have HE := Lib.hid (show codL true te (c0 :: cr) = 400 from rfl)
      have hz : (0 : Int) < ((c0 :: cr).length : Int) := by simp only [List.length_cons]; omega
      rintro e w1 ⟨⟨A, c, rfl, h1, h2, h3⟩, L⟩
      go_wp2
      go_ret
      exact ⟨by rw [HE.out]; rfl, L⟩
    | nil =>
      rintro e w1 ⟨⟨A, c, rfl, -, -, -⟩, L⟩
      go_wp2_with fail
      refine (hVT w1 (hF.belowW L)).mono ?_
      rintro e w2 ⟨⟨A1, c1, rfl, h1, h2, h3⟩, L2⟩
      go_wp2_with fail
      refine (ref9_Tokens A1 c1 _ te w2 h3 (Nat.le_refl _) (by omega) hvz).mono ?_
      rintro e w3 ⟨⟨A3, c3, rfl, k1, k2, k3⟩, L3⟩
      have L4 := stepW (stepW L L2) L3
      cases ht : toksL te with
      | none =>
        have HE := Lib.hid (codL_none true te [] ht)
        clear ht
        rw [show ((none : Option (List Bs)).getD []) = [] from rfl, show (none : Option (List Bs)).isSome = false from rfl]
        go_wp2
        go_ret
        exact ⟨by rw [HE.out]; rfl, L4⟩
      | some t =>
        rw [ht, show ((some t : Option (List Bs)).getD []) = t from rfl] at k1 k3
        rw [show ((some t : Option (List Bs)).getD []) = t from rfl, show (some t : Option (List Bs)).isSome = true from rfl]
        have HT := Lib.hid (show codL true te [] = codT t by rw [codL, ht]; rfl)
        clear ht h1 h2 h3
        have k4 : t.length ≤ 9223372036854775807 := by unfold maxLen at k2; omega
        rcases Nat.eq_zero_or_pos t.length with h0 | h0
        · obtain rfl : t = [] := List.eq_nil_of_length_eq_zero h0
          go_wp2
          go_ret
          exact ⟨by rw [HT.out]; rfl, L4⟩
        · obtain ⟨x, hx⟩ : ∃ x, t[t.length - 1]? = some x := ⟨_, List.getElem?_eq_getElem (by omega)⟩
          have hlast : t.getLast? = some x := by rw [List.getLast?_eq_getElem?]; exact hx
          obtain ⟨b, o, rfl, hb, x0⟩ := k3.tx (t.length - 1) x hx
          have q1 : IntKind.i64.wrap ((t.length : Int) - 1) = (t.length : Int) - 1 := IntWalk.i64_in _ (by omega)
          have q2 : ((t.length : Int) - 1).toNat = t.length - 1 := by omega
          have q3 : (0 : Int) ≤ (t.length : Int) - 1 := by omega
          have q4 : (t.length : Int) - 1 < t.length := by omega
          have q5 : ((t.length : Int) == 0) = false := by rw [Bool.eq_false_iff]; intro h; have := beq_iff_eq.1 h; omega
          have HX := Lib.hid hx
          have HL := Lib.hid hlast
          clear hx hlast
          by_cases hc : x = chunkedB
          · have hcb : (x == [99, 104, 117, 110, 107, 101, 100]) = true := by rw [hc]; rfl
            subst hc
            by_cases h1 : t.length = 1
            · have HE := Lib.hid (show codL true te [] = 0 by
                rw [HT.out, codT, if_pos HL.out, if_neg, if_pos h1]
                rw [List.dropLast_eq_take, h1]; simp)
              have h1b : ((t.length : Int) == 1) = true := by rw [h1]; rfl
              clear h1
              go_wp2
              go_ret
              exact ⟨by rw [HE.out]; rfl, L4⟩
            · have h1b : ((t.length : Int) == 1) = false := by rw [Bool.eq_false_iff]; intro h; have := beq_iff_eq.1 h; omega
              go_wp2
              go_loop [7] (fun i => ∃ k : Nat, k ≤ t.length - 1 ∧ i = .int .i64 k ∧ Hid (chunkedB ∉ t.take k)) (fun i => t.length - (intOf i).toNat)
              case atStart => exact ⟨0, Nat.zero_le _, rfl, Lib.hid (by simp)⟩
              case round =>
                obtain ⟨k, hk, rfl, H⟩ := hrel
                by_cases hlt : k < t.length - 1
                · obtain ⟨y, hy, -⟩ := drop_tx (by omega : k < t.length)
                  obtain ⟨b', o', e', hb', y0⟩ := k3.tx k y hy
                  injection e' with e'
                  injection e' with e1 e2
                  subst e1 e2
                  have hlti : (k : Int) < (t.length : Int) - 1 := by omega
                  by_cases hyc : y = chunkedB
                  · have hyb : (y == [99, 104, 117, 110, 107, 101, 100]) = true := by rw [hyc]; rfl
                    have HE := Lib.hid (show codL true te [] = 400 by
                      rw [HT.out, codT, if_pos HL.out, if_pos]
                      rw [List.dropLast_eq_take]
                      have : (t.take (t.length - 1))[k]? = some chunkedB := by rw [List.getElem?_take_of_lt hlt, hy, hyc]
                      exact List.mem_of_getElem? this)
                    clear hyc hy
                    go_wp2
                    go_ret
                    exact ⟨by rw [HE.out]; rfl, L4⟩
                  · have hyb : (y == [99, 104, 117, 110, 107, 101, 100]) = false := by rw [Bool.eq_false_iff]; intro h; exact hyc (beq_iff_eq.1 h)
                    have HN := Lib.hid (show chunkedB ∉ t.take (k + 1) by
                      rw [List.take_add_one, hy, Option.toList_some, List.mem_append, List.mem_singleton]
                      rintro (h | h)
                      · exact H.out h
                      · exact hyc h.symm)
                    clear hyc hy
                    go_wp2
                    go_round
                    case rel => exact ⟨k + 1, by omega, by go_num, HN⟩
                    case measure => simp [intOf]; omega
                · have HE := Lib.hid (show codL true te [] = 501 by
                    rw [HT.out, codT, if_pos HL.out, if_neg, if_neg h1]
                    rw [List.dropLast_eq_take]
                    have := H.out
                    rwa [show k = t.length - 1 by omega] at this)
                  have hge : (t.length : Int) - 1 ≤ k := by omega
                  go_wp2
                  go_ret
                  exact ⟨by rw [HE.out]; rfl, L4⟩
          · have HE := Lib.hid (show codL true te [] = 400 by rw [HT.out, codT_last t x HL.out hc])
            have hcb : (x == [99, 104, 117, 110, 107, 101, 100]) = false := by rw [Bool.eq_false_iff]; intro h; exact hc (beq_iff_eq.1 h)
            clear hc
            go_wp2
            go_ret
            exact ⟨by rw [HE.out]; rfl, L4⟩
end Go.Proofs.YtlambdccmfnloaaGreatDoor
namespace Go.Proofs.YtlambdccmfnloaaGreatDoor
open Go.RowKit
set_option maxRecDepth 100000
set_option maxHeartbeats 2000000

theorem r12_length (g : Nat) (l : List Fd) (w : World) (hF : FR w 132 g l) (hl : l.length ≤ 24) (hsz : FdSz l) :
    Calls Tryz.prog 258 #[.pointer (some ⟨g, 0, none⟩)] w fun e w' => e = .returned (.tuple #[.int .i64 (lenL (valsL clN l)).1, .int .i64 (lenL (valsL clN l)).2]) ∧ Below w.heap.size w w' := by
  have hVC := fun (w : World) (hF : FR w 132 g l) => ref10_Values g l ⟨clN.toArray⟩ w hF (by omega) hsz (by decide)
  dsimp only at hVC
  have hvz := valsL_sz clN l hsz
  have hvl := valsL_len clN l
  generalize valsL clN l = cl at *
  go_enter Tryz.func258, Tryz.ntmps258
  go_wp2_with fail
  refine (hVC w hF).mono ?_
  rintro e w2 ⟨⟨A1, c1, rfl, h1, h2, h3⟩, L⟩
  go_wp2_with fail
  refine (ref9_Tokens A1 c1 _ cl w2 h3 (Nat.le_refl _) (by omega) hvz).mono ?_
  rintro e w3 ⟨⟨A3, c3, rfl, k1, k2, k3⟩, L3⟩
  have L4 := stepW L L3
  cases ht : toksL cl with
  | none =>
    have HE := Lib.hid (show lenL cl = (0, 400) by rw [lenL, ht])
    clear ht
    rw [show ((none : Option (List Bs)).getD []) = [] from rfl, show (none : Option (List Bs)).isSome = false from rfl]
    go_wp2
    go_ret2
    exact ⟨by rw [HE.out]; rfl, L4⟩
  | some t =>
    have hts := toks_sz _ t ht hvz
    rw [ht, show ((some t : Option (List Bs)).getD []) = t from rfl] at k1 k3
    rw [show ((some t : Option (List Bs)).getD []) = t from rfl, show (some t : Option (List Bs)).isSome = true from rfl]
    have HT := Lib.hid (show lenL cl = lenT t by rw [lenL, ht])
    clear ht h1 h2 h3
    have k4 : t.length ≤ 9223372036854775807 := by unfold maxLen at k2; omega
    rcases Nat.eq_zero_or_pos t.length with h0 | h0
    · obtain rfl : t = [] := List.eq_nil_of_length_eq_zero h0
      go_wp2
      go_ret2
      exact ⟨by rw [HT.out]; rfl, L4⟩
    · have q5 : ((t.length : Int) == 0) = false := by rw [Bool.eq_false_iff]; intro h; have := beq_iff_eq.1 h; omega
      go_wp2
      go_loop [6, 7] (fun v i => ∃ (k : Nat) (n : Int), k ≤ t.length ∧ i = .int .i64 k ∧ v = .int .i64 n ∧ Hid (k = 0 ∨ (0 < k ∧ sameN (t.take k) = some n))) (fun _ i => t.length - (intOf i).toNat)
      case atStart => exact ⟨0, 0, Nat.zero_le _, rfl, rfl, Lib.hid (.inl rfl)⟩
      case round =>
        obtain ⟨k, n, hk, rfl, rfl, H⟩ := hrel
        by_cases hlt : k < t.length
        · obtain ⟨x, hx, -⟩ := drop_tx hlt
          have hxs := hts x (List.mem_of_getElem? hx)
          obtain ⟨b, o, rfl, hb, x0⟩ := k3.tx k x hx
          have Hx := Lib.hid hx
          clear hx
          go_wp2_with fail
          refine (ref_Num ⟨x.toArray⟩ w3 (fsz_max hxs)).mono ?_
          rw [show (⟨x.toArray⟩ : ByteArray).data.toList = x from rfl]
          cases hN : numR 10 15 x with
          | none =>
            have HR := Lib.hid (show lenL cl = (0, 400) by rw [HT.out, lenT_none t (sameN_none t k x Hx.out hN)])
            clear hN
            rintro e w1 ⟨rfl, rfl⟩
            rw [show numV none = .tuple #[.int .i64 0, .bool false] from rfl]
            go_wp2
            go_ret2
            exact ⟨by rw [HR.out]; rfl, L4⟩
          | some m =>
            have HN := Lib.hid hN
            clear hN
            rintro e w1 ⟨rfl, rfl⟩
            rw [show numV (some m) = .tuple #[.int .i64 m, .bool true] from rfl]
            by_cases hz : k = 0
            · subst hz
              have HT2 := Lib.hid (sameN_one t 0 x m Hx.out HN.out (.inl rfl))
              go_wp2
              go_round
              case rel => exact ⟨1, m, by omega, rfl, rfl, Lib.hid (.inr ⟨by omega, HT2.out⟩)⟩
              case measure => simp [intOf]; omega
            · have hs : sameN (t.take k) = some n := by
                rcases H.out with h | h
                · exact absurd h hz
                · exact h.2
              have hz1 : (0 : Int) < (k : Int) := by omega
              by_cases hmn : m = n
              · subst hmn
                have HT2 := Lib.hid (sameN_one t k x m Hx.out HN.out (.inr hs))
                have hmm : (m == m) = true := by simp
                clear hs
                go_wp2
                go_round
                case rel => exact ⟨k + 1, m, by omega, by go_num, rfl, Lib.hid (.inr ⟨by omega, HT2.out⟩)⟩
                case measure => simp [intOf]; omega
              · have hmn1 : (m == n) = false := by rw [Bool.eq_false_iff]; intro h; exact hmn (beq_iff_eq.1 h)
                have hmn2 : (m != n) = true := by rw [bne_iff_ne]; exact hmn
                have HR := Lib.hid (show lenL cl = (0, 400) by rw [HT.out, lenT_none t (sameN_no t k x n Hx.out (by rw [HN.out]; intro h; exact hmn (Option.some.inj h)) (by omega) hs)])
                clear hs
                go_wp2
                go_ret2
                exact ⟨by rw [HR.out]; rfl, L4⟩
        · have hs : sameN t = some n := by
            rcases H.out with h | h
            · omega
            · rw [List.take_of_length_le (by omega)] at h; exact h.2
          by_cases hn2 : n ≤ 2048
          · have HR := Lib.hid (show lenL cl = (n, 0) by rw [HT.out, lenT, hs]; exact if_pos hn2)
            clear hs
            go_wp2
            go_ret2
            exact ⟨by rw [HR.out]; rfl, L4⟩
          · have HR := Lib.hid (show lenL cl = (0, 413) by rw [HT.out, lenT, hs]; exact if_neg hn2)
            have hn3 : 2048 < n := by omega
            clear hs
            go_wp2
            go_ret2
            exact ⟨by rw [HR.out]; rfl, L4⟩
end Go.Proofs.YtlambdccmfnloaaGreatDoor

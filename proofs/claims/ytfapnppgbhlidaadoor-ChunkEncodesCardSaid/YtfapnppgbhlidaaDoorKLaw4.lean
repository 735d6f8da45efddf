/- The law ChunkEncodes. -/
import Derived.Test.YtfapnppgbhlidaaDoorKLaw
import Derived.Test.YtfapnppgbhlidaaDoorRowB
import Derived.Test.YtfapnppgbhlidaaDoorEncR
namespace Go.Proofs.YtfapnppgbhlidaaDoor
open Go.RowKit
set_option maxRecDepth 100000
set_option maxHeartbeats 4000000

theorem OB.lit0 (w : World) (base : Nat) (hb : base ≤ w.heap.size) : OB (w.alloc (.cells #[] 5)) base (.slice (some ⟨w.heap.size, 0, none⟩) 0 0) [] := by
  have := Own.lit w w.heap.size rfl base hb 5 1 0 [] rfl (Nat.zero_le _)
  exact this
theorem flatten_take (ps : List Bs) (k : Nat) (p : Bs) (h : ps[k]? = some p) : (ps.take (k + 1)).flatten = (ps.take k).flatten ++ p := by
  have hk : k < ps.length := (List.getElem?_eq_some_iff.1 h).1
  rw [List.take_succ_eq_append_getElem hk, List.flatten_append]
  have : ps[k] = p := (List.getElem?_eq_some_iff.1 h).2
  simp [this]
theorem law_Encodes (A : Option Addr) (n c : Nat) (ps : List Bs) (A2 : Option Addr) (n2 c2 : Nat) (b : Bs) (w : World) (hA : RdS w w.heap.size A n ps) (hA2 : Rd w w.heap.size 1 A2 n2 (b.map bv)) (hn : n ≤ maxLen) (hm : ML w) (ht : TZ w) :
    Calls Tryd.prog 5 #[.slice A n c, .slice A2 n2 c2] w fun e w' => e = .returned (.bool true) ∧ Below w.heap.size w w' := by
  unfold maxLen at hn
  have hl : ps.length = n := by obtain ⟨vs, h1, h2, h3⟩ := hA; exact h2
  have hbl : b.length = n2 := by simpa using hA2.1
  go_enter Tryd.func5, Tryd.ntmps5
  go_wp2
  go_loopw [5, 6, 7] (fun x v i wr => ∃ k s : Nat, k ≤ n ∧ i = .int .i64 k ∧ x = .int .i64 s ∧ s = k + (ps.take k).flatten.length ∧ s ≤ 4000 ∧ OB wr w.heap.size v (ps.take k).flatten ∧ (∀ p ∈ ps.take k, p.length ≤ 4000) ∧ Below w.heap.size w wr) (fun _ _ i _ => n - (intOf i).toNat)
  case atStart => exact ⟨0, 0, Nat.zero_le _, rfl, rfl, by simp, by omega, OB.nil _ _, by simp, Below.refl _ _⟩
  case round =>
    obtain ⟨k, s, hk, rfl, rfl, hs, hs4, ho, hsz, L⟩ := hrel
    have hS := L.size
    by_cases hlt : k < n
    · obtain ⟨p, hp, -⟩ := drop_list ps k (by omega)
      obtain ⟨b1, o1, Ai, ci, rfl, hb, hcell, hr⟩ := (hA.below L).at_ hp
      have HF := Lib.hid (flatten_take ps k p hp)
      have hT : ps.take (k + 1) = ps.take k ++ [p] := by
        have hk' : k < ps.length := by omega
        rw [List.take_succ_eq_append_getElem hk', (List.getElem?_eq_some_iff.1 hp).2]
      have HT := Lib.hid hT
      have HS := Lib.hid hs
      clear hp hT hs
      by_cases hbig : 4000 < p.length
      · go_wp2
        go_ret
        exact ⟨rfl, L⟩
      · have hple : p.length ≤ 4000 := by omega
        by_cases hbig2 : 4000 < s + 1 + p.length
        · clear hbig
          have e1 : (4000 : Int) < (s : Int) + 1 + (p.length : Int) := by omega
          go_wp2
          go_ret
          exact ⟨rfl, L⟩
        · have e1 : (s : Int) + 1 + (p.length : Int) ≤ 4000 := by omega
          have hfl : (ps.take k).flatten.length ≤ 4000 := by have := HS.out; omega
          clear hbig hbig2
          go_wp2_with (at_builtin; refine wp_appRd rfl _ _ rfl w.heap.size _ _ rfl ho (Below.refl _ _) Ai p.length ci w.heap.size rfl p hr (by omega) hS ?_; intro v2 w2 ho2 hx2)
          go_roundw
          case rel =>
            refine ⟨k + 1, s + 1 + p.length, by omega, by go_num, by go_num, by rw [HF.out, List.length_append]; have := HS.out; omega, by omega, by rw [HF.out]; exact ho2, ?_, L.trans (hx2.below ho (Nat.le_refl _) hS)⟩
            intro q hq
            rw [HT.out] at hq
            rcases List.mem_append.1 hq with hq | hq
            · exact hsz q hq
            · rw [List.mem_singleton] at hq; subst hq; exact hple
          case measure => simp [intOf]; omega
    · have hkn : k = n := by omega
      have hfull : ps.take k = ps := List.take_of_length_le (by omega)
      rw [hfull] at hs ho hsz
      have HS := Lib.hid hs
      have hn4 : n ≤ 4000 := by omega
      have hfl : ps.flatten.length ≤ 4000 := by omega
      clear hfull hs
      by_cases hbig : 4000 < n2
      · go_wp2
        go_ret
        exact ⟨rfl, L⟩
      · have hb4 : n2 ≤ 4000 := by omega
        have hbg : ∀ p ∈ ps, p.length < 16777216 := fun p hp => Nat.lt_of_le_of_lt (hsz p hp) (by decide)
        have hT : (ps.flatMap encP).length ≤ 1000000 := by have := flat_len ps hbg; omega
        have HEl := Lib.hid (show (encL ps).length ≤ 100000 by rw [encL_len ps]; have := flat_len ps hbg; omega)
        have HT := Lib.hid hT
        clear hbig hT
        obtain ⟨E, hE⟩ : ∃ E, E = encL ps := ⟨_, rfl⟩
        obtain ⟨F, hF⟩ : ∃ F, F = ps.flatten := ⟨_, rfl⟩
        have HOk := Lib.hid (enc_ok ps b hbg)
        have hEl := HEl.out
        rw [← hE] at HOk hEl
        rw [← hF] at ho hfl HOk
        clear HEl HS
        have HE := Lib.hid hE
        clear hE hF
        have hmr := hm.below L (Nat.le_refl _)
        have htr := ht.below L (Nat.le_refl _)
        go_wp2_with fail
        refine (chk_Encode A n c _ ps wr (hA.below L) hS HT.out (by omega) htr).mono ?_
        rw [← HE.out]
        rintro e w1 ⟨v1, rfl, ho1, L1⟩
        have L1' := stepW L L1
        have hall := OB.belowW ho L1
        go_wp2_with fail
        refine (ref14_Encode A n c _ ps w1 (hA.below L1') L1'.size HT.out (by omega)).mono ?_
        rw [← HE.out]
        rintro e w2 ⟨v2, rfl, ho2, L2⟩
        have L2' := stepW L1' L2
        have hall := OB.belowW hall L2
        have hob := OB.belowW ho1 L2
        obtain ⟨A3, c3, rfl, -, -, hr3⟩ := hob.form
        obtain ⟨A4, c4, rfl, -, -, hr4⟩ := ho2.form
        obtain ⟨A5, c5, rfl, -, -, hr5⟩ := hall.form
        clear ho1 ho2 ho hsz
        go_wp2_with fail
        refine (law_same14 A3 _ c3 E A4 _ c4 E w2 hr3 hr4 (by unfold maxLen; omega)).mono ?_
        rw [decide_eq_true rfl]
        rintro e w3 ⟨rfl, L3⟩
        have L3' := stepW L2' L3
        have hm3 := hm.below L3' (Nat.le_refl _)
        have ht3 := ht.below L3' (Nat.le_refl _)
        by_cases hmost : 2048 < F.length
        · go_wp2_with fail
          refine (law_known14 w3 hm3 ht3).mono ?_
          rintro e w4 ⟨rfl, L4⟩
          go_wp2
          go_ret
          exact ⟨rfl, stepW L3' L4⟩
        · have hFl : F.length ≤ 2048 := by omega
          obtain ⟨kk, hk⟩ := HOk.out hFl
          have HK := Lib.hid hk
          have hE3 := hr3.belowW (Nat.le_refl _) L3
          have hF3 := hr5.belowW (Nat.le_refl _) L3
          clear hk hmost HOk hr3 hr4 hr5 hmr htr
          go_wp2_with fail
          refine (chk_New w3).mono ?_
          rintro e w4 ⟨g, S, rfl, hK, hSS, L4⟩
          have L4' := stepW L3' L4
          have hE4 := hE3.below (L4.mono L3.size)
          have hF4 := hF3.below (L4.mono L3.size)
          have hB4 := hA2.below L4'
          have hz4 := L3.size
          have hz5 := L4.size
          have ho4 := OB.lit0 w4 w4.heap.size (Nat.le_refl _)
          have Lq := allocW (Below.refl w4.heap.size w4) (.cells #[] 5)
          clear hE3 hF3
          go_wp2_with (at_builtin; first
            | (refine wp_appRd rfl _ _ rfl w4.heap.size _ _ rfl ho4 (Below.refl _ _) A3 E.length c3 w2.heap.size rfl E (hE4.below (Lq.mono (by omega))) (by simp; omega) Lq.size ?_; intro v5 w5 ho5 hx5; have L5 := Lq.trans (hx5.below ho4 (Nat.le_refl _) Lq.size); rw [List.nil_append] at ho5)
            | (refine wp_appRd rfl _ _ rfl w4.heap.size _ _ rfl ho5 (Below.refl _ _) A2 n2 c2 w.heap.size rfl b (hB4.below (L5.mono (by have := L4'.size; omega))) (by omega) L5.size ?_; intro v6 w6 ho6 hx6; have L6 := L5.trans (hx6.below ho5 (Nat.le_refl _) L5.size)))
          obtain ⟨A6, c6, rfl, -, -, hr6⟩ := ho6.form
          have hne6 := OB.apart ho6 fun k hk => hK.lt hk
          have hK6 := hK.belowW L6
          have L6' := stepW L4' L6
          have hF6 := hF4.below (L6.mono (by omega))
          have hlen6 : (E ++ b).length ≤ 1000000 := by rw [List.length_append]; omega
          have hC := chk_Feed g S cs0 A6 (E ++ b).length c6 _ (E ++ b) w6 hK6 cs0_inv hr6 (Nat.le_refl _) hne6 hlen6 (hm.below L6' (Nat.le_refl _)) (hi_of hm3 hSS)
          have hI := cFeed_inv (E ++ b) cs0 cs0_inv
          rw [HK.out] at hC hI
          clear hr6 hne6 ho6 ho5 hK6 hB4 ho4 hE4 hF4
          refine hC.mono ?_
          rintro e w7 ⟨rfl, S7, hK7, hM7⟩
          have L7 := moved_below hM7 (stepW L4 L6) hSS
          have L7' := stepW L3' L7
          have hF7 := hF6.frm (by have := L6.size; omega) hM7.fr (hF6.off fun j hj => Nat.le_trans hz4 (hSS j hj))
          clear hM7 hF6 hC
          go_wp2_with fail
          refine (chk_Body g S7 _ w7 hK7 hI).mono ?_
          rintro e w8 ⟨v8, rfl, ho8, L8⟩
          have L8' := stepW L7' L8
          obtain ⟨A8, c8, rfl, -, -, hr8⟩ := ho8.form
          have hF8 := hF7.below (L8.mono (by have := L7.size; omega))
          clear ho8 hF7
          go_wp2_with fail
          refine (law_same14 A8 F.length c8 F A5 _ c5 F w8 hr8 (hF8.more (by have := L8'.size; have := L8.size; have := L7.size; have := L6.size; omega)) (by unfold maxLen; omega)).mono ?_
          rw [decide_eq_true rfl]
          rintro e w9 ⟨rfl, L9⟩
          have L9' := stepW L8' L9
          go_wp2_with fail
          refine (chk_Trailers g S7 _ w9 ((hK7.belowW L8).belowW L9) hI).mono ?_
          rintro e w10 ⟨v10, rfl, ho10, L10⟩
          have L10' := stepW L9' L10
          obtain ⟨A10, c10, rfl, -, -, -⟩ := ho10.form
          clear ho10
          go_wp2_with fail
          refine (law_known14 w10 (hm.below (stepW L3' (L7.trans (Below.refl _ _))) (Nat.le_refl _) |>.below (stepW (stepW L8 L9) L10) (Nat.le_refl _)) (ht.below (stepW L3' (L7.trans (Below.refl _ _))) (Nat.le_refl _) |>.below (stepW (stepW L8 L9) L10) (Nat.le_refl _))).mono ?_
          rintro e w11 ⟨rfl, L11⟩
          go_wp2
          go_ret
          exact ⟨rfl, stepW L10' L11⟩
end Go.Proofs.YtfapnppgbhlidaaDoor

/- The law ChunkTrailers. -/
import Derived.Test.YtfapnppgbhlidaaDoorKLaw
import Derived.Test.YtfapnppgbhlidaaDoorRowB
import Derived.Test.YtfapnppgbhlidaaDoorKPl5
import Derived.Test.YtfapnppgbhlidaaDoorIs10
import Derived.Test.YtfapnppgbhlidaaDoorFld2
import Derived.StillTailTactics
namespace Go.Proofs.YtfapnppgbhlidaaDoor
open Go.RowKit
set_option maxRecDepth 100000
set_option maxHeartbeats 4000000

theorem Rd.fd2 {w : World} {B n : Nat} {A : Option Addr} {l : List Fd} (h : Rd w B 2 A n (fcells l)) (hn : l.length = n) (k : Nat) (f : Fd) (hf : l[k]? = some f) :
    ∃ (b o : Nat) (N M : ByteArray), A = some ⟨b, o, none⟩ ∧ b < B ∧ f = (N.data.toList, M.data.toList) ∧ w.cell? ⟨b, o + k * 2, none⟩ = some (.string N) ∧ w.cell? ⟨b, o + k * 2 + 1, none⟩ = some (.string M) := by
  obtain ⟨b, o, e, hb, h1, h2⟩ := h.fd hn k f hf
  exact ⟨b, o, ⟨f.1.toArray⟩, ⟨f.2.toArray⟩, e, hb, rfl, h1, h2⟩
theorem rds_one (w : World) (A : Option Addr) (n c : Nat) (b : Bs) (h : Rd w w.heap.size 1 A n (b.map bv)) (hn : b.length = n) : RdS (w.alloc (.cells #[.slice A n c] 24)) (w.heap.size + 1) (some ⟨w.heap.size, 0, none⟩) 1 [b] := by
  subst hn
  refine ⟨[.slice A b.length c], Rd.new w _ rfl [.slice A b.length c] _ 1 1 rfl, rfl, fun i p hp => ?_⟩
  have hi : i = 0 := by
    have := (List.getElem?_eq_some_iff.1 hp).1
    simp at this; omega
  subst hi
  obtain rfl : b = p := by simpa using hp
  exact ⟨A, c, rfl, (h.alloc (Nat.le_refl _) _).more (by omega)⟩
theorem law_Trailers (A : Option Addr) (n c : Nat) (b : Bs) (A2 : Option Addr) (n2 c2 : Nat) (l : List Fd) (w : World) (hA : Rd w w.heap.size 1 A n (b.map bv)) (hA2 : Rd w w.heap.size 2 A2 n2 (fcells l))
    (hl : ∀ f ∈ l, f.1.length ≤ 140737488355328 ∧ f.2.length ≤ 140737488355328) (hm : ML w) (ht : TZ w) :
    Calls Tryd.prog 7 #[.slice A n c, .slice A2 n2 c2] w fun e w' => e = .returned (.bool true) ∧ Below w.heap.size w w' := by
  have hbl : b.length = n := by simpa using hA.1
  have hll : l.length = n2 := fcells_n hA2
  by_cases hb : 1000 < n
  · go_enter Tryd.func7, Tryd.ntmps7
    go_wp2
    go_ret
    exact ⟨rfl, Below.refl _ _⟩
  have hle : n ≤ 1000 := by omega
  clear hb
  by_cases hb : 12 < n2
  · go_enter Tryd.func7, Tryd.ntmps7
    go_wp2
    go_ret
    exact ⟨rfl, Below.refl _ _⟩
  have hle2 : n2 ≤ 12 := by omega
  clear hb
  have hRS := rds_one w A n c b hA hbl
  have LW := allocW (Below.refl w.heap.size w) (.cells #[.slice A n c] 24)
  have HT := Lib.hid (show ([b].flatMap encP).length ≤ 1000000 by
    have := encP_len b (by omega)
    simp only [List.flatMap_cons, List.flatMap_nil, List.append_nil]; omega)
  obtain ⟨Hd, hHd⟩ : ∃ Hd, Hd = headT b := ⟨_, rfl⟩
  have hHl : Hd.length ≤ 10000 ∧ 3 ≤ Hd.length := by
    have := encP_len b (by omega)
    rw [hHd, headT, List.length_append]
    simp only [List.length_cons, List.length_nil]; omega
  obtain ⟨hH1, hH2⟩ := hHl
  have HHd := Lib.hid hHd
  clear hHd
  go_enter Tryd.func7, Tryd.ntmps7
  go_wp2_with fail
  refine (chk_Encode _ 1 1 _ [b] _ hRS (by simp) HT.out (by decide) (ht.below LW (Nat.le_refl _))).mono ?_
  rw [headT_enc, ← HHd.out]
  rintro e w1 ⟨v1, rfl, ho1, L1⟩
  have L1' := stepW LW L1
  have hen : (Hd ++ [13, 10]).length = Hd.length + 2 := by simp
  obtain ⟨g1, cap, hv1, ho1'⟩ := Own.cut ho1 (k := Hd.length) (by omega) (by omega)
  have ho2 : OB w1 w.heap.size (.slice (some ⟨g1, 0, none⟩) Hd.length cap) Hd := by
    have h3 := Own.base_le ho1' (base' := w.heap.size) (by simp)
    unfold OB
    rw [show (List.map bv (Hd ++ [13, 10])).take (Hd.length * 1) = Hd.map bv by rw [Nat.mul_one, List.map_append, List.take_append_of_le_length (by simp), List.take_of_length_le (by simp)]] at h3
    exact h3
  have hcc1 : (Hd ++ [13, 10]).length ≤ cap := by
    obtain ⟨A9, c9, e9, h9, -⟩ := ho1.form
    rw [hv1] at e9
    injection e9 with _ _ e
    omega
  rw [hen] at hv1 hcc1
  subst hv1
  clear ho1 ho1' hRS
  go_wp2_with fail
  clear hen HT LW L1
  go_loopw [5, 6, 7] (fun v x i wr => ∃ k s : Nat, k ≤ n2 ∧ i = .int .i64 k ∧ x = .int .i64 s ∧ Hid (s = trlS (l.take k)) ∧ s ≤ 104 * k ∧ OB wr w.heap.size v (Hd ++ (l.take k).flatMap trlL) ∧ (∀ f ∈ l.take k, isF f = true ∧ f.1.length + f.2.length ≤ 100) ∧ Below w.heap.size w wr) (fun _ _ i _ => n2 - (intOf i).toNat)
  case atStart => exact ⟨0, 0, Nat.zero_le _, rfl, rfl, Lib.hid rfl, by omega, by simpa using ho2, by simp, L1'⟩
  case round =>
    obtain ⟨k, s, hk, rfl, rfl, Hs, hs, ho, hsz, L⟩ := hrel
    have hS := L.size
    have hmr := hm.below L (Nat.le_refl _)
    have htr := ht.below L (Nat.le_refl _)
    have HX := Lib.hid (show (Hd ++ (l.take k).flatMap trlL).length = Hd.length + s by rw [List.length_append, Hs.out, trlS])
    by_cases hlt : k < n2
    · obtain ⟨f, hf, hd⟩ := drop_fd (by omega : k < l.length)
      obtain ⟨b1, o1, N, M, rfl, hb1, hfe, x0, x1⟩ := (hA2.below L).fd2 hll k f hf
      obtain ⟨hf1, hf2⟩ := hl f (List.mem_of_getElem? hf)
      obtain ⟨T1, T2⟩ := trlS_take l k f hf
      have hT : l.take (k + 1) = l.take k ++ [f] := by
        have hk' : k < l.length := by omega
        rw [List.take_succ_eq_append_getElem hk', (List.getElem?_eq_some_iff.1 hf).2]
      rw [hfe] at hf1 hf2 T1 T2 hT
      rw [len_data] at hf1 hf2
      simp only [len_data] at T2
      have H1 := Lib.hid T1
      have H2 := Lib.hid T2
      have H3 := Lib.hid hT
      clear hf hd hfe T1 T2 hT
      by_cases hbig : 100 < N.size + M.size
      · have hI : (100 : Int) < (N.size : Int) + (M.size : Int) := by omega
        have hD : decide ((100 : Int) < (N.size : Int) + (M.size : Int)) = true := decide_eq_true hI
        clear hbig
        go_wp2
        go_quiet (fail)
        go_wp2_with fail
        refine (law_known14 (wr.drewN nq) (hmr.drewN nq) (htr.below (below_drewN' (Below.refl _ _) nq) (Nat.le_refl _))).mono ?_
        rintro e w2 ⟨rfl, L2⟩
        go_wp2
        go_ret
        exact ⟨rfl, stepW (below_drewN' L nq) L2⟩
      · have hI : (N.size : Int) + (M.size : Int) ≤ 100 := by omega
        have hD : decide ((100 : Int) < (N.size : Int) + (M.size : Int)) = false := decide_eq_false (by omega)
        have hN1 : N.size ≤ 100 := by omega
        have hM1 : M.size ≤ 100 := by omega
        have HW := Lib.hid (show IntKind.i64.wrap ((N.size : Int) + (M.size : Int)) ≤ 100 by rw [IntKind.wrap_i64]; omega)
        clear hbig
        cases hF : isF (N.data.toList, M.data.toList)
        · have hIs := fun w => ref10_Is' N M w (by omega) (by omega)
          rw [hF] at hIs
          go_wp2
          go_still_tail 19, (by kernel_rfl)
          iterate 4
            refine wpStill_step (fun K hK => ?_)
            rw [if_pos (by simp [Region.wanted, yielded]; exact HW.out)]
            go_simp
            refine hK _ ?_
            clear hK K
          refine wpStill_nil ?_
          change wpList _ _ _ _ _ wr.drew
          have L2 := L.drew
          have hm2 : ML wr.drew := hmr
          have ht2 : TZ wr.drew := htr
          clear ho L x0 x1 hmr htr
          generalize wr.drew = w2 at L2 hm2 ht2 ⊢
          go_wp2_with fail
          refine (hIs _).mono ?_
          rintro e w4 ⟨rfl, L4⟩
          have L5 := stepW L2 L4
          go_wp2_with fail
          refine (law_known14 w4 (hm2.below L4 (Nat.le_refl _)) (ht2.below L4 (Nat.le_refl _))).mono ?_
          rintro e w5 ⟨rfl, L6⟩
          go_wp2
          go_ret
          exact ⟨rfl, stepW L5 L6⟩
        · have hIs := fun w => ref10_Is' N M w (by omega) (by omega)
          rw [hF] at hIs
          go_wp2
          go_still_tail 19, (by kernel_rfl)
          iterate 4
            refine wpStill_step (fun K hK => ?_)
            rw [if_pos (by simp [Region.wanted, yielded]; exact HW.out)]
            go_simp
            refine hK _ ?_
            clear hK K
          refine wpStill_nil ?_
          change wpList _ _ _ _ _ wr.drew
          have L2 := L.drew
          have hm2 : ML wr.drew := hmr
          have ht2 : TZ wr.drew := htr
          clear L hmr htr
          have ho2 := Own.drew ho
          have y0 : wr.drew.cell? ⟨b1, o1 + k * 2, none⟩ = some (.string N) := x0
          have y1 : wr.drew.cell? ⟨b1, o1 + k * 2 + 1, none⟩ = some (.string M) := x1
          clear x0 x1 ho
          generalize wr.drew = w2 at L2 hm2 ht2 ho2 y0 y1 ⊢
          go_wp2_with fail
          refine (hIs _).mono ?_
          rintro e w4 ⟨rfl, L4⟩
          have L5 := stepW L2 L4
          have ho4 := OB.belowW ho2 L4
          have c0 : w4.cell? ⟨b1, o1 + k * 2, none⟩ = some (.string N) := (L4.cell (p := ⟨b1, o1 + k * 2, none⟩) (by have := L2.size; show b1 < _; omega)).trans y0
          have c1 : w4.cell? ⟨b1, o1 + k * 2 + 1, none⟩ = some (.string M) := (L4.cell (p := ⟨b1, o1 + k * 2 + 1, none⟩) (by have := L2.size; show b1 < _; omega)).trans y1
          clear ho2 y0 y1 hIs
          go_wp2
          go_quiet (fail)
          have ho5 := Own.drewN ho4 nq
          have L6 := below_drewN' L5 nq
          clear ho4 c0 c1 L5 L4
          generalize w4.drewN nq = w5 at ho5 L6 ⊢
          have hS5 := L6.size
          have hlen := HX.out
          go_wp2_with (at_builtin; refine wp_appStr rfl _ _ rfl w.heap.size _ (Hd ++ (l.take k).flatMap trlL) rfl ho5 (N ++ ⟨#[58, 32]⟩ ++ M ++ ⟨#[13, 10]⟩) rfl (by simp only [ByteArray.size_append]; show _ + (N.size + 2 + M.size + 2) ≤ _; omega) hS5 ?_; intro v6 w6 ho6 hx6)
          have e6 : (N ++ ⟨#[58, 32]⟩ ++ M ++ ⟨#[13, 10]⟩ : ByteArray).data.toList = trlL (N.data.toList, M.data.toList) := by simp only [app_data, trlL]
          rw [e6, List.append_assoc, ← H1.out] at ho6
          have h2 := H2.out
          have h3 := Hs.out
          go_roundw
          case rel =>
            refine ⟨k + 1, s + (N.size + M.size + 4), by omega, by go_num, by rw [Value.int.injEq]; exact ⟨rfl, by omega⟩, Lib.hid (by rw [h2, h3]), by omega, ho6, ?_, L6.trans (hx6.below ho5 (Nat.le_refl _) hS5)⟩
            intro q hq
            rw [H3.out] at hq
            rcases List.mem_append.1 hq with hq | hq
            · exact hsz q hq
            · rw [List.mem_singleton] at hq; subst hq; exact ⟨hF, by simp only [len_data]; omega⟩
          case measure => simp [intOf]; omega
    · have hkn : k = n2 := by omega
      have hfull : l.take k = l := List.take_of_length_le (by omega)
      rw [hfull] at ho hsz HX Hs
      clear hfull
      by_cases hbig : 512 < s
      · go_wp2_with fail
        refine (law_known14 wr hmr htr).mono ?_
        rintro e w2 ⟨rfl, L2⟩
        go_wp2
        go_ret
        exact ⟨rfl, stepW L L2⟩
      · have hs5 : s ≤ 512 := by omega
        have hlen := HX.out
        have hsS := Hs.out
        clear hbig
        obtain ⟨E, hE⟩ : ∃ E, E = bodyT b l := ⟨_, rfl⟩
        have hEq : Hd ++ l.flatMap trlL ++ [13, 10] = E := by rw [hE, bodyT, ← HHd.out]
        have hEl : E.length ≤ 100000 := by rw [← hEq, List.length_append, hlen]; simp; omega
        have HOk := Lib.hid (trl_ok b l (by omega) hsz (by omega))
        have HNi := Lib.hid (trl_nine b l (by omega) hsz (by omega))
        rw [← hE] at HOk HNi
        have HE := Lib.hid hEq
        have HsS := Lib.hid hsS
        have HLen := Lib.hid hlen
        clear hE hEq hsS hlen
        have hlq := HLen.out
        go_wp2_with (at_builtin; refine wp_appStr rfl _ _ rfl w.heap.size _ (Hd ++ l.flatMap trlL) rfl ho ⟨#[13, 10]⟩ rfl (by show _ + 2 ≤ _; omega) hS ?_; intro v2 w2 ho2 hx2)
        rw [HE.out] at ho2
        have L2 := L.trans (hx2.below ho (Nat.le_refl _) hS)
        have hm2 := hm.below L2 (Nat.le_refl _)
        obtain ⟨A2', c2', rfl, -, -, hr2⟩ := ho2.form
        clear ho hx2 hlq
        refine (chk_New w2).mono ?_
        rintro e w3 ⟨g, S, rfl, hK, hSS, L3⟩
        have L3' := stepW L2 L3
        have hne := hr2.off hSS
        have hr3 := hr2.belowW (Nat.le_refl _) L3
        clear ho2 hr2
        have hC := chk_Feed g S cs0 A2' E.length c2' _ E w3 hK cs0_inv hr3 L3.size hne (by omega) (hm2.below L3 (Nat.le_refl _)) (hi_of hm2 hSS)
        have hI := cFeed_inv E cs0 cs0_inv
        clear hne hr3
        by_cases h8 : 8 < n2
        · obtain ⟨q1, q2, q3⟩ := HNi.out (by omega)
          unfold FeedPost at hC
          rw [q1, q2] at hC
          clear HNi HOk
          go_wp2_with fail
          refine hC.mono ?_
          rintro e w4 ⟨rfl, S4, hK4, hM4⟩
          have L4 := moved_below hM4 L3' (fun j hj => Nat.le_trans L2.size (hSS j hj))
          clear hM4 hC
          go_wp2_with fail
          refine (chk_Trailers g S4 _ w4 hK4 hI).mono ?_
          rintro e wz ⟨v5, rfl, ho5, L5⟩
          have Lz := stepW L4 L5
          obtain ⟨A5, c5, rfl, -, -, -⟩ := ho5.form
          rw [q3]
          clear ho5
          go_wp2_with fail
          refine (law_known14 wz (hm.below Lz (Nat.le_refl _)) (ht.below Lz (Nat.le_refl _))).mono ?_
          rintro e wy ⟨rfl, Ly⟩
          go_wp2
          go_ret
          exact ⟨rfl, stepW Lz Ly⟩
        · have h8' : n2 ≤ 8 := by omega
          obtain ⟨k1, e1, hk1⟩ := HOk.out (by omega)
          rw [hk1] at hC hI
          clear HNi HOk h8 hk1
          go_wp2_with fail
          refine hC.mono ?_
          rintro e w4 ⟨rfl, S4, hK4, hM4⟩
          have L4 := moved_below hM4 L3' (fun j hj => Nat.le_trans L2.size (hSS j hj))
          clear hM4 hC
          go_wp2_with fail
          refine (chk_Trailers g S4 _ w4 hK4 hI).mono ?_
          rintro e w5 ⟨v5, rfl, ho5, L5⟩
          have L5' := stepW L4 L5
          obtain ⟨A5, c5, rfl, -, -, hr5⟩ := OF.form ho5
          clear ho5
          have hr5 : Rd w5 w5.heap.size 2 A5 n2 (fcells l) := by rw [← hll]; exact hr5
          go_wp2_with fail
          refine (law_fields14 A5 n2 c5 l A2 n2 c2 l w5 hr5 ((hA2.below L5').more L5'.size) (by unfold maxLen; omega)).mono ?_
          rw [decide_eq_true rfl]
          rintro e w6 ⟨rfl, L6⟩
          have L6' := stepW L5' L6
          go_wp2_with fail
          refine (chk_Body g S4 _ w6 ((hK4.belowW L5).belowW L6) hI).mono ?_
          rintro e w7 ⟨v7, rfl, ho7, L7⟩
          have L7' := stepW L6' L7
          obtain ⟨A7, c7, rfl, -, -, hr7⟩ := ho7.form
          clear ho7
          have hr7 : Rd w7 w7.heap.size 1 A7 n (b.map bv) := by rw [← hbl]; exact hr7
          go_wp2_with fail
          refine (law_same14 A7 n c7 b A n c b w7 hr7 ((hA.below L7').more L7'.size) (by unfold maxLen; omega)).mono ?_
          rw [decide_eq_true rfl]
          rintro e wz ⟨rfl, Lz0⟩
          have Lz := stepW L7' Lz0
          go_wp2_with fail
          refine (law_known14 wz (hm.below Lz (Nat.le_refl _)) (ht.below Lz (Nat.le_refl _))).mono ?_
          rintro e wy ⟨rfl, Ly⟩
          go_wp2
          go_ret
          exact ⟨rfl, stepW Lz Ly⟩
end Go.Proofs.YtfapnppgbhlidaaDoor

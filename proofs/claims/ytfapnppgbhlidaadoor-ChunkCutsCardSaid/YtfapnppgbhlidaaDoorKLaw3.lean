/- The law ChunkCuts. -/
import Derived.Test.YtfapnppgbhlidaaDoorKLaw
import Derived.Test.YtfapnppgbhlidaaDoorRowB
import Derived.Deep.DeepCutAuto
namespace Go.Proofs.YtfapnppgbhlidaaDoor
open Go.RowKit
set_option maxRecDepth 100000
set_option maxHeartbeats 4000000

theorem i64_and31 (n : Int) : bits .and .i64 n 31 = n % 32 := by
  have h : (BitVec.ofInt 64 31).toNat = 2 ^ 5 - 1 := by decide
  have key : (BitVec.ofInt 64 n &&& BitVec.ofInt 64 31).toNat = (n % ((2 ^ 64 : Nat) : Int)).toNat % 2 ^ 5 := by
    rw [BitVec.toNat_and, BitVec.toNat_ofInt, h, Nat.and_two_pow_sub_one_eq_mod]
  show IntKind.i64.wrap ((BitVec.ofInt 64 n &&& BitVec.ofInt 64 31).toNat : Nat) = n % 32
  rw [key, IntKind.wrap_i64]
  omega
/-- A portion: what is fed of what is left. -/
theorem feed_portion (Q : Nat × CS) (r : CS) (l : Bs) (a k : Nat) (hk : a + k ≤ l.length) (H : Q = (a + (cFeed r (l.drop a)).1, (cFeed r (l.drop a)).2)) (q : Nat × CS) (hq : q = cFeed r ((l.drop a).take k)) :
    (q.2.on = true → q.1 = k ∧ Q = (a + k + (cFeed q.2 (l.drop (a + k))).1, (cFeed q.2 (l.drop (a + k))).2)) ∧ (q.2.on = false → q.1 ≤ k ∧ Q = (a + q.1, q.2)) := by
  have hd : l.drop a = (l.drop a).take k ++ l.drop (a + k) := by
    rw [← List.drop_drop, List.take_append_drop]
  have hl : ((l.drop a).take k).length = k := by rw [List.length_take, List.length_drop]; omega
  have key := cFeed_app ((l.drop a).take k) (l.drop (a + k)) r
  rw [← hd, ← hq, hl] at key
  have hle := cFeed_le ((l.drop a).take k) r
  rw [← hq, hl] at hle
  constructor
  · intro ho
    have hall := cFeed_all ((l.drop a).take k) r (by rw [← hq]; exact ho)
    rw [← hq, hl] at hall
    rw [ho, if_pos rfl] at key
    refine ⟨hall, ?_⟩
    rw [H, key]
    exact Prod.ext (by simp only; omega) rfl
  · intro ho
    rw [ho, if_neg (by decide)] at key
    exact ⟨hle, by rw [H, key]⟩
theorem CS.off_cases (r : CS) (h : r.on = false) : r.whole = true ∨ (r.whole = false ∧ (r.status == 0) = false) := by
  unfold CS.on at h
  cases hw : r.whole
  · rw [hw] at h
    refine .inr ⟨rfl, ?_⟩
    rw [Bool.eq_false_iff]; intro h0; rw [beq_iff_eq] at h0; rw [h0] at h; cases h
  · exact .inl rfl
theorem law_Cuts (A : Option Addr) (n c : Nat) (b : Bs) (A2 : Option Addr) (n2 c2 : Nat) (zs : List Int) (w : World) (hA : Rd w w.heap.size 1 A n (b.map bv)) (hA2 : Rd w w.heap.size 1 A2 n2 (zs.map (Value.int .i64))) (hc : n ≤ c) (hm : ML w) (ht : TZ w) :
    Calls Tryd.prog 4 #[.slice A n c, .slice A2 n2 c2] w fun e w' => e = .returned (.bool true) ∧ Below w.heap.size w w' := by
  by_cases hb : 4000 < n
  · go_enter Tryd.func4, Tryd.ntmps4
    go_wp2
    go_ret
    exact ⟨rfl, Below.refl _ _⟩
  have hle : n ≤ 4000 := by omega
  clear hb
  by_cases hb : 300 < n2
  · go_enter Tryd.func4, Tryd.ntmps4
    go_wp2
    go_ret
    exact ⟨rfl, Below.refl _ _⟩
  have hle2 : n2 ≤ 300 := by omega
  clear hb
  have hbl : b.length = n := by simpa using hA.1
  have hzl : zs.length = n2 := by simpa using hA2.1
  have kand := i64_and31
  go_enter Tryd.func4, Tryd.ntmps4
  go_wp2_with fail
  refine (chk_New w).mono ?_
  rintro e w1 ⟨g1, S1, rfl, hK1, hS1, L1⟩
  go_wp2_with fail
  refine (chk_New w1).mono ?_
  rintro e w2 ⟨g2, S2, rfl, hK2, hS2, L2⟩
  have hlt1 : ∀ k, S1 k → k < w1.heap.size := fun k hk => hK1.lt hk
  have hK1 := hK1.belowW L2
  have L12 := stepW L1 L2
  have hm2 := hm.below L12 (Nat.le_refl _)
  have hA1 := hA.below L12
  have hne1 : 0 < n → ∀ a, A = some a → ¬ S1 a.block := hA.off hS1
  have hS12 : ∀ k, S1 k → ¬ S2 k := fun k h1 h2 => by
    have := hS2 k h2
    have := hlt1 k h1
    omega
  go_wp2_with fail
  refine (chk_Feed g1 S1 cs0 A n c _ b w2 hK1 cs0_inv hA1 L12.size hne1 (by omega) hm2 (hi_of hm hS1)).mono ?_
  obtain ⟨Q, hQ⟩ : ∃ Q, Q = cFeed cs0 b := ⟨_, rfl⟩
  have hIQ : CInv Q.2 := by rw [hQ]; exact cFeed_inv b cs0 cs0_inv
  rw [← hQ]
  rintro e w3 ⟨rfl, S3, hK3, hM3⟩
  have L3 := moved_below hM3 L12 hS1
  have hlt2 : ∀ k, S2 k → k < w2.heap.size := fun k hk => hK2.lt hk
  have hK2 := hK2.fr hM3.fr fun k h1 h2 => hS12 k h2 h1
  have hS3 := moved_hs hM3 L12.size hS1
  have hS32 : ∀ k, S3 k → ¬ S2 k := fun k h1 h2 => by
    rcases hM3.foot k h1 with h | h
    · exact hS12 k h h2
    · have := hlt2 k h2
      omega
  have hQ0 := Lib.hid (show Q = (0 + (cFeed cs0 (b.drop 0)).1, (cFeed cs0 (b.drop 0)).2) by rw [hQ]; simp)
  clear hQ hM3 hne1 hA1 hm2 hK1
  go_wp2
  go_loopw [10, 11, 12, 13] (fun x10 x11 x12 i wr => ∃ (a j : Nat) (r : CS) (S : Nat → Prop), x10 = .int .i64 a ∧ x11 = .bool false ∧ x12 = .int .i64 0 ∧ i = .int .i64 j ∧ a ≤ n ∧ j ≤ n2 + 1 ∧ (j = n2 + 1 → a = n) ∧ r.on = true ∧ CInv r ∧ KR wr g2 S r ∧ KR wr g1 S3 Q.2 ∧ (∀ k, S3 k → ¬ S k) ∧ (∀ k, S k → w.heap.size ≤ k) ∧ Below w.heap.size w wr ∧ Hid (Q = (a + (cFeed r (b.drop a)).1, (cFeed r (b.drop a)).2))) (fun _ _ _ i _ => n2 + 1 - (intOf i).toNat)
  case atStart => exact ⟨0, 0, cs0, S2, rfl, rfl, rfl, rfl, by omega, by omega, by omega, rfl, cs0_inv, hK2, hK3, hS32, fun k hk => Nat.le_trans L1.size (hS2 k hk), L3, hQ0⟩
  case round =>
    obtain ⟨a, j, r, S, rfl, rfl, rfl, rfl, ha, hj, hjn, hon, hI, hKx, hKr, hdis, hSw, L, H⟩ := hrel
    have hmr := hm.below L (Nat.le_refl _)
    have hAr := hA.below L
    have hAr2 := hA2.below L
    have hS := L.size
    by_cases hjn2 : j ≤ n2
    · obtain ⟨D, hD⟩ : ∃ D : Nat, D = n - a := ⟨_, rfl⟩
      have hD2 : (n : Int) - (a : Int) = (D : Int) := by omega
      have hDn : D + a = n := by omega
      have HDn := Lib.hid hDn
      clear hD hDn
      go_upto_if 46 with (fail)
      go_cut [14] (fun v wx => ∃ k : Nat, v = .int .i64 k ∧ k ≤ D ∧ (j = n2 → k = D) ∧ wr = wx)
      case first =>
        by_cases hlt : j < n2
        · obtain ⟨z, hz, -⟩ := drop_list zs j (by omega)
          obtain ⟨b1, o1, rfl, hb1, hx1⟩ := hAr2.2 (by omega)
          have cx := hx1 j (.int .i64 z) (map_get _ _ _ _ hz)
          clear hz hx1
          go_wp2_with fail
          go_meet
          case rel => exact ⟨min D (z % 32).toNat, by rw [Value.int.injEq]; exact ⟨rfl, by omega⟩, by omega, by omega, rfl⟩
        · go_wp2_with fail
          go_meet
          case rel => exact ⟨D, rfl, Nat.le_refl _, fun _ => rfl, rfl⟩
      case rest =>
        obtain ⟨k, rfl, hkD, hkj, rfl⟩ := hcut
        have hDn := HDn.out
        have hak : a + k ≤ n := by omega
        have hp := (hAr.cutFrom (k := a) ha).cutTo (k := k) (by omega)
        rw [Nat.mul_one, Nat.mul_one, ← List.map_drop, ← List.map_take] at hp
        have hpn : 0 < k → ∀ x, A.map (·.add a) = some x → ¬ S x.block := fun h0 => hp.off hSw h0
        obtain ⟨q, hq⟩ : ∃ q, q = cFeed r ((b.drop a).take k) := ⟨_, rfl⟩
        obtain ⟨P1, P2⟩ := feed_portion Q r b a k (by omega) H.out q hq
        have hIq : CInv q.2 := by rw [hq]; exact cFeed_inv _ r hI
        have HP1 := Lib.hid P1
        have HP2 := Lib.hid P2
        have hC : ∀ (V : Option Addr) (cc : Nat), (0 < k → V = A.map (·.add a)) → Calls Tryd.prog 10 #[.pointer (some ⟨g2, 0, none⟩), .slice V k cc] wr (FeedPost wr g2 S q) := by
          intro V cc hV
          rw [hq]
          refine chk_Feed g2 S r V k cc _ ((b.drop a).take k) wr hKx hI ⟨hp.1, fun h0 => by rw [hV h0]; exact hp.2 h0⟩ hS (fun h0 => by rw [hV h0]; exact hpn h0) (by omega) hmr (hi_of hm hSw)
        clear P1 P2 hq hp hpn H hAr hAr2
        go_upto_region 14 with (fail)
        go_cut [11, 12, 15] (fun v11 v12 v15 wx => v15 = .int .i64 (q.1 : Int) ∧ v11 = .bool q.2.whole ∧ v12 = .int .i64 q.2.status ∧ ∃ S', KR wx g2 S' q.2 ∧ Moved S S' wr wx)
        case first =>
          cases A with
          | none =>
            have hC1 := hC none (c - a) (fun _ => rfl)
            clear hC
            go_wp2_with fail
            refine hC1.mono ?_
            rintro e wx ⟨rfl, hx⟩
            go_wp2_with fail
            go_meet
            case rel => exact ⟨rfl, rfl, rfl, hx⟩
          | some x =>
            by_cases hac : a = c
            · have hC1 := hC (some x) 0 (fun h0 => by omega)
              subst hac
              clear hC
              go_wp2_with fail
              refine hC1.mono ?_
              rintro e wx ⟨rfl, hx⟩
              go_wp2_with fail
              go_meet
              case rel => exact ⟨rfl, rfl, rfl, hx⟩
            · have hC1 := hC (some (x.add a)) (c - a) (fun _ => rfl)
              have hac2 : a < c := by omega
              clear hC
              go_wp2_with fail
              refine hC1.mono ?_
              rintro e wx ⟨rfl, hx⟩
              go_wp2_with fail
              go_meet
              case rel => exact ⟨rfl, rfl, rfl, hx⟩
        case rest =>
          obtain ⟨rfl, rfl, rfl, S', hKx', hM'⟩ := hcut
          obtain ⟨wx, rfl⟩ : ∃ wx, wx = wc := ⟨_, rfl⟩
          have hSw' := moved_hs hM' hS hSw
          have Lx := moved_below hM' L hSw
          have hKr' := hKr.fr hM'.fr hdis
          have hdis' : ∀ k, S3 k → ¬ S' k := fun k h1 h2 => by
            rcases hM'.foot k h2 with h | h
            · exact hdis k h1 h
            · have := hKr.lt h1; omega
          clear hM' L hKr hdis hSw hKx hI hmr
          cases ho : q.2.on
          · obtain ⟨hqk, hQ⟩ := HP2.out ho
            have hw := CS.off_cases q.2 ho
            obtain ⟨T, hT⟩ : ∃ T, T = a + q.1 := ⟨_, rfl⟩
            obtain ⟨R, hR⟩ : ∃ R, R = q.2 := ⟨_, rfl⟩
            rw [← hT, ← hR] at hQ
            have hTi : (a : Int) + (q.1 : Int) = (T : Int) := by omega
            rw [← hR] at hKx' hw hIq ⊢
            subst hQ
            have hKr' : KR wx g1 S3 R := hKr'
            have hIQ : CInv R := hIQ
            clear HP1 HP2 hT ho hR hQ0 hK3
            rcases hw with hw | ⟨hw, hst⟩
            · rw [hw]
              rcases Nat.lt_or_ge q.1 k with hlk | hlk
              all_goals
                go_wp2_with fail
                refine (chk_Body g1 S3 _ wx hKr' hIQ).mono ?_
                rintro e w4 ⟨v4, rfl, ho4, L4⟩
                have L4' := stepW Lx L4
                go_wp2_with fail
                refine (chk_Body g2 S' _ w4 (hKx'.belowW L4) hIQ).mono ?_
                rintro e w5 ⟨v5, rfl, ho5, L5⟩
                have L5' := stepW L4' L5
                obtain ⟨A4, c4, rfl, -, -, hr4⟩ := (ho4.belowW L5).form
                obtain ⟨A5, c5, rfl, -, -, hr5⟩ := ho5.form
                have hbd : R.body.length ≤ 2048 := by have := hIQ.body; omega
                have htd := hIQ.trs
                clear ho4 ho5
                go_wp2_with fail
                refine (law_same14 A4 R.body.length c4 R.body A5 _ c5 R.body w5 hr4 hr5 (by unfold maxLen; omega)).mono ?_
                rw [decide_eq_true rfl]
                rintro e w6 ⟨rfl, L6⟩
                have L6' := stepW L5' L6
                have hKr6 := ((hKr'.belowW L4).belowW L5).belowW L6
                have hKx6 := ((hKx'.belowW L4).belowW L5).belowW L6
                clear hr4 hr5 L4 L5 L6 L4' L5' hKr' hKx'
                go_wp2_with fail
                refine (chk_Trailers g1 S3 _ w6 hKr6 hIQ).mono ?_
                rintro e w7 ⟨v7, rfl, ho7, L7⟩
                have L7' := stepW L6' L7
                go_wp2_with fail
                refine (chk_Trailers g2 S' _ w7 (hKx6.belowW L7) hIQ).mono ?_
                rintro e w8 ⟨v8, rfl, ho8, L8⟩
                have L8' := stepW L7' L8
                obtain ⟨A7, c7, rfl, -, -, hr7⟩ := (OF.belowW ho7 L8).form
                obtain ⟨A8, c8, rfl, -, -, hr8⟩ := ho8.form
                clear ho7 ho8
                go_wp2_with fail
                refine (law_fields14 A7 R.trs.length c7 R.trs A8 _ c8 R.trs w8 hr7 hr8 (by unfold maxLen; omega)).mono ?_
                rw [decide_eq_true rfl]
                rintro e w9 ⟨rfl, L9⟩
                have L9' := stepW L8' L9
                go_wp2_with fail
                refine (law_known14 w9 (hm.below L9' (Nat.le_refl _)) (ht.below L9' (Nat.le_refl _))).mono ?_
                rintro e w10 ⟨rfl, L10⟩
                go_wp2
                go_ret
                exact ⟨rfl, stepW L9' L10⟩
            · rw [hw]
              have hst2 : (R.status != 0) = true := by rw [bne, hst]; rfl
              rcases Nat.lt_or_ge q.1 k with hlk | hlk
              all_goals
                go_wp2_with fail
                refine (chk_Body g1 S3 _ wx hKr' hIQ).mono ?_
                rintro e w4 ⟨v4, rfl, ho4, L4⟩
                have L4' := stepW Lx L4
                go_wp2_with fail
                refine (chk_Body g2 S' _ w4 (hKx'.belowW L4) hIQ).mono ?_
                rintro e w5 ⟨v5, rfl, ho5, L5⟩
                have L5' := stepW L4' L5
                obtain ⟨A4, c4, rfl, -, -, hr4⟩ := (ho4.belowW L5).form
                obtain ⟨A5, c5, rfl, -, -, hr5⟩ := ho5.form
                have hbd : R.body.length ≤ 2048 := by have := hIQ.body; omega
                have htd := hIQ.trs
                clear ho4 ho5
                go_wp2_with fail
                refine (law_same14 A4 R.body.length c4 R.body A5 _ c5 R.body w5 hr4 hr5 (by unfold maxLen; omega)).mono ?_
                rw [decide_eq_true rfl]
                rintro e w6 ⟨rfl, L6⟩
                have L6' := stepW L5' L6
                have hKr6 := ((hKr'.belowW L4).belowW L5).belowW L6
                have hKx6 := ((hKx'.belowW L4).belowW L5).belowW L6
                clear hr4 hr5 L4 L5 L6 L4' L5' hKr' hKx'
                go_wp2_with fail
                refine (chk_Trailers g1 S3 _ w6 hKr6 hIQ).mono ?_
                rintro e w7 ⟨v7, rfl, ho7, L7⟩
                have L7' := stepW L6' L7
                go_wp2_with fail
                refine (chk_Trailers g2 S' _ w7 (hKx6.belowW L7) hIQ).mono ?_
                rintro e w8 ⟨v8, rfl, ho8, L8⟩
                have L8' := stepW L7' L8
                obtain ⟨A7, c7, rfl, -, -, hr7⟩ := (OF.belowW ho7 L8).form
                obtain ⟨A8, c8, rfl, -, -, hr8⟩ := ho8.form
                clear ho7 ho8
                go_wp2_with fail
                refine (law_fields14 A7 R.trs.length c7 R.trs A8 _ c8 R.trs w8 hr7 hr8 (by unfold maxLen; omega)).mono ?_
                rw [decide_eq_true rfl]
                rintro e w9 ⟨rfl, L9⟩
                have L9' := stepW L8' L9
                go_wp2_with fail
                refine (law_known14 w9 (hm.below L9' (Nat.le_refl _)) (ht.below L9' (Nat.le_refl _))).mono ?_
                rintro e w10 ⟨rfl, L10⟩
                go_wp2
                go_ret
                exact ⟨rfl, stepW L9' L10⟩
          · obtain ⟨hw, hst⟩ := CS.on_parts _ ho
            obtain ⟨hqk, hQ⟩ := HP1.out ho
            have HQ := Lib.hid hQ
            rw [hw, hst, hqk]
            clear hQ HP1 HP2
            go_wp2_with fail
            go_roundw
            case rel => exact ⟨a + k, j + 1, q.2, S', by go_num, rfl, rfl, by go_num, hak, by omega, fun h => by have := hkj (by omega); have := HDn.out; omega, ho, hIq, hKx', hKr', hdis', hSw', Lx, HQ⟩
            case measure => simp [intOf]; omega
    · obtain rfl : j = n2 + 1 := by omega
      obtain rfl : a = n := hjn rfl
      have hQ : Q = (a, r) := by rw [H.out, List.drop_of_length_le (by omega)]; rfl
      have Lx := L
      subst hQ
      have hKr' : KR wr g1 S3 r := hKr
      have hIQ : CInv r := hI
      have hKx' := hKx
      clear H hKr hQ0 hK3 hKx hAr hAr2
      obtain ⟨hw, hst⟩ := CS.on_parts _ hon
      obtain ⟨R, rfl⟩ : ∃ R, R = r := ⟨_, rfl⟩
      obtain ⟨wx, rfl⟩ : ∃ wx, wx = wr := ⟨_, rfl⟩
      obtain ⟨S', rfl⟩ : ∃ S', S' = S := ⟨_, rfl⟩
      go_wp2_with fail
      refine (chk_Body g1 S3 _ wx hKr' hIQ).mono ?_
      rintro e w4 ⟨v4, rfl, ho4, L4⟩
      have L4' := stepW Lx L4
      go_wp2_with fail
      refine (chk_Body g2 S' _ w4 (hKx'.belowW L4) hIQ).mono ?_
      rintro e w5 ⟨v5, rfl, ho5, L5⟩
      have L5' := stepW L4' L5
      obtain ⟨A4, c4, rfl, -, -, hr4⟩ := (ho4.belowW L5).form
      obtain ⟨A5, c5, rfl, -, -, hr5⟩ := ho5.form
      have hbd : R.body.length ≤ 2048 := by have := hIQ.body; omega
      have htd := hIQ.trs
      clear ho4 ho5
      go_wp2_with fail
      refine (law_same14 A4 R.body.length c4 R.body A5 _ c5 R.body w5 hr4 hr5 (by unfold maxLen; omega)).mono ?_
      rw [decide_eq_true rfl]
      rintro e w6 ⟨rfl, L6⟩
      have L6' := stepW L5' L6
      have hKr6 := ((hKr'.belowW L4).belowW L5).belowW L6
      have hKx6 := ((hKx'.belowW L4).belowW L5).belowW L6
      clear hr4 hr5 L4 L5 L6 L4' L5' hKr' hKx'
      go_wp2_with fail
      refine (chk_Trailers g1 S3 _ w6 hKr6 hIQ).mono ?_
      rintro e w7 ⟨v7, rfl, ho7, L7⟩
      have L7' := stepW L6' L7
      go_wp2_with fail
      refine (chk_Trailers g2 S' _ w7 (hKx6.belowW L7) hIQ).mono ?_
      rintro e w8 ⟨v8, rfl, ho8, L8⟩
      have L8' := stepW L7' L8
      obtain ⟨A7, c7, rfl, -, -, hr7⟩ := (OF.belowW ho7 L8).form
      obtain ⟨A8, c8, rfl, -, -, hr8⟩ := ho8.form
      clear ho7 ho8
      go_wp2_with fail
      refine (law_fields14 A7 R.trs.length c7 R.trs A8 _ c8 R.trs w8 hr7 hr8 (by unfold maxLen; omega)).mono ?_
      rw [decide_eq_true rfl]
      rintro e w9 ⟨rfl, L9⟩
      have L9' := stepW L8' L9
      go_wp2_with fail
      refine (law_known14 w9 (hm.below L9' (Nat.le_refl _)) (ht.below L9' (Nat.le_refl _))).mono ?_
      rintro e w10 ⟨rfl, L10⟩
      go_wp2
      go_ret
      exact ⟨rfl, stepW L9' L10⟩
end Go.Proofs.YtfapnppgbhlidaaDoor

/- The law ParseCuts. -/
import Derived.Test.YtdajfajnkikmdaaGreatDoorTk15
import Derived.Deep.DeepCutAuto
namespace Go.Proofs.YtdajfajnkikmdaaGreatDoor
open Go.RowKit
set_option maxRecDepth 100000
set_option maxHeartbeats 4000000

theorem i64_and31' (n : Int) : bits .and .i64 n 31 = n % 32 := by
  have h : (BitVec.ofInt 64 31).toNat = 2 ^ 5 - 1 := by decide
  have key : (BitVec.ofInt 64 n &&& BitVec.ofInt 64 31).toNat = (n % ((2 ^ 64 : Nat) : Int)).toNat % 2 ^ 5 := by
    rw [BitVec.toNat_and, BitVec.toNat_ofInt, h, Nat.and_two_pow_sub_one_eq_mod]
  show IntKind.i64.wrap ((BitVec.ofInt 64 n &&& BitVec.ofInt 64 31).toNat : Nat) = n % 32
  rw [key, IntKind.wrap_i64]
  omega
theorem law_Cuts15 (A : Option Addr) (n c : Nat) (b : Bs) (A2 : Option Addr) (n2 c2 : Nat) (zs : List Int) (w : World) (hA : Rd w w.heap.size 1 A n (b.map bv)) (hA2 : Rd w w.heap.size 1 A2 n2 (zs.map (Value.int .i64))) (hc : n ≤ c) (hm : ML w) :
    Calls Tryz.prog 7 #[.slice A n c, .slice A2 n2 c2] w fun e w' => e = .returned (.bool true) ∧ Below w.heap.size w w' := by
  by_cases hb : 6000 < n
  · go_enter Tryz.func7, Tryz.ntmps7
    go_wp2
    go_ret
    exact ⟨rfl, Below.refl _ _⟩
  have hle : n ≤ 6000 := by omega
  clear hb
  by_cases hb : 200 < n2
  · go_enter Tryz.func7, Tryz.ntmps7
    go_wp2
    go_ret
    exact ⟨rfl, Below.refl _ _⟩
  have hle2 : n2 ≤ 200 := by omega
  clear hb
  have hbl : b.length = n := by simpa using hA.1
  have hzl : zs.length = n2 := by simpa using hA2.1
  have kand := i64_and31'
  go_enter Tryz.func7, Tryz.ntmps7
  go_wp2_with fail
  refine (prs_New w).mono ?_
  rintro e w1 ⟨⟨g1, S1, rfl, hK1, hS1⟩, L1⟩
  go_wp2_with fail
  refine (prs_New w1).mono ?_
  rintro e w2 ⟨⟨g2, S2, rfl, hK2, hS2⟩, L2⟩
  have hlt1 : ∀ k, S1 k → k < w1.heap.size := fun k hk => hK1.lt hk
  have L12 := stepW L1 L2
  have hm2 := hm.below L12 (Nat.le_refl _)
  have hlt1' : ∀ k, S1 k → k < w2.heap.size := fun k hk => Nat.lt_of_lt_of_le (hlt1 k hk) L2.size
  have hA1 : RdO w2 S1 A n (b.map bv) := ⟨(hA.below L12).more L12.size, hA.off hS1⟩
  have hP := RdP.one hlt1' w2.heap.size rfl 22 b hbl hA1 hc
  have La := allocW (Below.refl w2.heap.size w2) (.cells #[.slice A n c] 22)
  have hK1a := (hK1.belowW L2).belowW La
  have hK2a := hK2.belowW La
  have hS12 : ∀ k, S1 k → ¬ S2 k := fun k h1 h2 => by
    have := hS2 k h2
    have := hlt1 k h1
    omega
  have hF := prs_FeedP g1 S1 p0 _ 1 1 [b] _ hK1a p0_inv hP (by simp; omega) (by decide) (hm2.below La (Nat.le_refl _)) (hi_of hm hS1) (by decide)
  rw [show [b].flatten = b by simp] at hF
  obtain ⟨Q, hQ⟩ : ∃ Q, Q = pFeed p0 b := ⟨_, rfl⟩
  rw [← hQ] at hF
  have hQ0 := Lib.hid (show Q = (0 + (pFeed p0 (b.drop 0)).1, (pFeed p0 (b.drop 0)).2) by rw [hQ]; simp)
  clear hQ hP hA1 hK1 hlt1
  go_wp2_with fail
  refine hF.mono ?_
  rintro e w3 ⟨rfl, hIQ, S3, hK3, hM3⟩
  have L3 := moved_below hM3 (stepW L12 La) hS1
  have hlt2 : ∀ k, S2 k → k < w2.heap.size := fun k hk => hK2.lt hk
  have hK2 := hK2a.fr hM3.fr fun k h1 h2 => hS12 k h2 h1
  have hS3 := moved_hs hM3 (Nat.le_trans L12.size La.size) hS1
  have hS32 : ∀ k, S3 k → ¬ S2 k := fun k h1 h2 => by
    rcases hM3.foot k h1 with h | h
    · exact hS12 k h h2
    · have := hlt2 k h2
      have := La.size
      omega
  clear hM3 hm2 hK1a hK2a La hF
  go_wp2
  go_loopw [8, 9] (fun x8 i wr => ∃ (a j : Nat) (r : PS) (S : Nat → Prop), x8 = .int .i64 a ∧ i = .int .i64 j ∧ a ≤ n ∧ j ≤ n2 + 1 ∧ r.fed ≤ a ∧ PInv r ∧ PR wr g2 S r ∧ PR wr g1 S3 Q.2 ∧ (∀ k, S3 k → ¬ S k) ∧ (∀ k, S k → w.heap.size ≤ k) ∧ Below w.heap.size w wr ∧ Hid (Q = (a + (pFeed r (b.drop a)).1, (pFeed r (b.drop a)).2)) ∧ Hid (j = n2 + 1 → Q = (a, r))) (fun _ i _ => n2 + 1 - (intOf i).toNat)
  case atStart => exact ⟨0, 0, p0, S2, rfl, rfl, by omega, by omega, by decide, p0_inv, hK2, hK3, hS32, fun k hk => Nat.le_trans L1.size (hS2 k hk), L3, hQ0, Lib.hid (fun h => by omega)⟩
  case round =>
    obtain ⟨a, j, r, S, rfl, rfl, ha, hj, hfed, hI, hKx, hKr, hdis, hSw, L, H, HJ⟩ := hrel
    have hmr := hm.below L (Nat.le_refl _)
    have hAr := hA.below L
    have hAr2 := hA2.below L
    have hS := L.size
    by_cases hjn2 : j ≤ n2
    · obtain ⟨D, hD⟩ : ∃ D : Nat, D = n - a := ⟨_, rfl⟩
      have hD2 : (n : Int) - (a : Int) = (D : Int) := by omega
      have hDn : D + a = n := by omega
      have HDn := Lib.hid hDn
      clear hD hDn
      go_upto_if 43 with (fail)
      go_cut [10] (fun v wx => ∃ k : Nat, v = .int .i64 k ∧ k ≤ D ∧ (j = n2 → k = D) ∧ wr = wx)
      case first =>
        by_cases hlt : j < n2
        · obtain ⟨z, hz, -⟩ := drop_list zs j (by omega)
          obtain ⟨b1, o1, rfl, hb1, hx1⟩ := hAr2.2 (by omega)
          have cx := hx1 j (.int .i64 z) (map_get _ _ _ _ hz)
          clear hz hx1
          go_wp2_with fail
          go_meet
          case rel => exact ⟨min D (z % 32).toNat, by rw [Value.int.injEq]; exact ⟨rfl, by omega⟩, by omega, by omega, rfl⟩
        · go_wp2_with fail
          go_meet
          case rel => exact ⟨D, rfl, Nat.le_refl _, fun _ => rfl, rfl⟩
      case rest =>
        obtain ⟨k, rfl, hkD, hkj, rfl⟩ := hcut
        have hDn := HDn.out
        have hak : a + k ≤ n := by omega
        have hp := (hAr.cutFrom (k := a) ha).cutTo (k := k) (by omega)
        rw [Nat.mul_one, Nat.mul_one, ← List.map_drop, ← List.map_take] at hp
        have hpn : 0 < k → ∀ x, A.map (·.add a) = some x → ¬ S x.block := fun h0 => hp.off hSw h0
        obtain ⟨q, hq⟩ : ∃ q, q = pFeed r ((b.drop a).take k) := ⟨_, rfl⟩
        obtain ⟨P1, P2, P3, P4⟩ := pFeed_portion Q r b a k (by omega) H.out q hq
        have hq1 : q.2.fed ≤ a + q.1 := by rw [hq]; have := pFeed_fed ((b.drop a).take k) r; omega
        have HP3 := Lib.hid P3
        have HP4 := Lib.hid P4
        have hlk : ((b.drop a).take k).length = k := by simpa using hp.1
        have hltS : ∀ k, S k → k < wr.heap.size := fun k hk => hKx.lt hk
        have hC : ∀ (V : Option Addr) (cc : Nat), k ≤ cc → (0 < k → V = A.map (·.add a)) → Calls Tryz.prog 17 #[.pointer (some ⟨g2, 0, none⟩), .slice (some ⟨wr.heap.size, 0, none⟩) 1 1] (wr.alloc (.cells #[.slice V k cc] 22)) (FeedP (wr.alloc (.cells #[.slice V k cc] 22)) g2 S q) := by
          intro V cc hcc hV
          have La := allocW (Below.refl wr.heap.size wr) (.cells #[.slice V k cc] 22)
          have hR : RdO wr S V k (((b.drop a).take k).map bv) := ⟨(show Rd wr w.heap.size 1 V k _ from ⟨hp.1, fun h0 => by rw [hV h0]; exact hp.2 h0⟩).more hS, fun h0 => by rw [hV h0]; exact hpn h0⟩
          have h9 := prs_FeedP g2 S r _ 1 1 [(b.drop a).take k] _ (hKx.belowW La) hI (RdP.one hltS wr.heap.size rfl 22 _ hlk hR hcc) (by simp only [List.flatten_cons, List.flatten_nil, List.append_nil]; omega) (by omega) (hmr.below La (Nat.le_refl _)) (hi_of hm hSw) (by decide)
          rw [show [(b.drop a).take k].flatten = (b.drop a).take k by simp, ← hq] at h9
          exact h9
        clear P3 P4 hq hp hpn H HJ hAr hAr2 hlk
        go_upto_region 12 with (fail)
        go_cut [11] (fun v11 wx => v11 = .int .i64 (q.1 : Int) ∧ ∃ (V : Option Addr) (cc : Nat) (S' : Nat → Prop), PInv q.2 ∧ PR wx g2 S' q.2 ∧ Moved S S' (wr.alloc (.cells #[.slice V k cc] 22)) wx)
        case first =>
          cases A with
          | none =>
            have hC1 := hC none (c - a) (by omega) (fun _ => rfl)
            clear hC
            go_wp2_with fail
            refine hC1.mono ?_
            rintro e wx ⟨rfl, h1, S', h2, h3⟩
            go_wp2_with fail
            go_meet
            case rel => exact ⟨rfl, none, _, S', h1, h2, h3⟩
          | some x =>
            by_cases hac : a = c
            · have hC1 := hC (some x) 0 (by omega) (fun h0 => by omega)
              subst hac
              clear hC
              go_wp2_with fail
              refine hC1.mono ?_
              rintro e wx ⟨rfl, h1, S', h2, h3⟩
              go_wp2_with fail
              go_meet
              case rel => exact ⟨rfl, _, _, S', h1, h2, h3⟩
            · have hC1 := hC (some (x.add a)) (c - a) (by omega) (fun _ => rfl)
              have hac2 : a < c := by omega
              clear hC
              go_wp2_with fail
              refine hC1.mono ?_
              rintro e wx ⟨rfl, h1, S', h2, h3⟩
              go_wp2_with fail
              go_meet
              case rel => exact ⟨rfl, _, _, S', h1, h2, h3⟩
        case rest =>
          obtain ⟨rfl, V, cc, S', hIq, hKx', hM'⟩ := hcut
          obtain ⟨wx, rfl⟩ : ∃ wx, wx = wc := ⟨_, rfl⟩
          have La := allocW (Below.refl wr.heap.size wr) (.cells #[.slice V k cc] 22)
          have hSw' := moved_hs hM' (Nat.le_trans hS La.size) hSw
          have Lx := moved_below hM' (stepW L La) hSw
          have hKr' := (hKr.belowW La).fr hM'.fr hdis
          have hdis' : ∀ k, S3 k → ¬ S' k := fun k h1 h2 => by
            rcases hM'.foot k h2 with h | h
            · exact hdis k h1 h
            · have := hKr.lt h1; have := La.size; omega
          have hJ2 := Lib.hid (show j + 1 = n2 + 1 → Q = (a + q.1, q.2) from fun h => HP4.out (by have := hkj (by omega); omega))
          have h0 : ¬ (q.1 : Int) < 0 := by omega
          have h1 : ¬ (k : Int) < (q.1 : Int) := by omega
          have h1' : ¬ k < q.1 := by omega
          clear hM' L hKr hdis hSw hKx hI hmr hC HP4 La
          rcases Nat.lt_or_ge q.1 k with hlk | hlk
          · have hlk' : (q.1 : Int) < (k : Int) := by omega
            have h3 : ¬ (q.2.phase : Int) < 3 := by have := P2 hlk; omega
            clear P2
            go_wp2_with fail
            refine (prs_Phase g2 S' q.2 wx hKx').mono ?_
            rintro e w4 ⟨rfl, rfl⟩
            go_wp2_with fail
            go_roundw
            case rel => exact ⟨a + q.1, j + 1, q.2, S', by go_num, by go_num, by omega, by omega, hq1, hIq, hKx', hKr', hdis', hSw', Lx, HP3, hJ2⟩
            case measure => simp [intOf]; omega
          · have hlk' : ¬ (q.1 : Int) < (k : Int) := by omega
            have hlk2 : ¬ q.1 < k := by omega
            clear P2
            go_wp2_with fail
            go_roundw
            case rel => exact ⟨a + q.1, j + 1, q.2, S', by go_num, by go_num, by omega, by omega, hq1, hIq, hKx', hKr', hdis', hSw', Lx, HP3, hJ2⟩
            case measure => simp [intOf]; omega
    · obtain rfl : j = n2 + 1 := by omega
      have hQ := HJ.out rfl
      subst hQ
      have hKr' : PR wr g1 S3 r := hKr
      obtain ⟨wx, rfl⟩ : ∃ wx, wx = wr := ⟨_, rfl⟩
      have hrl := rT_len r hI
      obtain ⟨R, hR⟩ : ∃ R, R = rT r := ⟨_, rfl⟩
      have HR := Lib.hid hR
      have hW1 := prs_Waits g1 S3 r wx hKr'
      have hW2 := fun w' (L : Below wx.heap.size wx w') => prs_Waits g2 S r w' (hKx.belowW L)
      obtain ⟨pw, hpw⟩ : ∃ b, b = pWaits r := ⟨_, rfl⟩
      rw [← hpw] at hW1 hW2
      rw [← hR] at hrl
      have hS3w : ∀ k, S3 k → w.heap.size ≤ k := hS3
      clear H HJ hKr hQ0 hK3 hAr hAr2 hpw hR hIQ
      go_wp2_with fail
      refine (prs_Phase g1 S3 r wx hKr').mono ?_
      rintro e w4 ⟨rfl, rfl⟩
      go_wp2_with fail
      refine (prs_Phase g2 S r wx hKx).mono ?_
      rintro e w4 ⟨rfl, rfl⟩
      go_wp2_with fail
      refine (prs_Status g1 S3 r wx hKr').mono ?_
      rintro e w4 ⟨rfl, rfl⟩
      go_wp2_with fail
      refine (prs_Status g2 S r wx hKx).mono ?_
      rintro e w4 ⟨rfl, rfl⟩
      go_wp2_with fail
      refine hW1.mono ?_
      rintro e w4 ⟨rfl, L4⟩
      go_wp2_with fail
      refine (hW2 w4 L4).mono ?_
      rintro e w5 ⟨rfl, L5⟩
      have L5' := stepW (stepW L L4) L5
      have k1 := (hKr'.belowW L4).belowW L5
      have k2 := (hKx.belowW L4).belowW L5
      clear hW1 hW2 hKr' hKx L L4 L5
      have hT1 := prs_TakeA g1 S3 r w5 k1 hI
      unfold TakeA rqV reqV at hT1
      rw [← HR.out] at hT1
      go_wp2_with fail
      refine hT1.mono ?_
      rintro e w6 ⟨AF, cF, AB, cB, rfl, hr6, ho6, S6, k6, m6⟩
      have L6 := moved_below m6 L5' hS3w
      have k2b := k2.fr m6.fr (fun k h1 h2 => hdis k h2 h1)
      have hlt2 : ∀ k, S k → k < w5.heap.size := fun k hk => k2.lt hk
      have ho := ho6 S (fun k hk => ⟨hlt2 k hk, fun h9 => hdis k h9 hk⟩)
      have La := allocW (Below.refl w6.heap.size w6) (.cells #[sv R.m, .int .i64 R.t.form, sv R.t.host, sv R.t.path, sv R.t.query, .int .i64 R.v, .slice AF R.f.length cF, .slice AB R.b.length cB, .bool R.c, .bool R.e] 31)
      have Ba := Blk.new w6 31 #[sv R.m, .int .i64 R.t.form, sv R.t.host, sv R.t.path, sv R.t.query, .int .i64 R.v, .slice AF R.f.length cF, .slice AB R.b.length cB, .bool R.c, .bool R.e]
      have hT2 := prs_TakeA g2 S r _ (k2b.belowW La) hI
      unfold TakeA rqV reqV at hT2
      rw [← HR.out] at hT2
      clear hT1 k1 k2 k6 ho6
      go_wp2_with fail
      refine hT2.mono ?_
      rintro e w7 ⟨AF7, cF7, AB7, cB7, rfl, hr7, ho7, S7, k7, m7⟩
      have hS6 : ∀ k, S k → k < w6.heap.size := fun k hk => Nat.lt_of_lt_of_le (hlt2 k hk) m6.fr.size
      have hr6b := (hr6.belowW La).fr ho m7.fr
      have Bb := Ba.fr m7.fr (fun h9 => Nat.lt_irrefl _ (hS6 _ h9))
      have L7 := moved_below m7 (stepW L6 La) hSw
      have Lb := allocW (Below.refl w7.heap.size w7) (.cells #[sv R.m, .int .i64 R.t.form, sv R.t.host, sv R.t.path, sv R.t.query, .int .i64 R.v, .slice AF7 R.f.length cF7, .slice AB7 R.b.length cB7, .bool R.c, .bool R.e] 31)
      have hq := law_request15 R AF AF7 AB AB7 cF cF7 cB cB7 _ (hr6b.belowW Lb) (hr7.belowW Lb) hrl.1 hrl.2
      have Bc := Bb.belowW Lb
      obtain ⟨⟨a0, a1, a2, a3, a4, a5, a6, a7, a8, a9⟩, -⟩ := Bc.c10
      have Bd := Blk.new w7 31 #[sv R.m, .int .i64 R.t.form, sv R.t.host, sv R.t.path, sv R.t.query, .int .i64 R.v, .slice AF7 R.f.length cF7, .slice AB7 R.b.length cB7, .bool R.c, .bool R.e]
      obtain ⟨⟨b0, b1, b2, b3, b4, b5, b6, b7, b8, b9⟩, -⟩ := Bd.c10
      clear hT2 hr6 hr7 hr6b ho7 k7 ho Ba Bb
      go_wp2_with fail
      refine hq.mono ?_
      rintro e w8 ⟨rfl, L8⟩
      have L8' := stepW (stepW L7 Lb) L8
      go_wp2_with fail
      refine (law_known15 w8 (hm.below L8' (Nat.le_refl _))).mono ?_
      rintro e w9 ⟨rfl, L9⟩
      go_wp2
      go_ret
      exact ⟨rfl, stepW L8' L9⟩
end Go.Proofs.YtdajfajnkikmdaaGreatDoor

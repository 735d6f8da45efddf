/- usherref16.Read. -/
import Derived.Test.YtbkakoboaophoaaGreatDoorSp3
import Derived.BigRegion
import Derived.Test.YtbkakoboaophoaaGreatDoorQLaw3
namespace Go.Proofs.YtbkakoboaophoaaGreatDoor
open Go.RowKit
set_option maxRecDepth 100000
set_option maxHeartbeats 4000000

theorem xfeed_one {g : Nat} {S : Nat → Prop} {p : PS} {wr : World} {b : Bs} {A V : Option Addr} {n a d : Nat} (k : XQ wr g S p) (hi : PInv p) (hb : PB p) (hA : RdO wr S A n (b.map bv)) (hbl : b.length = n) (ha : a ≤ n) (hn : n ≤ 100000) (hd : n - a ≤ d) (hV : 0 < n - a → V = A.map (·.add a)) :
    Calls Tryz.prog 60 #[.pointer (some ⟨g, 0, none⟩), .slice (some ⟨wr.heap.size, 0, none⟩) 1 1] (wr.alloc (.cells #[.slice V (n - a) d] 22)) (XFeedP (wr.alloc (.cells #[.slice V (n - a) d] 22)) g S (pFeed p (b.drop a))) := by
  have hlt : ∀ k, S k → k < wr.heap.size := fun _ hk => k.lt hk
  have La := allocW (Below.refl wr.heap.size wr) (.cells #[.slice V (n - a) d] 22)
  have r1 := hA.part2 (V := V) (a := a) (m := n - a) (by omega) hV
  rw [List.take_of_length_le (by rw [List.length_drop]; omega)] at r1
  have rp := RdP.one hlt wr.heap.size rfl 22 (b.drop a) (by rw [List.length_drop, hbl]) r1 hd
  have h9 := xp_Feed g S p _ 1 1 _ _ (k.belowW La) hi hb rp (by simp only [List.flatten_cons, List.flatten_nil, List.append_nil, List.length_drop]; omega) (by decide)
  rw [List.flatten_cons, List.flatten_nil, List.append_nil] at h9
  exact h9
def XTakeW (w : World) (g : Nat) (S : Nat → Prop) (p : PS) (e : Ending) (w' : World) : Prop :=
  ∃ (AF : Option Addr) (cF : Nat) (AB : Option Addr) (cB : Nat), e = .returned (.tuple #[rqV (rqOf p) AF cF AB cB, .int .i64 0]) ∧ RQR w' (rqOf p) AF AB ∧ (∀ X : Nat → Prop, (∀ k, X k → k < w.heap.size) → RQO (rqOf p) AF AB X) ∧ XQ w' g (fun k => k = g) p0 ∧ Moved S (fun k => k = g) w w'
theorem xp_TakeW (g : Nat) (S : Nat → Prop) (p : PS) (w : World) (q : XQ w g S p) (hi : PInv p) (hp : p.phase = 3) :
    Calls Tryz.prog 61 #[.pointer (some ⟨g, 0, none⟩)] w (XTakeW w g S p) := by
  refine (xp_Take_yes g S p w q hp hi).mono ?_
  rintro e w3 ⟨AF, cF, AB, cB, rfl, hr1, hn1, hr2, hn2, q3, m3⟩
  exact ⟨AF, cF, AB, cB, rfl, ⟨hr1, hr2⟩, fun X hX => ⟨fun h0 a ha hx => by have := hn1 h0 a ha; have := hX _ hx; omega, fun h0 a ha hx => by have := hn2 h0 a ha; have := hX _ hx; omega⟩, q3, m3⟩
theorem ref16_Read (A : Option Addr) (n c : Nat) (b : Bs) (w : World) (hA : Rd w w.heap.size 1 A n (b.map bv)) (hn : n ≤ 100000) (hc : n ≤ c) :
    Calls Tryz.prog 24 #[.slice A n c] w (ReadPost w b) := by
  have hbl : b.length = n := by simpa using hA.1
  obtain ⟨W, hW⟩ : ∃ W, W = w.alloc (.cells #[.int .i64 0, .int .i64 0, .int .i64 0] 45) := ⟨_, rfl⟩
  have LW := allocW (Below.refl w.heap.size w) (.cells #[.int .i64 0, .int .i64 0, .int .i64 0] 45)
  have BW := Blk.new w 45 #[.int .i64 0, .int .i64 0, .int .i64 0]
  rw [← hW] at LW BW
  have hk0 := xq_new W
  have L1 := allocW (Below.refl W.heap.size W) (.cells #[.int .i64 0, .int .i64 0, .pointer none, .slice none 0 0, .int .i64 0, .int .i64 0, .bool false, .bool false, .slice none 0 0, .pointer none, .bool false] 111)
  have hAW := (hA.belowW (Nat.le_refl _) LW).more LW.size
  have hgW : w.heap.size < W.heap.size := BW.lt
  obtain ⟨g, hg⟩ : ∃ g, g = W.heap.size := ⟨_, rfl⟩
  have hR0 := SpB.start W b (fun k => k = g) (fun k hk => by rw [hk, hg]; exact Nat.le_refl _) L1
  rw [← hg] at hk0
  go_enter Tryz.func24, Tryz.ntmps24
  go_upto_region 3 with (fail)
  have hg2 : w.heap.size + 1 = g := by rw [hg, hW]; simp
  rw [← hW, hg2]
  clear hW hg hg2 hA
  generalize W.alloc (.cells #[.int .i64 0, .int .i64 0, .pointer none, .slice none 0 0, .int .i64 0, .int .i64 0, .bool false, .bool false, .slice none 0 0, .pointer none, .bool false] 111) = w1 at hk0 L1 hR0 ⊢
  go_wp2
  go_loopw [4, 6] (fun u a wr => ∃ (i : Nat) (l : List RP) (v : Value), v = u ∧ a = .int .i64 i ∧ SpB W b i v l (fun k => k = g) wr ∧ XQ wr g (fun k => k = g) p0) (fun _ a _ => n + 1 - (intOf a).toNat)
  case atStart => exact ⟨0, [], _, rfl, rfl, hR0, hk0⟩
  case round =>
    obtain ⟨a, l, v, hv, rfl, H, hk⟩ := hrel
    subst hv
    have ha := H.i.1
    rw [hbl] at ha
    obtain ⟨q, hq⟩ : ∃ q, q = pFeed p0 (b.drop a) := ⟨_, rfl⟩
    have hqk : q.1 ≤ n - a := by rw [hq]; have := pFeed_le (b.drop a) p0; rw [List.length_drop] at this; omega
    have hi5 : PInv q.2 := by rw [hq]; exact pFeed_inv _ _ p0_inv
    have hF : ∀ (V : Option Addr) (d : Nat), n - a ≤ d → (0 < n - a → V = A.map (·.add a)) → Calls Tryz.prog 60 #[.pointer (some ⟨g, 0, none⟩), .slice (some ⟨wr.heap.size, 0, none⟩) 1 1] (wr.alloc (.cells #[.slice V (n - a) d] 22)) (XFeedP (wr.alloc (.cells #[.slice V (n - a) d] 22)) g (fun k => k = g) q) := by
      intro V d hd hV
      rw [hq]
      exact xfeed_one hk p0_inv p0_pb ⟨(hAW.below H.b).more H.b.size, hAW.off H.s⟩ hbl ha hn hd hV
    go_upto_region 4 with (fail)
    go_cut [7] (fun v7 wx => v7 = .int .i64 (q.1 : Int) ∧ ∃ S', SpB W b a v l S' wx ∧ XQ wx g S' q.2)
    case first =>
      have c1 : (a : Int) ≤ (c : Int) := by omega
      have hA0 := hAW.2
      clear hAW hq
      cases A with
      | none =>
        have hn0 : n = 0 := by rcases Nat.eq_zero_or_pos n with h9 | h9; exact h9; obtain ⟨_, _, e, _⟩ := hA0 h9; cases e
        have hC := hF none (c - a) (by omega) (fun _ => rfl)
        clear hA0 hF hn0
        go_wp2_with fail
        refine hC.mono ?_
        rintro e w5 ⟨rfl, S5, k5, m5⟩
        have H5 := (H.belowW (allocW (Below.refl wr.heap.size wr) _)).moved m5
        go_wp2_with fail
        go_meet
        case rel => exact ⟨rfl, S5, H5, k5⟩
      | some x =>
        clear hA0
        by_cases hac : c = a
        · have hC := hF (some x) 0 (by omega) (fun h9 => by omega)
          subst hac
          rw [show n - c = 0 by omega] at hC
          clear hF
          go_wp2_with fail
          refine hC.mono ?_
          rintro e w5 ⟨rfl, S5, k5, m5⟩
          have H5 := (H.belowW (allocW (Below.refl wr.heap.size wr) _)).moved m5
          go_wp2_with fail
          go_meet
          case rel => exact ⟨rfl, S5, H5, k5⟩
        · have hC := hF (some (x.add a)) (c - a) (by omega) (fun _ => rfl)
          clear hF
          go_wp2_with fail
          refine hC.mono ?_
          rintro e w5 ⟨rfl, S5, k5, m5⟩
          have H5 := (H.belowW (allocW (Below.refl wr.heap.size wr) _)).moved m5
          go_wp2_with fail
          go_meet
          case rel => exact ⟨rfl, S5, H5, k5⟩
    case rest =>
      obtain ⟨rfl, S5, H5, k5⟩ := hcut
      obtain ⟨wx, rfl⟩ : ∃ wx, wx = wc := ⟨_, rfl⟩
      have HQ := Lib.hid hq
      clear hF H hk hAW hq
      have Bx := BW.belowW H5.b
      obtain ⟨x0, x1, x2, x3⟩ := k5.top
      by_cases h3 : q.2.phase = 3
      · rw [h3] at x0
        have hT := xp_TakeW g S5 q.2 wx k5 hi5 h3
        unfold XTakeW at hT
        obtain ⟨R, hR⟩ : ∃ R, R = rqOf q.2 := ⟨_, rfl⟩
        have hRc : q.2.head.how.close = R.c := by rw [hR]; rfl
        have hRs : R.f.length ≤ 100000 ∧ R.b.length ≤ 100000 := by
          have h9 := rT_len q.2 hi5
          rw [show rT q.2 = rqOf q.2 from if_pos h3, ← hR] at h9
          exact h9
        rw [← hR] at hT
        simp only [rqv_cells] at hT
        have HRR := Lib.hid hR
        clear hR
        have wq : IntKind.i64.wrap ((a : Int) + (q.1 : Int)) = (a : Int) + (q.1 : Int) := IntWalk.i64_in _ (by omega)
        go_wp2_with fail
        refine hT.mono ?_
        rintro e w6 ⟨AF, cF, AB, cB, rfl, hr6, ho6, k6, m6⟩
        have H6 := H5.moved m6
        have hg6 : g < w6.heap.size := k6.lt rfl
        have hz6 : RQO R AF AB (fun k => k = g ∨ v.ownBlock = some k) := ho6 _ fun k hk => by
          rcases hk with hk | hk
          · rw [hk]; exact k5.lt x3
          · exact Own.lt2 H5.q hk
        have Ba := Blk.new w6 33 #[sv R.m, .int .i64 R.t.form, sv R.t.host, sv R.t.path, sv R.t.query, .int .i64 R.v, .slice AF R.f.length cF, .slice AB R.b.length cB, .bool R.c, .bool R.e]
        have La := allocW (Below.refl w6.heap.size w6) (.cells #[sv R.m, .int .i64 R.t.form, sv R.t.host, sv R.t.path, sv R.t.query, .int .i64 R.v, .slice AF R.f.length cF, .slice AB R.b.length cB, .bool R.c, .bool R.e] 33)
        have H7 := H6.belowW La
        have k7 := k6.belowW La
        have hx7 : RZ _ (fun k => k = g ∨ v.ownBlock = some k) [(⟨R, AF, cF, AB, cB⟩ : RP)] := RZ.one (hr6.belowW La) hz6 hRs
        have hlt7 : ∀ k, k = g → k < (w6.alloc (.cells #[sv R.m, .int .i64 R.t.form, sv R.t.host, sv R.t.path, sv R.t.query, .int .i64 R.v, .slice AF R.f.length cF, .slice AB R.b.length cB, .bool R.c, .bool R.e] 33)).heap.size := fun k hk => k7.lt hk
        obtain ⟨w7, hw7⟩ : ∃ w7, w7 = w6.alloc (.cells #[sv R.m, .int .i64 R.t.form, sv R.t.host, sv R.t.path, sv R.t.query, .int .i64 R.v, .slice AF R.f.length cF, .slice AB R.b.length cB, .bool R.c, .bool R.e] 33) := ⟨_, rfl⟩
        rw [← hw7] at Ba H7 k7 hx7 hlt7 La
        obtain ⟨⟨b0, b1, b2, b3, b4, b5, b6, b7, b8, b9⟩, -⟩ := Ba.c10
        have hll : l.length ≤ n := Nat.le_trans H5.la ha
        have htx : RQO R AF AB (fun k => k < W.heap.size) := ho6 _ fun k hk => Nat.lt_of_lt_of_le hk H5.b.size
        have hnv : ¬ v.ownBlock = some w6.heap.size := fun h9 => by have := Own.lt2 H6.q h9; omega
        clear hT H5 H6 k5 m6 ho6 hr6 hz6 k6 x0 x1 x2 x3
        go_upto_region 9 with (fail)
        rw [← hw7]
        clear hw7
        go_upto_region 10 with (first
          | (at_builtin
             refine wp_appRq rfl _ _ rfl W.heap.size v l rfl H7.q (allocW (Below.refl w7.heap.size w7) _) (some ⟨w7.heap.size, 0, none⟩) 1 1 _ rfl [⟨R, AF, cF, AB, cB⟩] rfl (Rd.new w7 _ rfl _ _ 1 10 rfl) (by rw [List.length_singleton]; omega) H7.b.size ?_
             intro v8 w8 ho8 he8))
        have B8 := Ba.fr he8.fr hnv
        have L8 := H7.b.trans (he8.below H7.q (Nat.le_refl _) H7.b.size)
        have G8 := BW.belowW L8
        obtain ⟨g0, g1, g2, f0, f1, f2⟩ := G8.c3
        clear b0 b1 b2 b3 b4 b5 b6 b7 b8 b9
        cases hcl : R.c
        · rw [hcl] at hRc B8
          obtain ⟨⟨d0, d1, d2, d3, d4, d5, d6, d7, d8, d9⟩, -⟩ := B8.c10
          have hon := H7.i.on (by rw [← HQ.out]; exact h3) (by rw [← HQ.out]; exact hRc)
          rw [← HQ.out, ← HRR.out] at hon
          go_wp2
          go_roundw
          case rel => exact ⟨a + q.1, _, _, rfl, by go_num, H7.app hx7 (by simpa using hon.1) (by omega) he8 ho8 hlt7 htx, k7.fr he8.fr (fun k h1 h2 => H7.d k h1 h2)⟩
          case measure => simp [intOf]; omega
        · rw [hcl] at hRc B8
          obtain ⟨⟨d0, d1, d2, d3, d4, d5, d6, d7, d8, d9⟩, -⟩ := B8.c10
          have hcs := H7.i.close (by rw [← HQ.out]; exact h3) (by rw [← HQ.out]; exact hRc)
          rw [← HQ.out, ← HRR.out] at hcs
          go_wp2
          have T8 := G8.set3 (.int .i64 ((a : Int) + (q.1 : Int))) (.int .i64 0) (.int .i64 0)
          have F8 := fr_set3 (S := fun k => k = w.heap.size) (Fr.refl _ w8) rfl (.int .i64 ((a : Int) + (q.1 : Int))) (.int .i64 0) (.int .i64 0)
          generalize (((w8.setCell ⟨w.heap.size, 0, none⟩ (.int .i64 ((a : Int) + (q.1 : Int)))).setCell ⟨w.heap.size, 1, none⟩ (.int .i64 0)).setCell ⟨w.heap.size, 2, none⟩ (.int .i64 0)) = E at T8 F8 ⊢
          obtain ⟨t0, t1, t2, -, -, -⟩ := T8.c3
          have H8 := (H7.z.app hx7).ext he8
          have h7 := H7.la
          obtain ⟨Ar, cr, rfl, hcr, hrr⟩ := rr_fin ho8 H8.rq (fun y hy => by
            rcases List.mem_append.1 hy with h9 | h9
            · exact H7.t y h9
            · obtain rfl : y = _ := by simpa using h9
              exact htx) H8.sz F8 hgW
          refine bodyPost_ret (v := .tuple #[.slice Ar (l ++ [(⟨R, AF, cF, AB, cB⟩ : RP)]).length cr, rsV (rdL b).2]) (by rw [hcs]; simp [results, Tryz.results24, go_sem, t0, t1, t2]) rfl ⟨Ar, cr, _, rfl, by rw [hcs]; simp, hcr, ?_, hrr, (stepW LW L8).trans ((F8.toBelow (B := w.heap.size) (by have := L8.size; omega) (fun k hk => by omega)))⟩
          have h9 := pFeed_pos (b.drop a) (by rw [← HQ.out]; omega)
          rw [← HQ.out] at h9
          rw [List.length_append, List.length_singleton, hbl]
          omega
      · have hno := H5.i.no (by rw [← HQ.out]; exact h3)
        rw [← HQ.out] at hno
        have hst : wx.cell? ⟨g, 1, none⟩ = some (.int .i64 q.2.status) := by
          have h4 := hi5.ph
          rcases Nat.lt_or_ge q.2.phase 4 with h5 | h5
          · obtain ⟨h6, h7⟩ := x1 (by omega); rw [h6]; exact h7
          · exact x2 (by omega)
        have h3' : ((q.2.phase : Int) != 3) = true := by simp; omega
        have hgx : g < wx.heap.size := k5.lt x3
        obtain ⟨g0, g1, g2, f0, f1, f2⟩ := Bx.c3
        have hng : ¬ w.heap.size = g := fun h9 => by have := H5.s g x3; omega
        have hng2 : ¬ g = w.heap.size := fun h9 => hng h9.symm
        clear x1 x2
        have T8 := Bx.set3 (.int .i64 (a : Int)) (.int .i64 (q.2.phase : Int)) (.int .i64 q.2.status)
        have F8 := fr_set3 (S := fun k => k = w.heap.size) (Fr.refl _ wx) rfl (.int .i64 (a : Int)) (.int .i64 (q.2.phase : Int)) (.int .i64 q.2.status)
        go_upto_region 6 with (fail)
        go_region
        go_wp2
        generalize (((wx.setCell ⟨w.heap.size, 0, none⟩ (.int .i64 (a : Int))).setCell ⟨w.heap.size, 1, none⟩ (.int .i64 (q.2.phase : Int))).setCell ⟨w.heap.size, 2, none⟩ (.int .i64 q.2.status)) = D at T8 F8 ⊢
        have T9 := T8.drew
        have F9 := F8.drew
        obtain ⟨E, hE⟩ : ∃ E, E = D.drew := ⟨_, rfl⟩
        rw [← hE] at T9 F9 ⊢
        obtain ⟨t0, t1, t2, -, -, -⟩ := T9.c3
        obtain ⟨Ar, cr, rfl, hcr, hrr⟩ := rr_fin H5.q H5.z.rq H5.t H5.z.sz F9 hgW
        have h7 := H5.la
        refine bodyPost_ret (v := .tuple #[.slice Ar l.length cr, rsV (rdL b).2]) (by rw [hno]; simp [results, Tryz.results24, go_sem, t0, t1, t2]) rfl ⟨Ar, cr, _, rfl, by rw [hno], hcr, by omega, hrr, (stepW LW H5.b).trans ((F9.toBelow (B := w.heap.size) (by have := H5.b.size; omega) (fun k hk => by omega)))⟩
end Go.Proofs.YtbkakoboaophoaaGreatDoor

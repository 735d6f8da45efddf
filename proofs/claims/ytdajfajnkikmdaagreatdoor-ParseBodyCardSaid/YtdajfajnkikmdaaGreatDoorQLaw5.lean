/- The law ParseBody. -/
import Derived.Test.YtdajfajnkikmdaaGreatDoorQLaw3
import Derived.Test.YtdajfajnkikmdaaGreatDoorPPl3
namespace Go.Proofs.YtdajfajnkikmdaaGreatDoor
open Go.RowKit
set_option maxRecDepth 100000
set_option maxHeartbeats 2000000

theorem pb_len (n : Nat) (e : Bool) (hn : n ≤ 1500) : (lnsL (po1 :: pbLs n e)).length ≤ 1000 ∧ (digs 10 n).length ≤ 240 := by
  have h1 := (List.all_eq_true.1 pbB_all) n (List.mem_range.2 (by omega))
  rw [Bool.and_eq_true] at h1
  have h2 : pbB n e = true := by cases e; exact h1.2; exact h1.1
  unfold pbB lenB at h2
  simp only [Bool.and_eq_true] at h2
  obtain ⟨⟨⟨⟨⟨⟨⟨⟨h3, -⟩, -⟩, -⟩, -⟩, -⟩, -⟩, -⟩, -⟩ := h2
  have h4 : okLn (poC ++ digs 10 n) = true := by
    rw [List.all_eq_true] at h3
    exact h3 _ (by simp [pbLs])
  have h5 := (okLn_of h4).2
  have h6 : poC.length = 16 := rfl
  have h7 : po1.length = 16 := rfl
  have h8 : po2.length = 7 := rfl
  have h9 : poE.length = 20 := rfl
  rw [List.length_append] at h5
  refine ⟨?_, by omega⟩
  cases e <;> simp [lnsL, pbLs] <;> omega
def pbS (n : Nat) (e : Bool) : ByteArray := if e then (⟨#[80, 79, 83, 84, 32, 47, 120, 32, 72, 84, 84, 80, 47, 49, 46, 49, 13, 10, 72, 111, 115, 116, 58, 32, 97, 13, 10, 67, 111, 110, 116, 101, 110, 116, 45, 76, 101, 110, 103, 116, 104, 58, 32]⟩ : ByteArray) ++ ⟨(digs 10 n).toArray⟩ ++ ⟨#[13, 10]⟩ ++ ⟨#[69, 120, 112, 101, 99, 116, 58, 32, 49, 48, 48, 45, 67, 111, 110, 116, 105, 110, 117, 101, 13, 10]⟩ else (⟨#[80, 79, 83, 84, 32, 47, 120, 32, 72, 84, 84, 80, 47, 49, 46, 49, 13, 10, 72, 111, 115, 116, 58, 32, 97, 13, 10, 67, 111, 110, 116, 101, 110, 116, 45, 76, 101, 110, 103, 116, 104, 58, 32]⟩ : ByteArray) ++ ⟨(digs 10 n).toArray⟩ ++ ⟨#[13, 10]⟩
theorem pbS_data (n : Nat) (e : Bool) : (pbS n e).data.toList = lnsL (po1 :: pbLs n e) := by
  cases e
  · rw [pbS, if_neg (by decide), app_data, app_data]
    simp [lnsL, pbLs, po1, po2, poC]
  · rw [pbS, if_pos rfl, app_data, app_data, app_data]
    simp [lnsL, pbLs, po1, po2, poC, poE]
theorem pbS_feed (n : Nat) (e : Bool) (hn : n ≤ 1500) : pFeed p0 [lnsL (po1 :: pbLs n e), [13, 10]].flatten = ((lnsL (po1 :: pbLs n e)).length + 2, rqP (pbH n e) n) := by
  have h := (pb_of n e hn).1.feed []
  rw [pFeed_nil] at h
  rw [show [lnsL (po1 :: pbLs n e), [13, 10]].flatten = lnsL (po1 :: pbLs n e) ++ 13 :: 10 :: [] by simp, h]
  rfl
theorem rqP_last (H : HS) (n : Nat) (t : Bs) (c : UInt8) (r : Bs) (h0 : n ≠ 0) : pFeed { rqP H n with body := t, left := 1, fed := t.length } ([c] ++ r) = (1, { p0 with phase := 3, head := H, body := t ++ [c], fed := t.length + 1 }) := by
  rw [rqP, if_neg h0, pFeed_len [c] r _ rfl rfl (by simp) (by simp)]
  have e : pLen { ({ p0 with phase := 2, head := H, left := n } : PS) with body := t, left := 1, fed := t.length } [c] = { p0 with phase := 3, head := H, body := t ++ [c], fed := t.length + 1 } := by simp [pLen, p0]
  simp only at e ⊢
  rw [e, pFeed_off _ _ (by show 3 ≤ 3; omega)]
  rfl
theorem law_Body15 (A1 : Option Addr) (n c1 : Nat) (b1 : Bs) (A2 : Option Addr) (n2 c2 : Nat) (b2 : Bs) (ex : Bool) (w : World) (hB1 : Rd w w.heap.size 1 A1 n (b1.map bv)) (hB2 : Rd w w.heap.size 1 A2 n2 (b2.map bv)) (hc1 : n ≤ c1) (hc2 : n2 ≤ c2) (hm : ML w) :
    Calls Tryz.prog 4 #[.slice A1 n c1, .slice A2 n2 c2, .bool ex] w fun e w' => e = .returned (.bool true) ∧ Below w.heap.size w w' := by
  by_cases hb : 1500 < n
  · go_enter Tryz.func4, Tryz.ntmps4
    go_wp2
    go_ret
    exact ⟨rfl, Below.refl _ _⟩
  have hle : n ≤ 1500 := by omega
  clear hb
  by_cases hb : 500 < n2
  · go_enter Tryz.func4, Tryz.ntmps4
    go_wp2
    go_ret
    exact ⟨rfl, Below.refl _ _⟩
  have hle2 : n2 ≤ 500 := by omega
  clear hb
  have hbl : b1.length = n := by simpa using hB1.1
  have hdl := (pb_len n ex hle).2
  have hds : (⟨(digs 10 n).toArray⟩ : ByteArray).size ≤ 240 := hdl
  cases ex
  case false =>
    go_enter Tryz.func4, Tryz.ntmps4
    have hFd := Lib.hid (pbS_feed n false hle)
    have hSd := Lib.hid (pbS_data n false)
    have hSz : (pbS n false).size ≤ 1000 := by rw [← len_data, hSd.out]; exact (pb_len n false hle).1
    go_wp2_with fail
    refine (ref_Dec (n : Int) w (by omega)).mono ?_
    rw [Int.toNat_natCast]
    rintro e w1 ⟨rfl, L1⟩
    go_wp2_with fail
    refine (prs_New w1).mono ?_
    rintro e w2 ⟨⟨g, S, rfl, q, hS⟩, L2⟩
    have hltS : ∀ i, S i → i < w2.heap.size := fun i hi => q.lt hi
    have L2' := stepW L1 L2
    have kc := fun (w : World) (C : Array Value) (n c g : Nat) (hg : g = w.heap.size) => Go.Joins.run_convert_bytes_const_at (P := Tryz.prog) w 22 5 C n c g hg Tryz.underlying22 Tryz.underlying5
    go_wp2_with (refine wpList_toBytes _ rfl (.tmp 33) 9 22 rfl 5 w2.heap.size (pbS n false) rfl Tryz.underlying9 Tryz.underlying22 Tryz.underlying5 (by unfold maxLen; omega) (Nat.le_refl _) ?_
                 intro cap w3 hcap ho3 hg3 hz3
                 have L3 : Below w2.heap.size w2 w3 := below_of_none hg3)
    have ho3' : OB w3 w2.heap.size (.slice (some ⟨w2.heap.size, 0, none⟩) (pbS n false).size cap) (lnsL (po1 :: pbLs n false)) := by
      unfold OB
      rw [← hSd.out, len_data]
      exact ho3
    have hln : (lnsL (po1 :: pbLs n false)).length = (pbS n false).size := by rw [← hSd.out, len_data]
    obtain ⟨-, -, hr3⟩ := Own.rdS ho3
    rw [hSd.out] at hr3
    have hO3 : RdO w3 S (some ⟨w2.heap.size, 0, none⟩) (pbS n false).size ((lnsL (po1 :: pbLs n false)).map bv) := ⟨hr3, fun h0 a ha hs => by injection ha with ha; subst ha; exact Nat.lt_irrefl _ (hltS _ hs)⟩
    have hltS3 : ∀ i, S i → i < w3.heap.size := fun i hi => Nat.lt_of_lt_of_le (hltS i hi) L3.size
    have La := allocW (Below.refl w3.heap.size w3) (.cells #[.int .u8 13, .int .u8 10] 5 (2, 3))
    have Lb := allocW La (.cells #[.slice (some ⟨w2.heap.size, 0, none⟩) (pbS n false).size cap, .slice (some ⟨w3.heap.size, 0, none⟩) 2 2] 22)
    have rb : RdO (w3.alloc (.cells #[.int .u8 13, .int .u8 10] 5 (2, 3))) S (some ⟨w3.heap.size, 0, none⟩) 2 (([13, 10] : Bs).map bv) := RdO.lit hltS3 _ rfl (([13, 10] : Bs).map bv) _ (2, 3) 2 rfl
    have rc := RdP.two (fun i hi => Nat.lt_of_lt_of_le (hltS3 i hi) La.size) (w3.heap.size + 1) (by simp) 22 _ [13, 10] hln rfl (hO3.belowW La) rb hcap (Nat.le_refl 2)
    have L3' := stepW L2' L3
    have hC := prs_FeedP g S p0 _ 2 2 _ _ ((q.belowW L3).belowW Lb) p0_inv rc (by rw [List.flatten_cons, List.length_append, hln]; simp; omega) (by decide) ((hm.below L3' (Nat.le_refl _)).below Lb (Nat.le_refl _)) (hi_of (hm.below L1 (Nat.le_refl _)) hS) (by decide)
    rw [hFd.out] at hC
    unfold FeedP at hC
    dsimp only at hC
    rw [hln] at hC
    have L4 := stepW L3' Lb
    clear rb rc hO3 hr3 ho3 ho3' hg3 hz3 q
    go_wp2_with fail
    refine hC.mono ?_
    rintro e w4 ⟨rfl, hI4, S4, q4, m4⟩
    have hSw : ∀ k, S k → w.heap.size ≤ k := fun k hk => Nat.le_trans L1.size (hS k hk)
    have L5 := moved_below m4 L4 hSw
    have hS4 := moved_hs m4 L4.size hSw
    obtain ⟨k1, k2, k3, k4⟩ := (pb_of n false hle).2
    obtain ⟨X, hX⟩ : ∃ X, X = pbS n false := ⟨_, rfl⟩
    obtain ⟨H, hH⟩ : ∃ H, H = pbH n false := ⟨_, rfl⟩
    rw [← hH] at q4 hI4 k1 k2 k3 k4
    clear hC L1 L2 L2' L3 L3' La Lb L4 m4 hFd hS hltS hltS3 hH
    have hX' : X = (⟨#[80, 79, 83, 84, 32, 47, 120, 32, 72, 84, 84, 80, 47, 49, 46, 49, 13, 10, 72, 111, 115, 116, 58, 32, 97, 13, 10, 67, 111, 110, 116, 101, 110, 116, 45, 76, 101, 110, 103, 116, 104, 58, 32]⟩ : ByteArray) ++ ⟨(digs 10 n).toArray⟩ ++ ⟨#[13, 10]⟩ := by rw [hX, pbS, if_neg (by decide)]
    rw [← hX', ← hX]
    rw [← hX] at hSz
    have HX1 := Lib.hid hX
    have HX2 := Lib.hid hX'
    clear hX hX' hSd hln
    rcases Nat.eq_zero_or_pos n with h0 | h0
    · subst h0
      obtain rfl : b1 = [] := List.eq_nil_of_length_eq_zero hbl
      have hP : rqP H 0 = { p0 with phase := 3, head := H, body := [], fed := 0 } := by rw [rqP, if_pos rfl]; rfl
      rw [hP] at q4 hI4
      have k2' : H.how.expect = false := by rw [k2]; rfl
      have hW := prs_Waits g S4 _ w4 q4
      rw [show pWaits { p0 with phase := 3, head := H, body := [], fed := 0 } = false from rfl] at hW
      have hPh : ∀ w5, Below w4.heap.size w4 w5 → Calls Tryz.prog 22 #[.pointer (some ⟨g, 0, none⟩)] w5 fun e w' => e = .returned (.int .i64 3) ∧ w5 = w' := fun w5 L => prs_Phase g S4 _ w5 (q4.belowW L)
      go_wp2_with fail
      refine hW.mono ?_
      rintro e w5 ⟨rfl, L6⟩
      go_wp2_with fail
      refine (hPh w5 L6).mono ?_
      rintro e w6 ⟨rfl, rfl⟩
      have q5 := q4.belowW L6
      have L7 := stepW L5 L6
      go_wp2_with fail
      obtain ⟨w9, rfl⟩ : ∃ w9, w9 = w5 := ⟨_, rfl⟩
      have q9 := q5
      have hI9 := hI4
      have L9 := L7
      have hS9 := hS4
      obtain ⟨S9, rfl⟩ : ∃ S9, S9 = S4 := ⟨_, rfl⟩
      have hT := prs_Take_yes g S9 _ w9 q9 rfl hI9
      unfold TakePost reqV at hT
      simp only [List.length_nil, k1, k2', k3, k4] at hT
      go_wp2_with fail
      refine hT.mono ?_
      rintro e w10 ⟨AF, cF, AB, cB, rfl, hr1, hn1, hr2, hn2, S10, q10, m10, hS10⟩
      have L10 := moved_below m10 L9 hS9
      have Ra := allocW (Below.refl w10.heap.size w10) (.cells #[sv [80, 79, 83, 84], .int .i64 H.tgt.form, sv H.tgt.host, sv [47, 120], sv H.tgt.query, .int .i64 H.minor, .slice AF H.flds.length cF, .slice AB 0 cB, .bool false, .bool false] 31)
      have Ba := Blk.new w10 31 #[sv [80, 79, 83, 84], .int .i64 H.tgt.form, sv H.tgt.host, sv [47, 120], sv H.tgt.query, .int .i64 H.minor, .slice AF H.flds.length cF, .slice AB 0 cB, .bool false, .bool false]
      have q11 := q10.belowW Ra
      have hT2 : Calls Tryz.prog 18 #[.pointer (some ⟨g, 0, none⟩)] _ fun e w' => e = .returned (.tuple #[.agg #[.string ⟨#[]⟩, .int .i64 0, .string ⟨#[]⟩, .string ⟨#[]⟩, .string ⟨#[]⟩, .int .i64 0, .slice none 0 0, .slice none 0 0, .bool false, .bool false], .int .i64 4]) ∧ Below _ _ w' := prs_Take_not g S10 p0 _ q11 (by decide)
      clear hT
      go_wp2_with fail
      refine hT2.mono ?_
      rintro e w12 ⟨rfl, L12⟩
      have Lz := allocW L12 (.cells #[.string ⟨#[]⟩, .int .i64 0, .string ⟨#[]⟩, .string ⟨#[]⟩, .string ⟨#[]⟩, .int .i64 0, .slice none 0 0, .slice none 0 0, .bool false, .bool false] 31)
      have Bz := Ba.belowW Lz
      obtain ⟨⟨a0, a1, a2, a3, a4, a5, a6, a7, a8, a9⟩, -⟩ := Bz.c10
      have LR := stepW Ra Lz
      have Lw := stepW L10 LR
      have hq := law_same15 AB 0 cB [] A1 0 c1 [] _ ((hr2.belowW (Nat.le_refl _) LR).more LR.size) ((hB1.below Lw).more Lw.size) (by unfold maxLen; omega)
      rw [decide_eq_true rfl] at hq
      go_wp2_with fail
      refine hq.mono ?_
      rintro e w13 ⟨rfl, L13⟩
      obtain ⟨⟨d0, d1, d2, d3, d4, d5, d6, d7, d8, d9⟩, -⟩ := (Bz.belowW L13).c10
      have q13 := (q11.belowW Lz).belowW L13
      have hP0 : Calls Tryz.prog 22 #[.pointer (some ⟨g, 0, none⟩)] w13 fun e w' => e = .returned (.int .i64 0) ∧ w13 = w' := prs_Phase g S10 p0 _ q13
      have Lv := stepW Lw L13
      clear a0 a1 a2 a3 a4 a5 a6 a7 a8 a9 hq hT2 hr1 hr2 hn1 hn2
      go_wp2_with fail
      refine hP0.mono ?_
      rintro e w14 ⟨rfl, rfl⟩
      go_wp2_with fail
      refine (law_known15 w13 (hm.below Lv (Nat.le_refl _))).mono ?_
      rintro e w15 ⟨rfl, L15⟩
      go_wp2
      go_ret
      exact ⟨rfl, stepW Lv L15⟩
    · have hP : rqP H n = { p0 with phase := 2, head := H, left := n } := by rw [rqP, if_neg (by omega)]
      have hd0 : decide (0 < n) = true := by simpa using h0
      have k2' : H.how.expect = false := by rw [k2, hd0]; rfl
      have hW := prs_Waits g S4 _ w4 q4
      rw [show pWaits (rqP H n) = false by rw [hP]; simp [pWaits, k2', p0]] at hW
      have hPh : ∀ w5, Below w4.heap.size w4 w5 → Calls Tryz.prog 22 #[.pointer (some ⟨g, 0, none⟩)] w5 fun e w' => e = .returned (.int .i64 2) ∧ w5 = w' := fun w5 L => by have h9 := prs_Phase g S4 _ w5 (q4.belowW L); rw [show (rqP H n).phase = 2 by rw [hP]] at h9; exact h9
      have hn0 : ¬ ((n : Int) = 0) := by omega
      have hn1 : ((n : Int) == 0) = false := by rw [Bool.eq_false_iff]; intro h9; rw [beq_iff_eq] at h9; omega
      have hn2 : (0 : Int) < (n : Int) := by omega
      go_wp2_with fail
      refine hW.mono ?_
      rintro e w5 ⟨rfl, L6⟩
      go_wp2_with fail
      refine (hPh w5 L6).mono ?_
      rintro e w6 ⟨rfl, rfl⟩
      have q5 := q4.belowW L6
      have L7 := stepW L5 L6
      go_wp2_with fail
      have hO5 : RdO w5 S4 A1 n (b1.map bv) := ⟨(hB1.below L7).more L7.size, hB1.off hS4⟩
      have hc5 := hO5.1.cutTo (k := n - 1) (by omega)
      rw [Nat.mul_one, ← List.map_take] at hc5
      have hO6 : RdO w5 S4 A1 (n - 1) ((b1.take (n - 1)).map bv) := ⟨hc5, fun h9 => hO5.2 (by omega)⟩
      have hlt4 : ∀ i, S4 i → i < w5.heap.size := fun i hi => q5.lt hi
      have htl : (b1.take (n - 1)).length = n - 1 := by rw [List.length_take]; omega
      have Lc := allocW (Below.refl w5.heap.size w5) (.cells #[.slice A1 (n - 1) c1] 22)
      have rp := RdP.one hlt4 w5.heap.size rfl 22 _ htl hO6 (show n - 1 ≤ c1 by omega)
      have hm5 := hm.below L7 (Nat.le_refl _)
      have hC2 := prs_FeedP g S4 _ _ 1 1 _ _ (q5.belowW Lc) hI4 rp (by simp; omega) (by rw [hP]; show 0 ≤ 900000000; omega) (hm5.below Lc (Nat.le_refl _)) (hi_of hm hS4) (by decide)
      rw [show [b1.take (n - 1)].flatten = b1.take (n - 1) by simp, rqP_most H _ n (by rw [htl]; omega)] at hC2
      unfold FeedP at hC2
      dsimp only at hC2
      rw [htl, show (((n - 1 : Nat)) : Int) = (n : Int) - 1 by omega] at hC2
      clear rp hO6 hc5
      go_wp2_with fail
      refine hC2.mono ?_
      rintro e w6 ⟨rfl, hI6, S6, q6, m6⟩
      have L8 := moved_below m6 (stepW L7 Lc) hS4
      have hS6 := moved_hs m6 (Nat.le_trans L7.size Lc.size) hS4
      have hPh2 : Calls Tryz.prog 22 #[.pointer (some ⟨g, 0, none⟩)] w6 fun e w' => e = .returned (.int .i64 2) ∧ w6 = w' := by have h9 := prs_Phase g S6 _ w6 q6; dsimp only at h9; rw [show (rqP H n).phase = 2 by rw [hP]] at h9; exact h9
      have hW2 := prs_Waits g S6 _ w6 q6
      rw [show pWaits { rqP H n with body := b1.take (n - 1), left := 1, fed := n - 1 } = false by rw [hP]; simp [pWaits, k2']] at hW2
      clear hC2
      go_wp2_with fail
      refine hPh2.mono ?_
      rintro e w7 ⟨rfl, rfl⟩
      go_wp2_with fail
      refine hW2.mono ?_
      rintro e w7 ⟨rfl, L77⟩
      have L9' := stepW L8 L77
      have q7 := q6.belowW L77
      obtain ⟨ba, oa, rfl, -, -⟩ := hB1.2 (by omega)
      have hlt6 : ∀ i, S6 i → i < w7.heap.size := fun i hi => q7.lt hi
      have hO7 : RdO w7 S6 (some ⟨ba, oa, none⟩) n (b1.map bv) := ⟨(hB1.below L9').more L9'.size, hB1.off hS6⟩
      have hO8 : RdO w7 S6 A2 n2 (b2.map bv) := ⟨(hB2.below L9').more L9'.size, hB2.off hS6⟩
      have hpl := hO7.part (V := some ⟨ba, oa + (n - 1), none⟩) (a := n - 1) (m := 1) (by omega) (fun _ => by rw [Option.map_some, add_lit'])
      obtain ⟨ch, hch, hdr⟩ := drop_list b1 (n - 1) (by omega)
      rw [hdr, List.take_succ_cons, List.take_zero] at hpl
      have Ld := allocW (Below.refl w7.heap.size w7) (.cells #[.slice (some ⟨ba, oa + (n - 1), none⟩) 1 (c1 - (n - 1)), .slice A2 n2 c2] 22)
      have rq := RdP.two hlt6 w7.heap.size rfl 22 [ch] b2 rfl (by simpa using hB2.1) hpl hO8 (show 1 ≤ c1 - (n - 1) by omega) hc2
      have hm7 := hm.below L9' (Nat.le_refl _)
      have h22 : b2.length = n2 := by simpa using hB2.1
      have hC3 := prs_FeedP g S6 _ _ 2 2 _ _ (q7.belowW Ld) hI6 rq (by simp; omega) (by show n - 1 ≤ 900000000; omega) (hm7.below Ld (Nat.le_refl _)) (hi_of hm hS6) (by decide)
      have hbt : b1.take (n - 1) ++ [ch] = b1 := by conv => rhs; rw [← List.take_append_drop (n - 1) b1, hdr, List.drop_of_length_le (by omega)]
      have hl9 := rqP_last H n (b1.take (n - 1)) ch b2 (by omega)
      rw [htl, hbt] at hl9
      rw [show [[ch], b2].flatten = [ch] ++ b2 by simp, hl9] at hC3
      unfold FeedP at hC3
      have hone : n - (n - 1) = 1 := by omega
      clear rq hpl hO8 hdr hch hbt hl9 htl
      go_wp2_with fail
      refine hC3.mono ?_
      rintro e w9 ⟨rfl, hI9, S9, q9, m9⟩
      have L9 := moved_below m9 (stepW L9' Ld) hS6
      have hS9 := moved_hs m9 (Nat.le_trans L9'.size Ld.size) hS6
      clear hC3 q6 q7 m6 m9 L8
      have hT := prs_Take_yes g S9 _ w9 q9 rfl hI9
      unfold TakePost reqV at hT
      simp only [hbl, k1, k2', k3, k4] at hT
      go_wp2_with fail
      refine hT.mono ?_
      rintro e w10 ⟨AF, cF, AB, cB, rfl, hr1, hn1, hr2, hn2, S10, q10, m10, hS10⟩
      have L10 := moved_below m10 L9 hS9
      have Ra := allocW (Below.refl w10.heap.size w10) (.cells #[sv [80, 79, 83, 84], .int .i64 H.tgt.form, sv H.tgt.host, sv [47, 120], sv H.tgt.query, .int .i64 H.minor, .slice AF H.flds.length cF, .slice AB n cB, .bool false, .bool false] 31)
      have Ba := Blk.new w10 31 #[sv [80, 79, 83, 84], .int .i64 H.tgt.form, sv H.tgt.host, sv [47, 120], sv H.tgt.query, .int .i64 H.minor, .slice AF H.flds.length cF, .slice AB n cB, .bool false, .bool false]
      have q11 := q10.belowW Ra
      have hT2 : Calls Tryz.prog 18 #[.pointer (some ⟨g, 0, none⟩)] _ fun e w' => e = .returned (.tuple #[.agg #[.string ⟨#[]⟩, .int .i64 0, .string ⟨#[]⟩, .string ⟨#[]⟩, .string ⟨#[]⟩, .int .i64 0, .slice none 0 0, .slice none 0 0, .bool false, .bool false], .int .i64 4]) ∧ Below _ _ w' := prs_Take_not g S10 p0 _ q11 (by decide)
      clear hT
      go_wp2_with fail
      refine hT2.mono ?_
      rintro e w12 ⟨rfl, L12⟩
      have Lz := allocW L12 (.cells #[.string ⟨#[]⟩, .int .i64 0, .string ⟨#[]⟩, .string ⟨#[]⟩, .string ⟨#[]⟩, .int .i64 0, .slice none 0 0, .slice none 0 0, .bool false, .bool false] 31)
      have Bz := Ba.belowW Lz
      obtain ⟨⟨a0, a1, a2, a3, a4, a5, a6, a7, a8, a9⟩, -⟩ := Bz.c10
      have LR := stepW Ra Lz
      have Lw := stepW L10 LR
      have hq := law_same15 AB n cB b1 (some ⟨ba, oa, none⟩) n c1 b1 _ ((hr2.belowW (Nat.le_refl _) LR).more LR.size) ((hB1.below Lw).more Lw.size) (by unfold maxLen; omega)
      rw [decide_eq_true rfl] at hq
      go_wp2_with fail
      refine hq.mono ?_
      rintro e w13 ⟨rfl, L13⟩
      obtain ⟨⟨d0, d1, d2, d3, d4, d5, d6, d7, d8, d9⟩, -⟩ := (Bz.belowW L13).c10
      have q13 := (q11.belowW Lz).belowW L13
      have hP0 : Calls Tryz.prog 22 #[.pointer (some ⟨g, 0, none⟩)] w13 fun e w' => e = .returned (.int .i64 0) ∧ w13 = w' := prs_Phase g S10 p0 _ q13
      have Lv := stepW Lw L13
      clear a0 a1 a2 a3 a4 a5 a6 a7 a8 a9 hq hT2 hr1 hr2 hn1 hn2
      go_wp2_with fail
      refine hP0.mono ?_
      rintro e w14 ⟨rfl, rfl⟩
      go_wp2_with fail
      refine (law_known15 w13 (hm.below Lv (Nat.le_refl _))).mono ?_
      rintro e w15 ⟨rfl, L15⟩
      go_wp2
      go_ret
      exact ⟨rfl, stepW Lv L15⟩
  case true =>
    go_enter Tryz.func4, Tryz.ntmps4
    have hFd := Lib.hid (pbS_feed n true hle)
    have hSd := Lib.hid (pbS_data n true)
    have hSz : (pbS n true).size ≤ 1000 := by rw [← len_data, hSd.out]; exact (pb_len n true hle).1
    go_wp2_with fail
    refine (ref_Dec (n : Int) w (by omega)).mono ?_
    rw [Int.toNat_natCast]
    rintro e w1 ⟨rfl, L1⟩
    go_wp2_with fail
    refine (prs_New w1).mono ?_
    rintro e w2 ⟨⟨g, S, rfl, q, hS⟩, L2⟩
    have hltS : ∀ i, S i → i < w2.heap.size := fun i hi => q.lt hi
    have L2' := stepW L1 L2
    have kc := fun (w : World) (C : Array Value) (n c g : Nat) (hg : g = w.heap.size) => Go.Joins.run_convert_bytes_const_at (P := Tryz.prog) w 22 5 C n c g hg Tryz.underlying22 Tryz.underlying5
    go_wp2_with (refine wpList_toBytes _ rfl (.tmp 33) 9 22 rfl 5 w2.heap.size (pbS n true) rfl Tryz.underlying9 Tryz.underlying22 Tryz.underlying5 (by unfold maxLen; omega) (Nat.le_refl _) ?_
                 intro cap w3 hcap ho3 hg3 hz3
                 have L3 : Below w2.heap.size w2 w3 := below_of_none hg3)
    have ho3' : OB w3 w2.heap.size (.slice (some ⟨w2.heap.size, 0, none⟩) (pbS n true).size cap) (lnsL (po1 :: pbLs n true)) := by
      unfold OB
      rw [← hSd.out, len_data]
      exact ho3
    have hln : (lnsL (po1 :: pbLs n true)).length = (pbS n true).size := by rw [← hSd.out, len_data]
    obtain ⟨-, -, hr3⟩ := Own.rdS ho3
    rw [hSd.out] at hr3
    have hO3 : RdO w3 S (some ⟨w2.heap.size, 0, none⟩) (pbS n true).size ((lnsL (po1 :: pbLs n true)).map bv) := ⟨hr3, fun h0 a ha hs => by injection ha with ha; subst ha; exact Nat.lt_irrefl _ (hltS _ hs)⟩
    have hltS3 : ∀ i, S i → i < w3.heap.size := fun i hi => Nat.lt_of_lt_of_le (hltS i hi) L3.size
    have La := allocW (Below.refl w3.heap.size w3) (.cells #[.int .u8 13, .int .u8 10] 5 (2, 3))
    have Lb := allocW La (.cells #[.slice (some ⟨w2.heap.size, 0, none⟩) (pbS n true).size cap, .slice (some ⟨w3.heap.size, 0, none⟩) 2 2] 22)
    have rb : RdO (w3.alloc (.cells #[.int .u8 13, .int .u8 10] 5 (2, 3))) S (some ⟨w3.heap.size, 0, none⟩) 2 (([13, 10] : Bs).map bv) := RdO.lit hltS3 _ rfl (([13, 10] : Bs).map bv) _ (2, 3) 2 rfl
    have rc := RdP.two (fun i hi => Nat.lt_of_lt_of_le (hltS3 i hi) La.size) (w3.heap.size + 1) (by simp) 22 _ [13, 10] hln rfl (hO3.belowW La) rb hcap (Nat.le_refl 2)
    have L3' := stepW L2' L3
    have hC := prs_FeedP g S p0 _ 2 2 _ _ ((q.belowW L3).belowW Lb) p0_inv rc (by rw [List.flatten_cons, List.length_append, hln]; simp; omega) (by decide) ((hm.below L3' (Nat.le_refl _)).below Lb (Nat.le_refl _)) (hi_of (hm.below L1 (Nat.le_refl _)) hS) (by decide)
    rw [hFd.out] at hC
    unfold FeedP at hC
    dsimp only at hC
    rw [hln] at hC
    have L4 := stepW L3' Lb
    clear rb rc hO3 hr3 ho3 ho3' hg3 hz3 q
    go_wp2_with fail
    refine hC.mono ?_
    rintro e w4 ⟨rfl, hI4, S4, q4, m4⟩
    have hSw : ∀ k, S k → w.heap.size ≤ k := fun k hk => Nat.le_trans L1.size (hS k hk)
    have L5 := moved_below m4 L4 hSw
    have hS4 := moved_hs m4 L4.size hSw
    obtain ⟨k1, k2, k3, k4⟩ := (pb_of n true hle).2
    obtain ⟨X, hX⟩ : ∃ X, X = pbS n true := ⟨_, rfl⟩
    obtain ⟨H, hH⟩ : ∃ H, H = pbH n true := ⟨_, rfl⟩
    rw [← hH] at q4 hI4 k1 k2 k3 k4
    clear hC L1 L2 L2' L3 L3' La Lb L4 m4 hFd hS hltS hltS3 hH
    have hX' : X = (⟨#[80, 79, 83, 84, 32, 47, 120, 32, 72, 84, 84, 80, 47, 49, 46, 49, 13, 10, 72, 111, 115, 116, 58, 32, 97, 13, 10, 67, 111, 110, 116, 101, 110, 116, 45, 76, 101, 110, 103, 116, 104, 58, 32]⟩ : ByteArray) ++ ⟨(digs 10 n).toArray⟩ ++ ⟨#[13, 10]⟩ ++ ⟨#[69, 120, 112, 101, 99, 116, 58, 32, 49, 48, 48, 45, 67, 111, 110, 116, 105, 110, 117, 101, 13, 10]⟩ := by rw [hX, pbS, if_pos rfl]
    rw [← hX', ← hX]
    rw [← hX] at hSz
    have HX1 := Lib.hid hX
    have HX2 := Lib.hid hX'
    clear hX hX' hSd hln
    rcases Nat.eq_zero_or_pos n with h0 | h0
    · subst h0
      obtain rfl : b1 = [] := List.eq_nil_of_length_eq_zero hbl
      have hP : rqP H 0 = { p0 with phase := 3, head := H, body := [], fed := 0 } := by rw [rqP, if_pos rfl]; rfl
      rw [hP] at q4 hI4
      have k2' : H.how.expect = false := by rw [k2]; rfl
      have hW := prs_Waits g S4 _ w4 q4
      rw [show pWaits { p0 with phase := 3, head := H, body := [], fed := 0 } = false from rfl] at hW
      have hPh : ∀ w5, Below w4.heap.size w4 w5 → Calls Tryz.prog 22 #[.pointer (some ⟨g, 0, none⟩)] w5 fun e w' => e = .returned (.int .i64 3) ∧ w5 = w' := fun w5 L => prs_Phase g S4 _ w5 (q4.belowW L)
      go_wp2_with fail
      refine hW.mono ?_
      rintro e w5 ⟨rfl, L6⟩
      go_wp2_with fail
      refine (hPh w5 L6).mono ?_
      rintro e w6 ⟨rfl, rfl⟩
      have q5 := q4.belowW L6
      have L7 := stepW L5 L6
      go_wp2_with fail
      obtain ⟨w9, rfl⟩ : ∃ w9, w9 = w5 := ⟨_, rfl⟩
      have q9 := q5
      have hI9 := hI4
      have L9 := L7
      have hS9 := hS4
      obtain ⟨S9, rfl⟩ : ∃ S9, S9 = S4 := ⟨_, rfl⟩
      have hT := prs_Take_yes g S9 _ w9 q9 rfl hI9
      unfold TakePost reqV at hT
      simp only [List.length_nil, k1, k2', k3, k4] at hT
      go_wp2_with fail
      refine hT.mono ?_
      rintro e w10 ⟨AF, cF, AB, cB, rfl, hr1, hn1, hr2, hn2, S10, q10, m10, hS10⟩
      have L10 := moved_below m10 L9 hS9
      have Ra := allocW (Below.refl w10.heap.size w10) (.cells #[sv [80, 79, 83, 84], .int .i64 H.tgt.form, sv H.tgt.host, sv [47, 120], sv H.tgt.query, .int .i64 H.minor, .slice AF H.flds.length cF, .slice AB 0 cB, .bool false, .bool false] 31)
      have Ba := Blk.new w10 31 #[sv [80, 79, 83, 84], .int .i64 H.tgt.form, sv H.tgt.host, sv [47, 120], sv H.tgt.query, .int .i64 H.minor, .slice AF H.flds.length cF, .slice AB 0 cB, .bool false, .bool false]
      have q11 := q10.belowW Ra
      have hT2 : Calls Tryz.prog 18 #[.pointer (some ⟨g, 0, none⟩)] _ fun e w' => e = .returned (.tuple #[.agg #[.string ⟨#[]⟩, .int .i64 0, .string ⟨#[]⟩, .string ⟨#[]⟩, .string ⟨#[]⟩, .int .i64 0, .slice none 0 0, .slice none 0 0, .bool false, .bool false], .int .i64 4]) ∧ Below _ _ w' := prs_Take_not g S10 p0 _ q11 (by decide)
      clear hT
      go_wp2_with fail
      refine hT2.mono ?_
      rintro e w12 ⟨rfl, L12⟩
      have Lz := allocW L12 (.cells #[.string ⟨#[]⟩, .int .i64 0, .string ⟨#[]⟩, .string ⟨#[]⟩, .string ⟨#[]⟩, .int .i64 0, .slice none 0 0, .slice none 0 0, .bool false, .bool false] 31)
      have Bz := Ba.belowW Lz
      obtain ⟨⟨a0, a1, a2, a3, a4, a5, a6, a7, a8, a9⟩, -⟩ := Bz.c10
      have LR := stepW Ra Lz
      have Lw := stepW L10 LR
      have hq := law_same15 AB 0 cB [] A1 0 c1 [] _ ((hr2.belowW (Nat.le_refl _) LR).more LR.size) ((hB1.below Lw).more Lw.size) (by unfold maxLen; omega)
      rw [decide_eq_true rfl] at hq
      go_wp2_with fail
      refine hq.mono ?_
      rintro e w13 ⟨rfl, L13⟩
      obtain ⟨⟨d0, d1, d2, d3, d4, d5, d6, d7, d8, d9⟩, -⟩ := (Bz.belowW L13).c10
      have q13 := (q11.belowW Lz).belowW L13
      have hP0 : Calls Tryz.prog 22 #[.pointer (some ⟨g, 0, none⟩)] w13 fun e w' => e = .returned (.int .i64 0) ∧ w13 = w' := prs_Phase g S10 p0 _ q13
      have Lv := stepW Lw L13
      clear a0 a1 a2 a3 a4 a5 a6 a7 a8 a9 hq hT2 hr1 hr2 hn1 hn2
      go_wp2_with fail
      refine hP0.mono ?_
      rintro e w14 ⟨rfl, rfl⟩
      go_wp2_with fail
      refine (law_known15 w13 (hm.below Lv (Nat.le_refl _))).mono ?_
      rintro e w15 ⟨rfl, L15⟩
      go_wp2
      go_ret
      exact ⟨rfl, stepW Lv L15⟩
    · have hP : rqP H n = { p0 with phase := 2, head := H, left := n } := by rw [rqP, if_neg (by omega)]
      have hd0 : decide (0 < n) = true := by simpa using h0
      have k2' : H.how.expect = true := by rw [k2, hd0]; rfl
      have hW := prs_Waits g S4 _ w4 q4
      rw [show pWaits (rqP H n) = true by rw [hP]; simp [pWaits, k2', p0]] at hW
      have hPh : ∀ w5, Below w4.heap.size w4 w5 → Calls Tryz.prog 22 #[.pointer (some ⟨g, 0, none⟩)] w5 fun e w' => e = .returned (.int .i64 2) ∧ w5 = w' := fun w5 L => by have h9 := prs_Phase g S4 _ w5 (q4.belowW L); rw [show (rqP H n).phase = 2 by rw [hP]] at h9; exact h9
      have hn0 : ¬ ((n : Int) = 0) := by omega
      have hn1 : ((n : Int) == 0) = false := by rw [Bool.eq_false_iff]; intro h9; rw [beq_iff_eq] at h9; omega
      have hn2 : (0 : Int) < (n : Int) := by omega
      go_wp2_with fail
      refine hW.mono ?_
      rintro e w5 ⟨rfl, L6⟩
      go_wp2_with fail
      refine (hPh w5 L6).mono ?_
      rintro e w6 ⟨rfl, rfl⟩
      have q5 := q4.belowW L6
      have L7 := stepW L5 L6
      go_wp2_with fail
      have hO5 : RdO w5 S4 A1 n (b1.map bv) := ⟨(hB1.below L7).more L7.size, hB1.off hS4⟩
      have hc5 := hO5.1.cutTo (k := n - 1) (by omega)
      rw [Nat.mul_one, ← List.map_take] at hc5
      have hO6 : RdO w5 S4 A1 (n - 1) ((b1.take (n - 1)).map bv) := ⟨hc5, fun h9 => hO5.2 (by omega)⟩
      have hlt4 : ∀ i, S4 i → i < w5.heap.size := fun i hi => q5.lt hi
      have htl : (b1.take (n - 1)).length = n - 1 := by rw [List.length_take]; omega
      have Lc := allocW (Below.refl w5.heap.size w5) (.cells #[.slice A1 (n - 1) c1] 22)
      have rp := RdP.one hlt4 w5.heap.size rfl 22 _ htl hO6 (show n - 1 ≤ c1 by omega)
      have hm5 := hm.below L7 (Nat.le_refl _)
      have hC2 := prs_FeedP g S4 _ _ 1 1 _ _ (q5.belowW Lc) hI4 rp (by simp; omega) (by rw [hP]; show 0 ≤ 900000000; omega) (hm5.below Lc (Nat.le_refl _)) (hi_of hm hS4) (by decide)
      rw [show [b1.take (n - 1)].flatten = b1.take (n - 1) by simp, rqP_most H _ n (by rw [htl]; omega)] at hC2
      unfold FeedP at hC2
      dsimp only at hC2
      rw [htl, show (((n - 1 : Nat)) : Int) = (n : Int) - 1 by omega] at hC2
      clear rp hO6 hc5
      go_wp2_with fail
      refine hC2.mono ?_
      rintro e w6 ⟨rfl, hI6, S6, q6, m6⟩
      have L8 := moved_below m6 (stepW L7 Lc) hS4
      have hS6 := moved_hs m6 (Nat.le_trans L7.size Lc.size) hS4
      have hPh2 : Calls Tryz.prog 22 #[.pointer (some ⟨g, 0, none⟩)] w6 fun e w' => e = .returned (.int .i64 2) ∧ w6 = w' := by have h9 := prs_Phase g S6 _ w6 q6; dsimp only at h9; rw [show (rqP H n).phase = 2 by rw [hP]] at h9; exact h9
      have hW2 := prs_Waits g S6 _ w6 q6
      rw [show pWaits { rqP H n with body := b1.take (n - 1), left := 1, fed := n - 1 } = ((n : Int) == 1) by rw [hP]; simp only [pWaits, k2', decide_true, Bool.true_and]; rw [Bool.eq_iff_iff]; simp; omega] at hW2
      clear hC2
      go_wp2_with fail
      refine hPh2.mono ?_
      rintro e w7 ⟨rfl, rfl⟩
      go_wp2_with fail
      refine hW2.mono ?_
      rintro e w7 ⟨rfl, L77⟩
      have L9' := stepW L8 L77
      have q7 := q6.belowW L77
      obtain ⟨ba, oa, rfl, -, -⟩ := hB1.2 (by omega)
      have hlt6 : ∀ i, S6 i → i < w7.heap.size := fun i hi => q7.lt hi
      have hO7 : RdO w7 S6 (some ⟨ba, oa, none⟩) n (b1.map bv) := ⟨(hB1.below L9').more L9'.size, hB1.off hS6⟩
      have hO8 : RdO w7 S6 A2 n2 (b2.map bv) := ⟨(hB2.below L9').more L9'.size, hB2.off hS6⟩
      have hpl := hO7.part (V := some ⟨ba, oa + (n - 1), none⟩) (a := n - 1) (m := 1) (by omega) (fun _ => by rw [Option.map_some, add_lit'])
      obtain ⟨ch, hch, hdr⟩ := drop_list b1 (n - 1) (by omega)
      rw [hdr, List.take_succ_cons, List.take_zero] at hpl
      have Ld := allocW (Below.refl w7.heap.size w7) (.cells #[.slice (some ⟨ba, oa + (n - 1), none⟩) 1 (c1 - (n - 1)), .slice A2 n2 c2] 22)
      have rq := RdP.two hlt6 w7.heap.size rfl 22 [ch] b2 rfl (by simpa using hB2.1) hpl hO8 (show 1 ≤ c1 - (n - 1) by omega) hc2
      have hm7 := hm.below L9' (Nat.le_refl _)
      have h22 : b2.length = n2 := by simpa using hB2.1
      have hC3 := prs_FeedP g S6 _ _ 2 2 _ _ (q7.belowW Ld) hI6 rq (by simp; omega) (by show n - 1 ≤ 900000000; omega) (hm7.below Ld (Nat.le_refl _)) (hi_of hm hS6) (by decide)
      have hbt : b1.take (n - 1) ++ [ch] = b1 := by conv => rhs; rw [← List.take_append_drop (n - 1) b1, hdr, List.drop_of_length_le (by omega)]
      have hl9 := rqP_last H n (b1.take (n - 1)) ch b2 (by omega)
      rw [htl, hbt] at hl9
      rw [show [[ch], b2].flatten = [ch] ++ b2 by simp, hl9] at hC3
      unfold FeedP at hC3
      have hone : n - (n - 1) = 1 := by omega
      clear rq hpl hO8 hdr hch hbt hl9 htl
      go_wp2_with fail
      refine hC3.mono ?_
      rintro e w9 ⟨rfl, hI9, S9, q9, m9⟩
      have L9 := moved_below m9 (stepW L9' Ld) hS6
      have hS9 := moved_hs m9 (Nat.le_trans L9'.size Ld.size) hS6
      clear hC3 q6 q7 m6 m9 L8
      have hT := prs_Take_yes g S9 _ w9 q9 rfl hI9
      unfold TakePost reqV at hT
      simp only [hbl, k1, k2', k3, k4] at hT
      go_wp2_with fail
      refine hT.mono ?_
      rintro e w10 ⟨AF, cF, AB, cB, rfl, hr1, hn1, hr2, hn2, S10, q10, m10, hS10⟩
      have L10 := moved_below m10 L9 hS9
      have Ra := allocW (Below.refl w10.heap.size w10) (.cells #[sv [80, 79, 83, 84], .int .i64 H.tgt.form, sv H.tgt.host, sv [47, 120], sv H.tgt.query, .int .i64 H.minor, .slice AF H.flds.length cF, .slice AB n cB, .bool false, .bool true] 31)
      have Ba := Blk.new w10 31 #[sv [80, 79, 83, 84], .int .i64 H.tgt.form, sv H.tgt.host, sv [47, 120], sv H.tgt.query, .int .i64 H.minor, .slice AF H.flds.length cF, .slice AB n cB, .bool false, .bool true]
      have q11 := q10.belowW Ra
      have hT2 : Calls Tryz.prog 18 #[.pointer (some ⟨g, 0, none⟩)] _ fun e w' => e = .returned (.tuple #[.agg #[.string ⟨#[]⟩, .int .i64 0, .string ⟨#[]⟩, .string ⟨#[]⟩, .string ⟨#[]⟩, .int .i64 0, .slice none 0 0, .slice none 0 0, .bool false, .bool false], .int .i64 4]) ∧ Below _ _ w' := prs_Take_not g S10 p0 _ q11 (by decide)
      clear hT
      go_wp2_with fail
      refine hT2.mono ?_
      rintro e w12 ⟨rfl, L12⟩
      have Lz := allocW L12 (.cells #[.string ⟨#[]⟩, .int .i64 0, .string ⟨#[]⟩, .string ⟨#[]⟩, .string ⟨#[]⟩, .int .i64 0, .slice none 0 0, .slice none 0 0, .bool false, .bool false] 31)
      have Bz := Ba.belowW Lz
      obtain ⟨⟨a0, a1, a2, a3, a4, a5, a6, a7, a8, a9⟩, -⟩ := Bz.c10
      have LR := stepW Ra Lz
      have Lw := stepW L10 LR
      have hq := law_same15 AB n cB b1 (some ⟨ba, oa, none⟩) n c1 b1 _ ((hr2.belowW (Nat.le_refl _) LR).more LR.size) ((hB1.below Lw).more Lw.size) (by unfold maxLen; omega)
      rw [decide_eq_true rfl] at hq
      go_wp2_with fail
      refine hq.mono ?_
      rintro e w13 ⟨rfl, L13⟩
      obtain ⟨⟨d0, d1, d2, d3, d4, d5, d6, d7, d8, d9⟩, -⟩ := (Bz.belowW L13).c10
      have q13 := (q11.belowW Lz).belowW L13
      have hP0 : Calls Tryz.prog 22 #[.pointer (some ⟨g, 0, none⟩)] w13 fun e w' => e = .returned (.int .i64 0) ∧ w13 = w' := prs_Phase g S10 p0 _ q13
      have Lv := stepW Lw L13
      clear a0 a1 a2 a3 a4 a5 a6 a7 a8 a9 hq hT2 hr1 hr2 hn1 hn2
      go_wp2_with fail
      refine hP0.mono ?_
      rintro e w14 ⟨rfl, rfl⟩
      go_wp2_with fail
      refine (law_known15 w13 (hm.below Lv (Nat.le_refl _))).mono ?_
      rintro e w15 ⟨rfl, L15⟩
      go_wp2
      go_ret
      exact ⟨rfl, stepW Lv L15⟩
end Go.Proofs.YtdajfajnkikmdaaGreatDoor

/- The law ParseLengthIsOne. -/
import Derived.Test.YtdajfajnkikmdaaGreatDoorQLaw3
import Derived.Test.YtdajfajnkikmdaaGreatDoorQLaw4
namespace Go.Proofs.YtdajfajnkikmdaaGreatDoor
open Go.RowKit
set_option maxRecDepth 100000
set_option maxHeartbeats 4000000

theorem pl_len (n : Nat) (hn : n ≤ 1000) : (lnsL (pl1 :: plLs n)).length ≤ 800 ∧ (digs 10 n).length ≤ 240 := by
  have h := (List.all_eq_true.1 plB_all) n (List.mem_range.2 (by omega))
  unfold lenB at h
  simp only [Bool.and_eq_true] at h
  obtain ⟨⟨⟨⟨h1, -⟩, -⟩, -⟩, -⟩ := h
  rw [plLs, List.all_cons, List.all_cons, List.all_cons] at h1
  simp only [Bool.and_eq_true] at h1
  have h2 := (okLn_of h1.2.2.1).2
  simp only [plLs, lnsL, pl1, po2, List.flatMap_cons, List.flatMap_nil, List.length_append, List.length_cons, List.length_nil] at h2 ⊢
  have h3 : poC.length = 16 := rfl
  omega
def plS (n : Nat) : ByteArray := (⟨#[80, 79, 83, 84, 32, 47, 32, 72, 84, 84, 80, 47, 49, 46, 49, 13, 10, 72, 111, 115, 116, 58, 32, 97, 13, 10, 67, 111, 110, 116, 101, 110, 116, 45, 76, 101, 110, 103, 116, 104, 58, 32]⟩ : ByteArray) ++ ⟨(digs 10 n).toArray⟩ ++ ⟨#[13, 10, 13, 10]⟩
theorem plS_data (n : Nat) : (plS n).data.toList = lnsL (pl1 :: plLs n) ++ [13, 10] := by
  unfold plS
  rw [app_data, app_data]
  simp [lnsL, plLs, pl1, po2, poC]
theorem plS_feed (n : Nat) (hn : n ≤ 1000) (b : Bs) (hb : b.length = n) : pFeed p0 (lnsL (pl1 :: plLs n) ++ [13, 10] ++ b ++ plZ) = ((lnsL (pl1 :: plLs n)).length + 2 + n, { p0 with phase := 3, head := plH n, body := b, fed := n }) := by
  have h := (pl_of n hn).feed (b ++ plZ)
  rw [show lnsL (pl1 :: plLs n) ++ [13, 10] ++ b ++ plZ = lnsL (pl1 :: plLs n) ++ 13 :: 10 :: (b ++ plZ) by simp, h]
  have h2 := rqP_feed (plH n) b plZ
  rw [hb] at h2
  rw [h2]
theorem law_One15 (A : Option Addr) (n c : Nat) (b : Bs) (w : World) (hA : Rd w w.heap.size 1 A n (b.map bv)) (_hc : n ≤ c) (hm : ML w) :
    Calls Tryz.prog 3 #[.slice A n c] w fun e w' => e = .returned (.bool true) ∧ Below w.heap.size w w' := by
  by_cases hb : 1000 < n
  · go_enter Tryz.func3, Tryz.ntmps3
    go_wp2
    go_ret
    exact ⟨rfl, Below.refl _ _⟩
  have hle : n ≤ 1000 := by omega
  clear hb
  have hbl : b.length = n := by simpa using hA.1
  have hFd := Lib.hid (plS_feed n hle b hbl)
  obtain ⟨hM, hdl⟩ := pl_len n hle
  have hds : (⟨(digs 10 n).toArray⟩ : ByteArray).size ≤ 240 := hdl
  have hSd := Lib.hid (plS_data n)
  have hSz : (plS n).size ≤ 802 := by rw [← len_data, hSd.out, List.length_append]; simp only [List.length_cons, List.length_nil]; omega
  obtain ⟨HD, hHD⟩ : ∃ HD, HD = lnsL (pl1 :: plLs n) ++ [13, 10] := ⟨_, rfl⟩
  have hHl : HD.length = (lnsL (pl1 :: plLs n)).length + 2 := by rw [hHD]; simp
  rw [← hHD] at hSd hFd
  obtain ⟨M, hMe⟩ : ∃ M, M = (lnsL (pl1 :: plLs n)).length + 2 := ⟨_, rfl⟩
  rw [← hMe] at hHl hFd
  have hM2 : M ≤ 802 := by omega
  have hBl : (HD ++ b ++ plZ).length = M + n + 19 := by rw [List.length_append, List.length_append, hHl, hbl]; rfl
  obtain ⟨T, hTe⟩ : ∃ T, T = M + n := ⟨_, rfl⟩
  rw [← hTe] at hFd hBl
  have hT2 : T ≤ 1802 := by omega
  have HTe := Lib.hid hTe
  obtain ⟨H, hH⟩ : ∃ H, H = plH n := ⟨_, rfl⟩
  rw [← hH] at hFd
  have hdrop : ((HD ++ b ++ plZ).drop T).take 19 = plZ := by
    rw [List.drop_append_of_le_length (by rw [List.length_append, hHl, hbl, hTe]; omega), List.drop_of_length_le (by rw [List.length_append, hHl, hbl, hTe]; omega)]
    rfl
  have Hdrop := Lib.hid hdrop
  clear hTe hH hdrop
  have HMe := Lib.hid hMe
  have HHl := Lib.hid hHl
  clear hHD hMe hM hHl
  go_enter Tryz.func3, Tryz.ntmps3
  go_wp2_with fail
  refine (ref_Dec (n : Int) w (by omega)).mono ?_
  rw [Int.toNat_natCast]
  rintro e w1 ⟨rfl, L1⟩
  have hA1 := hA.belowW (Nat.le_refl _) L1
  go_wp2_with (first
    | (refine wpList_toBytes _ rfl (.tmp 18) 9 22 rfl 5 w.heap.size (plS n) rfl Tryz.underlying9 Tryz.underlying22 Tryz.underlying5 (by unfold maxLen; omega) L1.size ?_
       intro cap w2 hcap ho2 hg2 hz2
       have L2 : Below w.heap.size w w2 := L1.trans ((below_of_none hg2).mono L1.size)
       have o2 : OB w2 w.heap.size (.slice (some ⟨w1.heap.size, 0, none⟩) (plS n).size cap) HD := by
         unfold OB
         rw [← hSd.out, len_data]
         exact ho2
       clear ho2 hg2 hz2)
    | (at_builtin
       refine wp_appRd rfl (.tmp 20) (.tmp 21) rfl w.heap.size (.slice (some ⟨w1.heap.size, 0, none⟩) (plS n).size cap) HD rfl o2 (Below.refl _ _) A n c w.heap.size rfl b (hA.below L2) (by rw [HHl.out, hbl]; omega) L2.size ?_
       intro v3 w3 o3 x3
       have L3 : Below w.heap.size w w3 := L2.trans (x3.below o2 (Nat.le_refl _) L2.size))
    | (at_builtin
       refine wp_appStr rfl (.tmp 22) _ rfl w.heap.size v3 (HD ++ b) rfl o3 (⟨#[71, 69, 84, 32, 47, 122, 32, 72, 84, 84, 80, 47, 49, 46, 48, 13, 10, 13, 10]⟩ : ByteArray) rfl (by rw [List.length_append, HHl.out, hbl]; show M + n + 19 ≤ 140737488355328; omega) L3.size ?_
       intro v4 w4 o4 x4
       have L4 : Below w.heap.size w w4 := L3.trans (x4.below o3 (Nat.le_refl _) L3.size)
       have o4' : OB w4 w.heap.size v4 (HD ++ b ++ plZ) := o4
       obtain ⟨A4, c4, hv4, hc4, -, hr4⟩ := o4'.form
       rw [hBl] at hv4 hc4 hr4
       subst hv4))
  obtain ⟨B, hB⟩ : ∃ B, B = HD ++ b ++ plZ := ⟨_, rfl⟩
  rw [← hB] at hr4 hBl
  have HB := Lib.hid hB
  have hm4 := hm.below L4 (Nat.le_refl _)
  have hA4 := (hA.below L4).more L4.size
  clear hB o2 o3 o4 o4' x3 x4 L2 L3 hA1 L1
  refine (prs_New w4).mono ?_
  rintro e w5 ⟨⟨g, S, rfl, q, hS⟩, L5⟩
  have hltS : ∀ i, S i → i < w5.heap.size := fun i hi => q.lt hi
  have hO : RdO w5 S A4 (T + 19) (B.map bv) := ⟨(hr4.belowW (Nat.le_refl _) L5).more L5.size, hr4.off hS⟩
  have La := allocW (Below.refl w5.heap.size w5) (.cells #[.slice A4 (T + 19) c4] 22)
  have rc := RdP.one hltS w5.heap.size rfl 22 B hBl hO hc4
  have hC := prs_FeedP g S p0 _ 1 1 [B] _ (q.belowW La) p0_inv rc (by simp; omega) (by decide) ((hm4.below L5 (Nat.le_refl _)).below La (Nat.le_refl _)) (hi_of hm4 hS) (by decide)
  rw [show [B].flatten = HD ++ b ++ plZ by simp [HB.out], hFd.out] at hC
  unfold FeedP at hC
  clear rc hO q
  go_wp2_with fail
  refine hC.mono ?_
  rintro e w6 ⟨rfl, hI6, S6, q6, m6⟩
  have L6 := moved_below m6 (stepW L5 La) hS
  have hS6 := moved_hs m6 (Nat.le_trans L5.size La.size) hS
  have hlt6 : ∀ k, S6 k → k < w6.heap.size := fun k hk => q6.lt hk
  have hT := prs_Take_yes g S6 _ w6 q6 rfl hI6
  unfold TakePost reqV at hT
  simp only [hbl] at hT
  clear hC q6
  go_wp2_with fail
  refine hT.mono ?_
  rintro e w7 ⟨AF, cF, AB, cB, rfl, hr1, hn1, hr2, hn2, S7, q7, m7, hS7⟩
  have L7 := moved_below m7 L6 hS6
  have hS7w := moved_hs m7 L6.size hS6
  have hlt7 : ∀ k, S7 k → k < w7.heap.size := fun k hk => q7.lt hk
  have Ra := allocW (Below.refl w7.heap.size w7) (.cells #[sv H.method, .int .i64 H.tgt.form, sv H.tgt.host, sv H.tgt.path, sv H.tgt.query, .int .i64 H.minor, .slice AF H.flds.length cF, .slice AB n cB, .bool H.how.close, .bool H.how.expect] 31)
  have Ba := Blk.new w7 31 #[sv H.method, .int .i64 H.tgt.form, sv H.tgt.host, sv H.tgt.path, sv H.tgt.query, .int .i64 H.minor, .slice AF H.flds.length cF, .slice AB n cB, .bool H.how.close, .bool H.how.expect]
  have La7 := stepW L7 Ra
  obtain ⟨b4, o4, rfl, -, -⟩ := hr4.2 (by omega)
  generalize hW7 : w7.alloc (.cells #[sv H.method, .int .i64 H.tgt.form, sv H.tgt.host, sv H.tgt.path, sv H.tgt.query, .int .i64 H.minor, .slice AF H.flds.length cF, .slice AB n cB, .bool H.how.close, .bool H.how.expect] 31) = W7 at Ra Ba La7
  have hz7 : W7.heap.size = w7.heap.size + 1 := by rw [← hW7]; simp
  have HW7 := Lib.hid hW7
  have HZ7 := Lib.hid hz7
  have hltW : ∀ k, S7 k → k < W7.heap.size := fun k hk => Nat.lt_of_lt_of_le (hlt7 k hk) Ra.size
  have hO7 : RdO W7 S7 (some ⟨b4, o4, none⟩) (T + 19) (B.map bv) := ⟨(hr4.belowW (Nat.le_refl _) La7).more La7.size, hr4.off hS7w⟩
  have hpz := hO7.part (V := some ⟨b4, o4 + T, none⟩) (a := T) (m := 19) (by omega) (fun _ => by rw [Option.map_some, add_lit'])
  rw [HB.out, Hdrop.out] at hpz
  have Lb := allocW (Below.refl W7.heap.size W7) (.cells #[.slice (some ⟨b4, o4 + T, none⟩) 19 (c4 - T)] 22)
  have rz := RdP.one hltW (w7.heap.size + 1) hz7.symm 22 plZ rfl hpz (show 19 ≤ c4 - T by omega)
  have hF2 := prs_FeedP g S7 p0 _ 1 1 [plZ] _ ((q7.belowW Ra).belowW Lb) p0_inv rz (by decide) (by decide) ((hm4.below La7 (Nat.le_refl _)).below Lb (Nat.le_refl _)) (hi_of hm4 hS7w) (by decide)
  obtain ⟨f1, f2, f3⟩ := plZ_feed
  rw [show [plZ].flatten = plZ by simp] at hF2
  obtain ⟨Z, hZ⟩ : ∃ Z, Z = pFeed p0 plZ := ⟨_, rfl⟩
  rw [← hZ] at hF2 f1 f2 f3
  unfold FeedP at hF2
  rw [f1] at hF2
  have F2 := Lib.hid f2
  have F3 := Lib.hid f3
  have hABw : 0 < n → ∀ a, AB = some a → a.block < w6.heap.size ∧ a.block ≠ g := fun h0 a ha => ⟨hlt6 _ (hn2 h0 a ha).1, (hn2 h0 a ha).2⟩
  have hAB7 : 0 < n → ∀ a, AB = some a → ¬ S7 a.block := fun h0 a ha hs => by
    obtain ⟨h1, h2⟩ := hABw h0 a ha
    rcases hS7 _ hs with h3 | h3
    · exact h2 h3
    · omega
  have hr2b := (hr2.belowW (Nat.le_refl _) Ra).more Ra.size
  have hmin : min (T : Int) ((T : Int) + 19) = (T : Int) := by omega
  have hcT : ¬ c4 = T := by omega
  have hcT2 : T + 19 - T = 19 := by omega
  clear hT rz hpz hO7 hr1 hn1 hr2 hZ f1 f2 f3 hz7 hW7 hlt6
  go_wp2_with fail
  rw [← HW7.out] at hF2
  refine hF2.mono ?_
  rintro e w8 ⟨rfl, hI8, S8, q8, m8⟩
  rw [HW7.out] at m8
  have L8 := moved_below m8 (stepW La7 Lb) hS7w
  have hS8 := moved_hs m8 (Nat.le_trans La7.size Lb.size) hS7w
  have Bb := (Ba.belowW Lb).fr m8.fr (fun h9 => Nat.lt_irrefl _ (hlt7 _ h9))
  have hr8 := ((hr2b.belowW (Nat.le_refl _) Lb).more Lb.size).frm (Nat.le_refl _) m8.fr hAB7
  have hr8' := hr8.more m8.fr.size
  have hsz : w6.heap.size ≤ W7.heap.size := Nat.le_trans m7.fr.size Ra.size
  have hAB8 : 0 < n → ∀ a, AB = some a → ¬ S8 a.block := fun h0 a ha hs => by
    rcases m8.foot _ hs with h3 | h3
    · exact hAB7 h0 a ha h3
    · have := (hABw h0 a ha).1; have := Lb.size; omega
  have hw78 : ¬ S8 w7.heap.size := fun hs => by
    rcases m8.foot _ hs with h3 | h3
    · exact Nat.lt_irrefl _ (hlt7 _ h3)
    · have := Lb.size; have := HZ7.out; omega
  have hT2' := prs_Take_yes g S8 Z.2 w8 q8 F2.out hI8
  unfold TakePost reqV at hT2'
  rw [F3.out] at hT2'
  clear hF2 q8 Ba hr2b hr8 m7
  go_wp2_with fail
  refine hT2'.mono ?_
  rintro e w9 ⟨AF9, cF9, AB9, cB9, rfl, -, -, -, -, S9, q9, m9, -⟩
  have L9 := moved_below m9 L8 hS8
  have Bc := Bb.fr m9.fr hw78
  have hr9 := (hr8'.frm (Nat.le_refl _) m9.fr hAB8).more m9.fr.size
  obtain ⟨⟨a0, a1, a2, a3, a4, a5, a6, a7, a8, a9⟩, -⟩ := (Bc.alloc (.cells #[sv Z.2.head.method, .int .i64 Z.2.head.tgt.form, sv Z.2.head.tgt.host, sv [47, 122], sv Z.2.head.tgt.query, .int .i64 Z.2.head.minor, .slice AF9 Z.2.head.flds.length cF9, .slice AB9 Z.2.body.length cB9, .bool Z.2.head.how.close, .bool Z.2.head.how.expect] 31)).c10
  have Lc := allocW (Below.refl w9.heap.size w9) (.cells #[sv Z.2.head.method, .int .i64 Z.2.head.tgt.form, sv Z.2.head.tgt.host, sv [47, 122], sv Z.2.head.tgt.query, .int .i64 Z.2.head.minor, .slice AF9 Z.2.head.flds.length cF9, .slice AB9 Z.2.body.length cB9, .bool Z.2.head.how.close, .bool Z.2.head.how.expect] 31)
  have Bd := Blk.new w9 31 #[sv Z.2.head.method, .int .i64 Z.2.head.tgt.form, sv Z.2.head.tgt.host, sv [47, 122], sv Z.2.head.tgt.query, .int .i64 Z.2.head.minor, .slice AF9 Z.2.head.flds.length cF9, .slice AB9 Z.2.body.length cB9, .bool Z.2.head.how.close, .bool Z.2.head.how.expect]
  have L10 := stepW L9 Lc
  have hq := law_same15 AB n cB b A n c b _ ((hr9.belowW (Nat.le_refl _) Lc).more Lc.size) ((hA4.belowW (Nat.le_refl _) L10).more L10.size) (by unfold maxLen; omega)
  rw [decide_eq_true rfl] at hq
  clear hT2' Bb Bc hr8' hr9 hAB7 hAB8 q7 q9 m8 m9
  go_wp2_with fail
  refine hq.mono ?_
  rintro e w10 ⟨rfl, L11⟩
  obtain ⟨⟨d0, d1, d2, d3, d4, d5, d6, d7, d8, d9⟩, -⟩ := (Bd.belowW L11).c10
  have L12 := stepW L10 L11
  clear a0 a1 a2 a3 a4 a5 a6 a7 a8 a9 hq
  go_wp2_with fail
  refine (law_known15 w10 (hm4.below L12 (Nat.le_refl _))).mono ?_
  rintro e w11 ⟨rfl, L13⟩
  go_wp2
  go_ret
  exact ⟨rfl, stepW (stepW L4 L12) L13⟩
end Go.Proofs.YtdajfajnkikmdaaGreatDoor

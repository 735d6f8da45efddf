/- The law ClientPosts. -/
import Derived.Test.YtbkakoboaophoaaGreatDoorTk15
import Derived.Test.YtbkakoboaophoaaGreatDoorPPl3
import Derived.Test.YtbkakoboaophoaaGreatDoorCPlain
namespace Go.Proofs.YtbkakoboaophoaaGreatDoor
open Go.RowKit
set_option maxRecDepth 100000
set_option maxHeartbeats 4000000

theorem cp_post (b : Bs) : postL [47, 101, 99, 104, 111] b [([88], [121])] = lnsL (cp1 :: cpLs b.length) ++ [13, 10] ++ b := by
  simp [postL, cheadL, hdrsL, hdrL, hostF, clF, lnsL, cpLs, cp1, cp2, cp4, poC]
theorem cp_feed (b b2 : Bs) (hb : b.length ≤ 1500) : pFeed p0 [lnsL (cp1 :: cpLs b.length) ++ [13, 10] ++ b, b2].flatten = ((lnsL (cp1 :: cpLs b.length) ++ [13, 10] ++ b).length, { p0 with phase := 3, head := cpH b.length, body := b, fed := b.length }) := by
  have h := (cp_of b.length hb).1.feed (b ++ b2)
  rw [rqP_feed] at h
  rw [show [lnsL (cp1 :: cpLs b.length) ++ [13, 10] ++ b, b2].flatten = lnsL (cp1 :: cpLs b.length) ++ 13 :: 10 :: (b ++ b2) by simp, h]
  simp only [List.length_append, List.length_cons, List.length_nil]
theorem cp_len (n : Nat) (hn : n ≤ 1500) : (lnsL (cp1 :: cpLs n)).length ≤ 1000 := by
  have h2 := (List.all_eq_true.1 cpB_all) n (List.mem_range.2 (by omega))
  unfold cpB lenB at h2
  simp only [Bool.and_eq_true] at h2
  obtain ⟨⟨⟨⟨⟨⟨⟨h3, -⟩, -⟩, -⟩, -⟩, -⟩, -⟩, -⟩ := h2
  have h4 : okLn (poC ++ digs 10 n) = true := by
    rw [List.all_eq_true] at h3
    exact h3 _ (by simp [cpLs])
  have h5 := (okLn_of h4).2
  have h6 : cp1.length = 19 := rfl
  have h7 : cp2.length = 11 := rfl
  have h8 : cp4.length = 4 := rfl
  rw [List.length_append] at h5
  simp [lnsL, cpLs]
  omega
theorem law_Posts (A1 : Option Addr) (n c1 : Nat) (b1 : Bs) (A2 : Option Addr) (n2 c2 : Nat) (b2 : Bs) (w : World) (hB1 : Rd w w.heap.size 1 A1 n (b1.map bv)) (hB2 : Rd w w.heap.size 1 A2 n2 (b2.map bv)) (hc2 : n2 ≤ c2) (hm : ML w) (ht : Tab10 w) :
    Calls Tryz.prog 3 #[.slice A1 n c1, .slice A2 n2 c2] w fun e w' => e = .returned (.bool true) ∧ Below w.heap.size w w' := by
  by_cases hb : 1500 < n
  · go_enter Tryz.func3, Tryz.ntmps3
    go_wp2
    go_ret
    exact ⟨rfl, Below.refl _ _⟩
  have hle : n ≤ 1500 := by omega
  clear hb
  by_cases hb : 100 < n2
  · go_enter Tryz.func3, Tryz.ntmps3
    go_wp2
    go_ret
    exact ⟨rfl, Below.refl _ _⟩
  have hle2 : n2 ≤ 100 := by omega
  clear hb
  have hbl : b1.length = n := by simpa using hB1.1
  have hb2l : b2.length = n2 := by simpa using hB2.1
  go_enter Tryz.func3, Tryz.ntmps3
  obtain ⟨k1, k2, k3, k4⟩ := cp_of n hle
  obtain ⟨H, hH⟩ : ∃ H, H = cpH n := ⟨_, rfl⟩
  have La := allocW (Below.refl w.heap.size w) (.cells #[.string ⟨#[88]⟩, .string ⟨#[121]⟩] 25)
  have hF : Rd (w.alloc (.cells #[.string ⟨#[88]⟩, .string ⟨#[121]⟩] 25)) (w.alloc (.cells #[.string ⟨#[88]⟩, .string ⟨#[121]⟩] 25)).heap.size 2 (some ⟨w.heap.size, 0, none⟩) 1 (fcells [([88], [121])]) := (Rd.new w w.heap.size rfl [sv [88], sv [121]] 25 1 2 rfl).more (by simp)
  have hC := cli_Post ⟨#[47, 101, 99, 104, 111]⟩ A1 n c1 b1 (some ⟨w.heap.size, 0, none⟩) 1 1 [([88], [121])] _ ((hB1.belowW (Nat.le_refl _) La).more La.size) hF (by decide) (by omega) (by decide) (tab_below ht La (Nat.le_refl _))
  have hPo := cp_post b1
  have hFd := cp_feed b1 b2 (by omega)
  rw [hbl] at hPo hFd
  rw [← hH] at hFd k2 k3 k4
  unfold CBytesPost at hC
  rw [show (ByteArray.mk #[47, 101, 99, 104, 111]).data.toList = [47, 101, 99, 104, 111] from rfl, hPo] at hC
  obtain ⟨Bx, hBx⟩ : ∃ Bx, Bx = lnsL (cp1 :: cpLs n) ++ [13, 10] ++ b1 := ⟨_, rfl⟩
  rw [← hBx] at hC hFd
  have hBl : Bx.length ≤ 100000 := by
    have h9 := cp_len n hle
    rw [hBx, List.length_append, List.length_append, hbl]
    simp only [List.length_cons, List.length_nil]
    omega
  have HFd := Lib.hid hFd
  clear hFd hPo hBx hH k1 hF
  go_wp2_with fail
  refine hC.mono ?_
  rintro e w1 ⟨A, N, c, rfl, hO, L1⟩
  have L1' := stepW La L1
  obtain ⟨hNc, -, hr⟩ := Own.rdS hO
  have hN : Bx.length = N := by have := hO.1; simpa using this
  have hNb : N ≤ 100000 := by omega
  have hm1 := hm.below L1' (Nat.le_refl _)
  clear hC hO
  go_wp2_with fail
  refine (prs_New w1).mono ?_
  rintro e w2 ⟨⟨g, S, rfl, q, hS⟩, L2⟩
  have hltS : ∀ i, S i → i < w2.heap.size := fun i hi => q.lt hi
  have L2' := stepW L1' L2
  have r1 : RdO w2 S A N (Bx.map bv) := ⟨(hr.belowW (Nat.le_refl _) L2).more L2.size, hr.off hS⟩
  have r2 : RdO w2 S A2 n2 (b2.map bv) := ⟨(hB2.below L2').more L2'.size, hB2.off (fun k hk => Nat.le_trans L1'.size (hS k hk))⟩
  have Lb := allocW (Below.refl w2.heap.size w2) (.cells #[.slice A N c, .slice A2 n2 c2] 22)
  have rp := RdP.two hltS w2.heap.size rfl 22 Bx b2 hN hb2l r1 r2 hNc hc2
  have hF2 := prs_FeedP g S p0 _ 2 2 _ _ (q.belowW Lb) p0_inv rp (by simp; omega) (by decide) ((hm1.below L2 (Nat.le_refl _)).below Lb (Nat.le_refl _)) (hi_of hm1 hS) (by decide)
  rw [HFd.out] at hF2
  unfold FeedP at hF2
  dsimp only at hF2
  rw [hN] at hF2
  clear rp r1 r2 q
  go_wp2_with fail
  refine hF2.mono ?_
  rintro e w3 ⟨rfl, hI3, S3, q3, m3⟩
  have hSw : ∀ k, S k → w.heap.size ≤ k := fun k hk => Nat.le_trans L1'.size (hS k hk)
  have L3 := moved_below m3 (stepW L2' Lb) hSw
  have hS3 := moved_hs m3 (Nat.le_trans L2'.size Lb.size) hSw
  have hT := prs_Take_yes g S3 _ w3 q3 rfl hI3
  unfold TakePost reqV at hT
  simp only [hbl, k2, k3] at hT
  clear hF2 q3
  go_wp2_with fail
  refine hT.mono ?_
  rintro e w4 ⟨AF, cF, AB, cB, rfl, hr1, -, hr2, -, S4, q4, m4, -⟩
  have L4 := moved_below m4 L3 hS3
  have Ra := allocW (Below.refl w4.heap.size w4) (.cells #[sv [80, 79, 83, 84], .int .i64 H.tgt.form, sv H.tgt.host, sv H.tgt.path, sv H.tgt.query, .int .i64 H.minor, .slice AF 3 cF, .slice AB n cB, .bool H.how.close, .bool H.how.expect] 33)
  have Ba := Blk.new w4 33 #[sv [80, 79, 83, 84], .int .i64 H.tgt.form, sv H.tgt.host, sv H.tgt.path, sv H.tgt.query, .int .i64 H.minor, .slice AF 3 cF, .slice AB n cB, .bool H.how.close, .bool H.how.expect]
  have L5 := stepW L4 Ra
  have hq := law_same26 AB n cB b1 A1 n c1 b1 _ ((hr2.belowW (Nat.le_refl _) Ra).more Ra.size) ((hB1.below L5).more L5.size) (by unfold maxLen; omega)
  rw [decide_eq_true rfl] at hq
  clear hT q4 hr2
  go_wp2_with fail
  refine hq.mono ?_
  rintro e w5 ⟨rfl, L6⟩
  obtain ⟨⟨a0, a1, a2, a3, a4, a5, a6, a7, a8, a9⟩, -⟩ := (Ba.belowW L6).c10
  have hr5 := (hr1.belowW (Nat.le_refl _) Ra).belowW Ra.size L6
  obtain ⟨bf, of', rfl, hbf, hxf⟩ := hr5.2 (by decide)
  have hx5 := hxf 5 _ (fcells_at H.flds 2 _ k4).2
  have hx5' : w5.cell? ⟨bf, of' + 4 + 1, none⟩ = some (sv [121]) := hx5
  have L7 := stepW L5 L6
  clear hxf hq
  go_wp2_with fail
  refine (law_known26 w5).mono ?_
  rintro e w6 ⟨rfl, L8⟩
  go_wp2
  go_ret
  exact ⟨rfl, stepW L7 L8⟩
end Go.Proofs.YtbkakoboaophoaaGreatDoor

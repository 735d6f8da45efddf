/- The law ParseLong. -/
import Derived.Test.YtdajfajnkikmdaaGreatDoorTk15
import Derived.Test.YtdajfajnkikmdaaGreatDoorPPl3
namespace Go.Proofs.YtdajfajnkikmdaaGreatDoor
open Go.RowKit
set_option maxRecDepth 100000
set_option maxHeartbeats 4000000

theorem Own.litM (w : World) (g : Nat) (hg : g = w.heap.size) (base : Nat) (hb : base ≤ g) (e : TypeId) (size n : Nat) (cs : List Value) (hs : cs.length = n * size) (hn : n ≤ maxLen) (fr : Nat × Nat) (hf : freeOf fr (n * size)) : Own (w.alloc (.cells cs.toArray e fr)) base e size (.slice (some ⟨g, 0, none⟩) n n) n cs :=
  ⟨hs, .inr ⟨g, n, cs.toArray, fr, rfl, hb, by subst hg; exact heap_alloc_new w _, hf, Nat.le_refl _, hn, by simp [hs], by rw [← hs]; simp⟩⟩
theorem law_Long0 (n : Nat) (w : World) (hn : n ≤ 400) (hm : ML w) :
    Calls Tryz.prog 5 #[.int .i64 (n : Int), .bool false] w fun e w' => e = .returned (.bool true) ∧ Below w.heap.size w w' := by
  have kc := fun (w : World) (C : Array Value) (n c g : Nat) (hg : g = w.heap.size) => Go.Joins.run_convert_bytes_const_at (P := Tryz.prog) w 22 5 C n c g hg Tryz.underlying22 Tryz.underlying5
  have o0 : OB (w.alloc (.cells #[.int .u8 71, .int .u8 69, .int .u8 84, .int .u8 32, .int .u8 47] 5 (5, 6))) w.heap.size (.slice (some ⟨w.heap.size, 0, none⟩) 5 5) lg0 := Own.litM w _ rfl _ (Nat.le_refl _) _ 1 5 (lg0.map bv) rfl (by decide) (5, 6) (.inr (by decide))
  have L0 := allocW (Below.refl w.heap.size w) (.cells #[.int .u8 71, .int .u8 69, .int .u8 84, .int .u8 32, .int .u8 47] 5 (5, 6))
  obtain ⟨g1, g2, g3, g4⟩ := lg0_feed
  have hP0i := pFeed_inv lg0 p0 p0_inv
  obtain ⟨P0, hP0⟩ : ∃ P, P = (pFeed p0 lg0).2 := ⟨_, rfl⟩
  rw [← hP0] at g2 g3 g4 hP0i
  have HB := Lib.hid (show pFeed p0 (lg0 ++ List.replicate n 98 ++ [13]) = (5 + (pFeed P0 (List.replicate n 98 ++ [13])).1, (pFeed P0 (List.replicate n 98 ++ [13])).2) by rw [List.append_assoc, pFeed_app, g1, ← hP0])
  have HS := Lib.hid (pFeed_bs P0 n g2 (by omega))
  have H0 := Lib.hid (hP0i.st (by omega))
  have G2 := Lib.hid g2
  have G3 := Lib.hid g3
  have G4 := Lib.hid g4
  clear g1 g2 g3 g4 hP0 hP0i
  go_enter Tryz.func5, Tryz.ntmps5
  go_wp2
  go_loopw [5, 8] (fun v i wr => ∃ k : Nat, k ≤ n ∧ i = .int .i64 k ∧ OB wr w.heap.size v (lg0 ++ List.replicate k 98) ∧ Below w.heap.size w wr) (fun _ i _ => n - (intOf i).toNat)
  case atStart => exact ⟨0, Nat.zero_le _, rfl, by simpa using o0, L0⟩
  case round =>
    obtain ⟨k, hk, rfl, ho, L⟩ := hrel
    have hlen : (lg0 ++ List.replicate k 98).length = 5 + k := by simp [lg0]; omega
    by_cases hlt : k < n
    · obtain ⟨A, c, rfl, -, -, -⟩ := ho.form
      rw [hlen] at ho ⊢
      clear hlen
      go_wp2_with (at_builtin; refine wp_app1 rfl _ _ rfl w.heap.size (.slice A (5 + k) c) _ rfl ho _ rfl _ rfl 98 rfl (by rw [List.length_append, List.length_replicate]; unfold lg0; simp only [List.length_cons, List.length_nil]; omega) L.size ?_; intro v' w2 ho2 hx; have L2 := hx.below ho (Nat.le_refl _) L.size)
      go_roundw
      case rel => exact ⟨k + 1, by omega, by go_num, by rw [List.append_assoc, ← List.replicate_succ'] at ho2; exact ho2, L.trans L2⟩
      case measure => simp [intOf]; omega
    · obtain rfl : k = n := by omega
      obtain ⟨A, c, rfl, hc1, -, hr⟩ := ho.form
      rw [hlen] at hc1 hr ho ⊢
      obtain ⟨B, hB⟩ : ∃ B, B = lg0 ++ List.replicate k 98 := ⟨_, rfl⟩
      have HBB := Lib.hid hB
      rw [← hB] at hr ho hlen
      have hmr := hm.below L (Nat.le_refl _)
      clear hB o0 L0
      go_wp2_with fail
      refine (prs_New wr).mono ?_
      rintro e w1 ⟨⟨g, S, rfl, q, hS⟩, L1⟩
      have hltS : ∀ i, S i → i < w1.heap.size := fun i hi => q.lt hi
      have hO : RdO w1 S A (5 + k) (B.map bv) := ⟨(hr.belowW (Nat.le_refl _) L1).more L1.size, fun h0 a ha hs => by
        have h1 := Own.lt2 ho (Own.blkOf (by rw [← hlen] at ho ⊢; exact ho) h0 a ha)
        have h2 := hS _ hs
        omega⟩
      have La := allocW (Below.refl w1.heap.size w1) (.cells #[.int .u8 13] 5)
      have Lb := allocW La (.cells #[.slice A (5 + k) c, .slice (some ⟨w1.heap.size, 0, none⟩) 1 1] 22)
      have rb : RdO (w1.alloc (.cells #[.int .u8 13] 5)) S (some ⟨w1.heap.size, 0, none⟩) 1 (([13] : Bs).map bv) := RdO.lit hltS _ rfl (([13] : Bs).map bv) _ (0, 0) 1 rfl
      have rc := RdP.two (fun i hi => Nat.lt_of_lt_of_le (hltS i hi) La.size) (w1.heap.size + 1) (by simp) 22 B [13] hlen rfl (hO.belowW La) rb hc1 (Nat.le_refl 1)
      have hC := prs_FeedP g S p0 _ 2 2 [B, [13]] _ (q.belowW Lb) p0_inv rc (by simp; omega) (by decide) ((hmr.below L1 (Nat.le_refl _)).below Lb (Nat.le_refl _)) (hi_of hmr hS) (by decide)
      rw [show [B, [13]].flatten = B ++ [13] by simp, HBB.out, HB.out, HS.out] at hC
      by_cases h : 256 < 5 + k
      · rw [if_neg (by rw [G3.out]; omega), G3.out, G4.out] at hC
        have h' : (256 : Int) < 5 + (k : Int) := by omega
        unfold FeedP at hC
        clear rb rc hO hr ho La HBB hlen
        go_wp2_with fail
        refine hC.mono ?_
        rintro e w3 ⟨rfl, hI3, S3, q3, m3⟩
        have L3 := moved_below m3 (stepW (stepW L L1) Lb) (fun i hi => Nat.le_trans L.size (hS i hi))
        have hPh : Calls Tryz.prog 22 #[.pointer (some ⟨g, 0, none⟩)] w3 fun e w' => e = .returned (.int .i64 4) ∧ w3 = w' := prs_Phase g S3 _ w3 q3
        have hSt : Calls Tryz.prog 23 #[.pointer (some ⟨g, 0, none⟩)] w3 fun e w' => e = .returned (.int .i64 414) ∧ w3 = w' := prs_Status g S3 _ w3 q3
        clear hC q3 hI3
        go_wp2_with fail
        refine hPh.mono ?_
        rintro e w4 ⟨rfl, rfl⟩
        go_wp2_with fail
        refine hSt.mono ?_
        rintro e w4 ⟨rfl, rfl⟩
        go_wp2_with fail
        refine (law_known15 w3 (hm.below L3 (Nat.le_refl _))).mono ?_
        rintro e w5 ⟨rfl, L5⟩
        go_wp2
        go_ret
        exact ⟨rfl, stepW L3 L5⟩
      · rw [if_pos (by rw [G3.out]; omega)] at hC
        have h' : ¬ (256 : Int) < 5 + (k : Int) := by omega
        unfold FeedP at hC
        clear rb rc hO hr ho La HBB hlen
        go_wp2_with fail
        refine hC.mono ?_
        rintro e w3 ⟨rfl, hI3, S3, q3, m3⟩
        have L3 := moved_below m3 (stepW (stepW L L1) Lb) (fun i hi => Nat.le_trans L.size (hS i hi))
        have hPh := prs_Phase g S3 _ w3 q3
        have hSt := prs_Status g S3 _ w3 q3
        simp only [G2.out, H0.out] at hPh hSt
        clear hC q3 hI3
        go_wp2_with fail
        refine hPh.mono ?_
        rintro e w4 ⟨rfl, rfl⟩
        go_wp2_with fail
        refine hSt.mono ?_
        rintro e w4 ⟨rfl, rfl⟩
        go_wp2_with fail
        refine (law_known15 w3 (hm.below L3 (Nat.le_refl _))).mono ?_
        rintro e w5 ⟨rfl, L5⟩
        go_wp2
        go_ret
        exact ⟨rfl, stepW L3 L5⟩
theorem law_Long1 (n : Nat) (w : World) (hn : n ≤ 400) (hm : ML w) :
    Calls Tryz.prog 5 #[.int .i64 (n : Int), .bool true] w fun e w' => e = .returned (.bool true) ∧ Below w.heap.size w w' := by
  have kc := fun (w : World) (C : Array Value) (n c g : Nat) (hg : g = w.heap.size) => Go.Joins.run_convert_bytes_const_at (P := Tryz.prog) w 22 5 C n c g hg Tryz.underlying22 Tryz.underlying5
  have o0 : OB ((w.alloc (.cells #[.int .u8 71, .int .u8 69, .int .u8 84, .int .u8 32, .int .u8 47] 5 (5, 6))).alloc (.cells #[.int .u8 71, .int .u8 69, .int .u8 84, .int .u8 32, .int .u8 47, .int .u8 32, .int .u8 72, .int .u8 84, .int .u8 84, .int .u8 80, .int .u8 47, .int .u8 49, .int .u8 46, .int .u8 49, .int .u8 13, .int .u8 10, .int .u8 72, .int .u8 111, .int .u8 115, .int .u8 116, .int .u8 58, .int .u8 32, .int .u8 97, .int .u8 13, .int .u8 10, .int .u8 97, .int .u8 58] 5 (27, 28))) w.heap.size (.slice (some ⟨w.heap.size + 1, 0, none⟩) 27 27) lg1 := Own.litM (w.alloc (.cells #[.int .u8 71, .int .u8 69, .int .u8 84, .int .u8 32, .int .u8 47] 5 (5, 6))) _ (by simp) _ (Nat.le_succ _) _ 1 27 (lg1.map bv) rfl (by decide) (27, 28) (.inr (by decide))
  have L0 := allocW (allocW (Below.refl w.heap.size w) (.cells #[.int .u8 71, .int .u8 69, .int .u8 84, .int .u8 32, .int .u8 47] 5 (5, 6))) (.cells #[.int .u8 71, .int .u8 69, .int .u8 84, .int .u8 32, .int .u8 47, .int .u8 32, .int .u8 72, .int .u8 84, .int .u8 84, .int .u8 80, .int .u8 47, .int .u8 49, .int .u8 46, .int .u8 49, .int .u8 13, .int .u8 10, .int .u8 72, .int .u8 111, .int .u8 115, .int .u8 116, .int .u8 58, .int .u8 32, .int .u8 97, .int .u8 13, .int .u8 10, .int .u8 97, .int .u8 58] 5 (27, 28))
  obtain ⟨g1, g2, g3, g4⟩ := lg1_feed
  have hP0i := pFeed_inv lg1 p0 p0_inv
  obtain ⟨P0, hP0⟩ : ∃ P, P = (pFeed p0 lg1).2 := ⟨_, rfl⟩
  rw [← hP0] at g2 g3 g4 hP0i
  have HB := Lib.hid (show pFeed p0 (lg1 ++ List.replicate n 98 ++ [13]) = (27 + (pFeed P0 (List.replicate n 98 ++ [13])).1, (pFeed P0 (List.replicate n 98 ++ [13])).2) by rw [List.append_assoc, pFeed_app, g1, ← hP0])
  have HS := Lib.hid (pFeed_bs P0 n g2 (by omega))
  have H0 := Lib.hid (hP0i.st (by omega))
  have G2 := Lib.hid g2
  have G3 := Lib.hid g3
  have G4 := Lib.hid g4
  clear g1 g2 g3 g4 hP0 hP0i
  go_enter Tryz.func5, Tryz.ntmps5
  go_wp2
  go_loopw [5, 8] (fun v i wr => ∃ k : Nat, k ≤ n ∧ i = .int .i64 k ∧ OB wr w.heap.size v (lg1 ++ List.replicate k 98) ∧ Below w.heap.size w wr) (fun _ i _ => n - (intOf i).toNat)
  case atStart => exact ⟨0, Nat.zero_le _, rfl, by simpa using o0, L0⟩
  case round =>
    obtain ⟨k, hk, rfl, ho, L⟩ := hrel
    have hlen : (lg1 ++ List.replicate k 98).length = 27 + k := by simp [lg1]; omega
    by_cases hlt : k < n
    · obtain ⟨A, c, rfl, -, -, -⟩ := ho.form
      rw [hlen] at ho ⊢
      clear hlen
      go_wp2_with (at_builtin; refine wp_app1 rfl _ _ rfl w.heap.size (.slice A (27 + k) c) _ rfl ho _ rfl _ rfl 98 rfl (by rw [List.length_append, List.length_replicate]; unfold lg1; simp only [List.length_cons, List.length_nil]; omega) L.size ?_; intro v' w2 ho2 hx; have L2 := hx.below ho (Nat.le_refl _) L.size)
      go_roundw
      case rel => exact ⟨k + 1, by omega, by go_num, by rw [List.append_assoc, ← List.replicate_succ'] at ho2; exact ho2, L.trans L2⟩
      case measure => simp [intOf]; omega
    · obtain rfl : k = n := by omega
      obtain ⟨A, c, rfl, hc1, -, hr⟩ := ho.form
      rw [hlen] at hc1 hr ho ⊢
      obtain ⟨B, hB⟩ : ∃ B, B = lg1 ++ List.replicate k 98 := ⟨_, rfl⟩
      have HBB := Lib.hid hB
      rw [← hB] at hr ho hlen
      have hmr := hm.below L (Nat.le_refl _)
      clear hB o0 L0
      go_wp2_with fail
      refine (prs_New wr).mono ?_
      rintro e w1 ⟨⟨g, S, rfl, q, hS⟩, L1⟩
      have hltS : ∀ i, S i → i < w1.heap.size := fun i hi => q.lt hi
      have hO : RdO w1 S A (27 + k) (B.map bv) := ⟨(hr.belowW (Nat.le_refl _) L1).more L1.size, fun h0 a ha hs => by
        have h1 := Own.lt2 ho (Own.blkOf (by rw [← hlen] at ho ⊢; exact ho) h0 a ha)
        have h2 := hS _ hs
        omega⟩
      have La := allocW (Below.refl w1.heap.size w1) (.cells #[.int .u8 13] 5)
      have Lb := allocW La (.cells #[.slice A (27 + k) c, .slice (some ⟨w1.heap.size, 0, none⟩) 1 1] 22)
      have rb : RdO (w1.alloc (.cells #[.int .u8 13] 5)) S (some ⟨w1.heap.size, 0, none⟩) 1 (([13] : Bs).map bv) := RdO.lit hltS _ rfl (([13] : Bs).map bv) _ (0, 0) 1 rfl
      have rc := RdP.two (fun i hi => Nat.lt_of_lt_of_le (hltS i hi) La.size) (w1.heap.size + 1) (by simp) 22 B [13] hlen rfl (hO.belowW La) rb hc1 (Nat.le_refl 1)
      have hC := prs_FeedP g S p0 _ 2 2 [B, [13]] _ (q.belowW Lb) p0_inv rc (by simp; omega) (by decide) ((hmr.below L1 (Nat.le_refl _)).below Lb (Nat.le_refl _)) (hi_of hmr hS) (by decide)
      rw [show [B, [13]].flatten = B ++ [13] by simp, HBB.out, HB.out, HS.out] at hC
      by_cases h : 256 < 2 + k
      · rw [if_neg (by rw [G3.out]; omega), G3.out, G4.out] at hC
        have h' : (256 : Int) < 2 + (k : Int) := by omega
        unfold FeedP at hC
        clear rb rc hO hr ho La HBB hlen
        go_wp2_with fail
        refine hC.mono ?_
        rintro e w3 ⟨rfl, hI3, S3, q3, m3⟩
        have L3 := moved_below m3 (stepW (stepW L L1) Lb) (fun i hi => Nat.le_trans L.size (hS i hi))
        have hPh : Calls Tryz.prog 22 #[.pointer (some ⟨g, 0, none⟩)] w3 fun e w' => e = .returned (.int .i64 4) ∧ w3 = w' := prs_Phase g S3 _ w3 q3
        have hSt : Calls Tryz.prog 23 #[.pointer (some ⟨g, 0, none⟩)] w3 fun e w' => e = .returned (.int .i64 431) ∧ w3 = w' := prs_Status g S3 _ w3 q3
        clear hC q3 hI3
        go_wp2_with fail
        refine hPh.mono ?_
        rintro e w4 ⟨rfl, rfl⟩
        go_wp2_with fail
        refine hSt.mono ?_
        rintro e w4 ⟨rfl, rfl⟩
        go_wp2_with fail
        refine (law_known15 w3 (hm.below L3 (Nat.le_refl _))).mono ?_
        rintro e w5 ⟨rfl, L5⟩
        go_wp2
        go_ret
        exact ⟨rfl, stepW L3 L5⟩
      · rw [if_pos (by rw [G3.out]; omega)] at hC
        have h' : ¬ (256 : Int) < 2 + (k : Int) := by omega
        unfold FeedP at hC
        clear rb rc hO hr ho La HBB hlen
        go_wp2_with fail
        refine hC.mono ?_
        rintro e w3 ⟨rfl, hI3, S3, q3, m3⟩
        have L3 := moved_below m3 (stepW (stepW L L1) Lb) (fun i hi => Nat.le_trans L.size (hS i hi))
        have hPh := prs_Phase g S3 _ w3 q3
        have hSt := prs_Status g S3 _ w3 q3
        simp only [G2.out, H0.out] at hPh hSt
        clear hC q3 hI3
        go_wp2_with fail
        refine hPh.mono ?_
        rintro e w4 ⟨rfl, rfl⟩
        go_wp2_with fail
        refine hSt.mono ?_
        rintro e w4 ⟨rfl, rfl⟩
        go_wp2_with fail
        refine (law_known15 w3 (hm.below L3 (Nat.le_refl _))).mono ?_
        rintro e w5 ⟨rfl, L5⟩
        go_wp2
        go_ret
        exact ⟨rfl, stepW L3 L5⟩
theorem law_Long15 (n : Int) (fld : Bool) (w : World) (hm : ML w) :
    Calls Tryz.prog 5 #[.int .i64 n, .bool fld] w fun e w' => e = .returned (.bool true) ∧ Below w.heap.size w w' := by
  by_cases h : n < 0 ∨ 400 < n
  · rcases h with h | h
    · go_enter Tryz.func5, Tryz.ntmps5
      go_wp2_with fail
      refine (law_known15 w hm).mono ?_
      rintro e w5 ⟨rfl, L5⟩
      go_wp2
      go_ret
      exact ⟨rfl, L5⟩
    · have h' : ¬ n < 0 := by omega
      go_enter Tryz.func5, Tryz.ntmps5
      go_wp2_with fail
      refine (law_known15 w hm).mono ?_
      rintro e w5 ⟨rfl, L5⟩
      go_wp2
      go_ret
      exact ⟨rfl, L5⟩
  · obtain ⟨m, rfl⟩ : ∃ m : Nat, n = (m : Int) := ⟨n.toNat, by omega⟩
    cases fld
    · exact law_Long0 m w (by omega) hm
    · exact law_Long1 m w (by omega) hm
end Go.Proofs.YtdajfajnkikmdaaGreatDoor

/- The law ChunkMost. -/
import Derived.Test.YtfapnppgbhlidaaDoorKLaw
import Derived.Test.YtfapnppgbhlidaaDoorRowB
import Derived.Lib.MakeNoZero
namespace Go.Proofs.YtfapnppgbhlidaaDoor
open Go.RowKit
set_option maxRecDepth 100000
set_option maxHeartbeats 4000000

theorem mk_rd {w1 : World} {base g k : Nat} (h : w1.ownsRow base 5 1 (.slice (some ⟨g, 0, none⟩) k k) k (madeCells (Value.int IntKind.u8 0).cells (k * 1)).toList) :
    Rd w1 w1.heap.size 1 (some ⟨g, 0, none⟩) (List.replicate k (0 : UInt8)).length ((List.replicate k (0 : UInt8)).map bv) := by
  have h2 := Own.of h
  rw [show (Value.int IntKind.u8 0).cells = #[Value.int .u8 0] from rfl, Nat.mul_one, toList_madeCells_one] at h2
  have h3 := h2.rdS.2.2
  rw [List.length_replicate, List.map_replicate]
  exact h3
theorem law_Most (n s : Int) (w : World) (hm : ML w) (ht : TZ w) :
    Calls Tryd.prog 3 #[.int .i64 n, .int .i64 s] w fun e w' => e = .returned (.bool true) ∧ Below w.heap.size w w' := by
  by_cases hbad : n < 0 ∨ 2200 < n ∨ s < 1 ∨ 300 < s
  · have hcase : n < 0 ∨ (¬ n < 0 ∧ 2200 < n) ∨ (¬ n < 0 ∧ ¬ 2200 < n ∧ s < 1) ∨ (¬ n < 0 ∧ ¬ 2200 < n ∧ ¬ s < 1 ∧ 300 < s) := by omega
    clear hbad
    rcases hcase with h1 | ⟨h1, h2⟩ | ⟨h1, h2, h3⟩ | ⟨h1, h2, h3, h4⟩
    all_goals
      go_enter Tryd.func3, Tryd.ntmps3
      go_wp2_with fail
      refine (law_known14 w hm ht).mono ?_
      rintro e w1 ⟨rfl, L⟩
      go_wp2
      go_ret
      exact ⟨rfl, L⟩
  obtain ⟨N, rfl⟩ : ∃ N : Nat, n = N := ⟨n.toNat, by omega⟩
  obtain ⟨z, rfl⟩ : ∃ z : Nat, s = z := ⟨s.toNat, by omega⟩
  have b1 : N ≤ 2200 := by omega
  have b2 : 1 ≤ z := by omega
  have b3 : z ≤ 300 := by omega
  clear hbad
  obtain ⟨i8, hi8, hz0, hz1, hz2⟩ := info_parts info_u8
  go_enter Tryd.func3, Tryd.ntmps3
  go_wp2
  go_loopw [5, 6] (fun v l wr => ∃ (ps : List Bs) (m : Int), l = .int .i64 m ∧ OPs wr w.heap.size v ps ∧ m ≤ N ∧ -300 ≤ m ∧ ps.flatten.length + m.toNat = N ∧ (∀ p ∈ ps, p.length ≤ 300) ∧ ps.length + m.toNat ≤ N ∧ Below w.heap.size w wr) (fun _ l _ => (intOf l).toNat)
  case atStart => exact ⟨[], N, rfl, OPs.nil _ _, Int.le_refl _, by omega, by simp, by simp, by simp, Below.refl _ _⟩
  case round =>
    obtain ⟨ps, m, rfl, ho, hmN, hm0, hfl, hsz, hct, L⟩ := hrel
    have hS := L.size
    by_cases hpos : 0 < m
    · obtain ⟨M, rfl⟩ : ∃ M : Nat, m = M := ⟨m.toNat, by omega⟩
      rw [Int.toNat_natCast] at hfl hct
      have hk1 : 1 ≤ min M z := by omega
      have hk3 : min M z ≤ 300 := by omega
      go_wp2_with (first
        | (at_make; refine wpList_make_full _ rfl _ _ 24 rfl w.heap.size 5 i8 (.int .u8 0) 1 Tryd.underlying24 hi8 hz0 hz1 .i64 .i64 _ _ (min M z) rfl rfl (by omega) (by omega) (by rw [hz2]; omega) (by unfold maxLen; omega) hS ?_; intro w1 hown hg; have hb1 : Below wr.heap.size wr w1 := below_of_none hg; have ho1 := ho.belowW hb1; have L1 := stepW L hb1; have hS1 := L1.size; have hz : Rd w1 w1.heap.size 1 (some ⟨wr.heap.size, 0, none⟩) (List.replicate (min M z) (0 : UInt8)).length ((List.replicate (min M z) (0 : UInt8)).map bv) := mk_rd hown)
        | (at_builtin; refine wp_appPs rfl _ _ rfl w.heap.size _ ps rfl ho1 _ rfl (some ⟨wr.heap.size, 0, none⟩) (min M z) (min M z) (List.replicate (min M z) 0) (by simp) rfl hz (fun _ b hb hv => by injection hb with hb; subst hb; exact absurd (ho.lt hv) (Nat.lt_irrefl _)) (by omega) hS1 ?_; intro v2 w2 ho2 hx2))
      go_roundw
      case rel =>
        refine ⟨_, (M : Int) - z, rfl, ho2, by omega, by omega, ?_, ?_, ?_, ?_⟩
        · have e : (ps ++ [List.replicate (min M z) (0 : UInt8)]).flatten.length = ps.flatten.length + min M z := by rw [List.flatten_append, List.length_append]; simp
          rw [e]; omega
        · intro p hp
          rcases List.mem_append.1 hp with hp | hp
          · exact hsz p hp
          · rw [List.mem_singleton] at hp; subst hp; simp; omega
        · simp; omega
        · exact L1.trans (ho1.ext hx2 hS1)
      case measure => simp [intOf]; omega
    · have hfl2 : ps.flatten.length = N := by omega
      obtain ⟨Ap, cp, rfl, hrs⟩ := ho.form
      have hbig : ∀ p ∈ ps, p.length < 16777216 := fun p hp => Nat.lt_of_le_of_lt (hsz p hp) (by decide)
      have hT : (ps.flatMap encP).length ≤ 100000 := by have := flat_len ps hbig; omega
      have hm1 := hm.below L (Nat.le_refl _)
      have ht1 := ht.below L (Nat.le_refl _)
      clear hfl hmN hm0 ho
      go_wp2_with fail
      refine (chk_New wr).mono ?_
      rintro e w1 ⟨g, S, rfl, hK, hSS, L1⟩
      have L2 := stepW L L1
      have hm2 := hm1.below L1 (Nat.le_refl _)
      go_wp2_with fail
      refine (chk_Encode Ap ps.length cp _ ps w1 (hrs.below L1) L1.size (Nat.le_trans hT (by decide)) (by omega) (ht1.below L1 (Nat.le_refl _))).mono ?_
      rintro e w2 ⟨v2, rfl, ho2, L3⟩
      have hm3 := hm2.below L3 (Nat.le_refl _)
      have hK2 := hK.belowW L3
      have L4 := stepW L2 L3
      obtain ⟨A2, c2, rfl, -, -, hr2⟩ := ho2.form
      have hE := enc_ok ps [] hbig
      have hE2 := enc_big ps [] hbig
      rw [List.append_nil] at hE hE2
      have hne2 := OB.apart ho2 fun k hk => hK.lt hk
      have HEl := Lib.hid (show (encL ps).length ≤ 1000000 by rw [encL_len ps]; omega)
      have hI := cFeed_inv (encL ps) cs0 cs0_inv
      clear hrs ho2
      go_wp2_with fail
      refine (chk_Feed g S cs0 A2 _ c2 _ (encL ps) w2 hK2 cs0_inv hr2 (Nat.le_refl _) hne2 HEl.out hm3 (hi_of hm1 hSS)).mono ?_
      rintro e w3 ⟨rfl, S3, hK3, hM3⟩
      have L5 := moved_below hM3 L4 (fun k hk => Nat.le_trans hS (hSS k hk))
      have hm4 := hm.below L5 (Nat.le_refl _)
      have ht4 := ht.below L5 (Nat.le_refl _)
      clear hM3 hK2 hK hr2 hne2 hSS hm3 hm2 hm1 ht1
      by_cases hmost : 2048 < N
      · obtain ⟨h1, h2⟩ := hE2 (by omega)
        clear hE hE2
        rw [h1, h2]
        go_wp2_with fail
        refine (law_known14 w3 hm4 ht4).mono ?_
        rintro e w4 ⟨rfl, L6⟩
        go_wp2
        go_ret
        exact ⟨rfl, stepW L5 L6⟩
      · have hle : N ≤ 2048 := by omega
        obtain ⟨k, hk⟩ := hE (by omega)
        rw [hk] at hK3 hI ⊢
        clear hE hE2 hk hmost
        go_wp2_with fail
        refine (chk_Body g S3 _ w3 hK3 hI).mono ?_
        rintro e w4 ⟨v4, rfl, ho4, L6⟩
        obtain ⟨A4, c4, rfl, -, -, hr4⟩ := ho4.form
        rw [hfl2]
        have L7 := stepW L5 L6
        clear ho4 hr4
        go_wp2_with fail
        refine (law_known14 w4 (hm4.below L6 (Nat.le_refl _)) (ht4.below L6 (Nat.le_refl _))).mono ?_
        rintro e w5 ⟨rfl, L8⟩
        go_wp2
        go_ret
        exact ⟨rfl, stepW L7 L8⟩
end Go.Proofs.YtfapnppgbhlidaaDoor

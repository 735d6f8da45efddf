/- The law ChunkFeeds. -/
import Derived.Test.YtfapnppgbhlidaaGreatDoorKLaw
import Derived.Test.YtfapnppgbhlidaaGreatDoorRKon4
import Derived.Deep.DeepCutAuto
import Derived.Deep.RegionHeld3
namespace Go.Proofs.YtfapnppgbhlidaaGreatDoor
open Go.RowKit
set_option maxRecDepth 100000
set_option maxHeartbeats 4000000

theorem i64_and65535 (n : Int) : bits .and .i64 n 65535 = n % 65536 := by
  have h : (BitVec.ofInt 64 65535).toNat = 2 ^ 16 - 1 := by decide
  have key : (BitVec.ofInt 64 n &&& BitVec.ofInt 64 65535).toNat = (n % ((2 ^ 64 : Nat) : Int)).toNat % 2 ^ 16 := by
    rw [BitVec.toNat_and, BitVec.toNat_ofInt, h, Nat.and_two_pow_sub_one_eq_mod]
  show IntKind.i64.wrap ((BitVec.ofInt 64 n &&& BitVec.ofInt 64 65535).toNat : Nat) = n % 65536
  rw [key, IntKind.wrap_i64]
  omega
theorem xr_new (w : World) : XR (w.alloc (.cells #[.slice none 0 0, .slice none 0 0, .bool false, .int .i64 0, .int .i64 0, .slice none 0 0, .int .i64 0, .int .i64 0] 28)) w.heap.size (foot w.heap.size (.slice none 0 0) (.slice none 0 0) (.slice none 0 0)) cs0 :=
  ⟨_, _, _, rfl, ⟨Blk.new' _ _ rfl _ _, OB.nil _ _, OB.nil _ _, OF.nil _ _, by simp [Value.ownBlock], by simp [Value.ownBlock], by simp [Value.ownBlock], by simp [Value.ownBlock], by simp [Value.ownBlock], by simp [Value.ownBlock]⟩⟩
theorem law_same14_eq (A1 : Option Addr) (n1 c1 : Nat) (l : Bs) (A2 : Option Addr) (n2 c2 : Nat) (w : World) (h1 : Rd w w.heap.size 1 A1 n1 (l.map bv)) (h2 : Rd w w.heap.size 1 A2 n2 (l.map bv)) (hn : n1 ≤ maxLen) :
    Calls Tryz.prog 13 #[.slice A1 n1 c1, .slice A2 n2 c2] w fun e w' => e = .returned (.bool true) ∧ Below w.heap.size w w' := by
  have h := law_same14 A1 n1 c1 l A2 n2 c2 l w h1 h2 hn
  rw [decide_eq_true rfl] at h
  exact h
theorem law_fields14_eq (A1 : Option Addr) (n1 c1 : Nat) (l : List Fd) (A2 : Option Addr) (n2 c2 : Nat) (w : World) (h1 : Rd w w.heap.size 2 A1 n1 (fcells l)) (h2 : Rd w w.heap.size 2 A2 n2 (fcells l)) (hn : n1 ≤ maxLen) :
    Calls Tryz.prog 15 #[.slice A1 n1 c1, .slice A2 n2 c2] w fun e w' => e = .returned (.bool true) ∧ Below w.heap.size w w' := by
  have h := law_fields14 A1 n1 c1 l A2 n2 c2 l w h1 h2 hn
  rw [decide_eq_true rfl] at h
  exact h
theorem law_roomyN (A : Option Addr) (n c : Nat) (b : Bs) (w : World) (hB : Rd w w.heap.size 1 A n (b.map bv)) (hn : n ≤ 100000) :
    Calls Tryz.prog 10 #[.slice A n c] w fun e w' => (∃ A' c', e = .returned (.slice A' (n + 1) c') ∧ n + 1 ≤ c' ∧ (∀ a, A' = some a → w.heap.size ≤ a.block) ∧ Rd w' w'.heap.size 1 A' (n + 1) ((b ++ [171]).map bv)) ∧ Below w.heap.size w w' := by
  obtain ⟨i8, hi8, hy0, hy1, hy2⟩ := info_parts info_u8
  go_enter Tryz.func10, Tryz.ntmps10
  go_wp2_with (first
    | (at_builtin
       refine wpList_append_Own _ rfl (.tmp 3) (.tmp 4) 22 22 rfl w.heap.size 5 i8 _ 1 1 Tryz.underlying22 (.inl Tryz.underlying22) hi8 hy0 hy1 hy2 rfl (by decide) (.slice (some ⟨w.heap.size, 0, none⟩) 0 0) 0 [] rfl (Own.lit _ _ rfl _ (Nat.le_refl _) _ 1 0 [] rfl (by decide)) _ n (b.map bv) rfl (Src.of_rd (hB.alloc (Nat.le_refl _) _) (by intro u hu; obtain ⟨x, -, rfl⟩ := List.mem_map.1 hu; rfl)) (by unfold maxLen; omega) (by omega) (by simp) ?_
       intro v1 w1 ho1 hg1 hat1
       obtain ⟨A1, c1, hv1, n1, m1, r1, q1⟩ := ho1.rd
       subst hv1
       have ho1 : Own w1 w.heap.size 5 1 (.slice A1 n c1) n (b.map bv) := by simpa using ho1
       have L1 : Below w.heap.size w w1 := growW (allocW (Below.refl w.heap.size w) _) hg1 (fun j hj => by cases hj; exact Nat.le_refl _))
    | (at_builtin
       refine wpList_append_Own _ rfl (.tmp 5) (.tmp 6) 22 22 rfl w.heap.size 5 i8 _ 1 1 Tryz.underlying22 (.inl Tryz.underlying22) hi8 hy0 hy1 hy2 rfl (by decide) (.slice A1 n c1) n _ rfl (ho1.alloc _) _ 1 ([171].map bv) rfl (Src.of_rd (Rd.new w1 _ rfl [.int .u8 171] _ 1 1 rfl) (by intro u hu; obtain ⟨x, -, rfl⟩ := List.mem_map.1 hu; rfl)) (by unfold maxLen; omega) (by omega) (by have := L1.size; simp; omega) ?_
       intro v2 w2 ho2 hg2 hat2
       obtain ⟨A2, c2, hv2, n2, m2, r2, q2⟩ := ho2.rd
       subst hv2
       have L2 : Below w.heap.size w w2 := growW (allocW L1 _) hg2 (fun j hj => (ho1.lt j hj).1))
    | (at_builtin
       refine wpList_append_Own _ rfl (.tmp 7) (.tmp 8) 22 22 rfl w.heap.size 5 i8 _ 1 1 Tryz.underlying22 (.inl Tryz.underlying22) hi8 hy0 hy1 hy2 rfl (by decide) (.slice A2 (n + 1) c2) (n + 1) _ rfl (ho2.alloc _) _ 1 ([171].map bv) rfl (Src.of_rd (Rd.new w2 _ rfl [.int .u8 171] _ 1 1 rfl) (by intro u hu; obtain ⟨x, -, rfl⟩ := List.mem_map.1 hu; rfl)) (by unfold maxLen; omega) (by omega) (by have := L2.size; simp; omega) ?_
       intro v3 w3 ho3 hg3 hat3
       obtain ⟨A3, c3, hv3, n3, m3, r3, q3⟩ := ho3.rd
       subst hv3
       have L3 : Below w.heap.size w w3 := growW (allocW L2 _) hg3 (fun j hj => (ho2.lt j hj).1)))
  go_ret
  refine ⟨⟨A3, c3, rfl, by omega, fun a ha => (ho3.lt a.block (by rw [ha]; rfl)).1, ?_⟩, L3⟩
  have h := r3.cutTo (k := n + 1) (by omega)
  have e : (b.map bv ++ [171].map bv ++ [171].map bv).take ((n + 1) * 1) = (b ++ [171]).map bv := by
    have hbl : b.length = n := by have := hB.1; simpa using this
    rw [List.take_append_of_le_length (by simp; omega), List.take_of_length_le (by simp; omega), List.map_append]
  rw [← e]
  exact h

theorem fed2 {w0 wr W w4 w5 : World} {g1 gx bw ow B3 n : Nat} {S X S4 X5 : Nat → Prop} {r r' : CS} {xs : List Value} (L : Below w0.heap.size w0 wr) (hW : Below wr.heap.size wr W) (hX : XR wr gx X r)
    (hd : ∀ k, S k → ¬ X k) (hSb : ∀ k, S k → w0.heap.size ≤ k) (hXb : ∀ k, X k → w0.heap.size ≤ k) (hSw : ¬ S bw) (hXw : ¬ X bw) (hr : Rd wr B3 1 (some ⟨bw, ow, none⟩) (n + 1) xs) (hB : B3 ≤ wr.heap.size)
    (hK4 : KR w4 g1 S4 r') (hM4 : Moved S S4 W w4) (hX5 : XR w5 gx X5 r') (hM5 : Moved X X5 w4 w5) :
    KR w5 g1 S4 r' ∧ (∀ k, S4 k → ¬ X5 k) ∧ (∀ k, S4 k → w0.heap.size ≤ k) ∧ (∀ k, X5 k → w0.heap.size ≤ k) ∧ ¬ S4 bw ∧ ¬ X5 bw ∧ Rd w5 B3 1 (some ⟨bw, ow, none⟩) (n + 1) xs ∧ B3 ≤ w5.heap.size ∧ Below w0.heap.size w0 w5 := by
  have LW := stepW L hW
  have L4 := moved_below hM4 LW hSb
  have L5 := moved_below hM5 L4 hXb
  have hWs := hW.size
  have h4s : W.heap.size ≤ w4.heap.size := hM4.fr.size
  have h5s : w4.heap.size ≤ w5.heap.size := hM5.fr.size
  have hbw : bw < B3 := by
    obtain ⟨b1, o1, e1, h1, -⟩ := hr.2 (by omega)
    injection e1 with e1
    injection e1 with e1 e2
    omega
  have hdX : ∀ k, S4 k → ¬ X k := fun k h1 h2 => by
    rcases hM4.foot k h1 with h | h
    · exact hd k h h2
    · have := hX.lt h2; omega
  have hrW := hr.belowW hB hW
  refine ⟨hK4.fr hM5.fr hdX, fun k h1 h2 => ?_, moved_hs hM4 LW.size hSb, moved_hs hM5 L4.size hXb, fun h => ?_, fun h => ?_, ?_, by omega, L5⟩
  · rcases hM5.foot k h2 with h | h
    · exact hdX k h1 h
    · have := hK4.lt h1; omega
  · rcases hM4.foot _ h with h | h
    · exact hSw h
    · omega
  · rcases hM5.foot _ h with h | h
    · exact hXw h
    · omega
  · have h1 := hrW.frm (by omega) hM4.fr (fun _ a ha => by injection ha with ha; rw [← ha]; exact hSw)
    exact h1.frm (by omega) hM5.fr (fun _ a ha => by injection ha with ha; rw [← ha]; exact hXw)
theorem law_Feeds (A : Option Addr) (n c : Nat) (b : Bs) (cut : Int) (w : World) (hA : Rd w w.heap.size 1 A n (b.map bv)) (hc : n ≤ c) (hm : ML w) (ht : TZ w) :
    Calls Tryz.prog 3 #[.slice A n c, .int .i64 cut] w fun e w' => e = .returned (.bool true) ∧ Below w.heap.size w w' := by
  by_cases hb : 4000 < n
  · go_enter Tryz.func3, Tryz.ntmps3
    go_wp2
    go_ret
    exact ⟨rfl, Below.refl _ _⟩
  have hle : n ≤ 4000 := by omega
  clear hb
  have hbl : b.length = n := by simpa using hA.1
  have kand := i64_and65535
  obtain ⟨K, hK0, hKn⟩ : ∃ K : Nat, (cut % 65536).tmod ((n : Int) + 1) = (K : Int) ∧ K ≤ n := by
    have h1 : 0 ≤ cut % 65536 := by omega
    have h2 := Int.tmod_nonneg ((n : Int) + 1) h1
    have h3 := Int.tmod_lt_of_pos (cut % 65536) (show (0 : Int) < (n : Int) + 1 by omega)
    exact ⟨((cut % 65536).tmod ((n : Int) + 1)).toNat, by omega, by omega⟩
  go_enter Tryz.func3, Tryz.ntmps3
  go_wp2_with fail
  refine (chk_New w).mono ?_
  rintro e w1 ⟨g1, S1, rfl, hK1, hS1, L1⟩
  have hX1 := xr_new w1
  have La := allocW (Below.refl w1.heap.size w1) (.cells #[.slice none 0 0, .slice none 0 0, .bool false, .int .i64 0, .int .i64 0, .slice none 0 0, .int .i64 0, .int .i64 0] 28)
  have hK2 := hK1.belowW La
  have L2 := stepW L1 La
  have hd : ∀ k, S1 k → ¬ foot w1.heap.size (.slice none 0 0) (.slice none 0 0) (.slice none 0 0) k := fun k h1 h2 => by
    rw [foot_new _ _ h2] at h1
    exact Nat.lt_irrefl _ (hK1.lt h1)
  have hXb : ∀ k, foot w1.heap.size (.slice none 0 0) (.slice none 0 0) (.slice none 0 0) k → w.heap.size ≤ k := fun k h2 => by
    rw [foot_new _ _ h2]; exact L1.size
  have Lr := L2
  obtain ⟨W2, hW2⟩ : ∃ W2, W2 = w1.alloc (.cells #[.slice none 0 0, .slice none 0 0, .bool false, .int .i64 0, .int .i64 0, .slice none 0 0, .int .i64 0, .int .i64 0] 28) := ⟨_, rfl⟩
  obtain ⟨gx, hgx⟩ : ∃ gx, gx = w1.heap.size := ⟨_, rfl⟩
  obtain ⟨X1, hX1e⟩ : ∃ X1, X1 = foot w1.heap.size (.slice none 0 0) (.slice none 0 0) (.slice none 0 0) := ⟨_, rfl⟩
  rw [← hW2, ← hX1e, ← hgx] at hX1
  rw [← hW2] at hK2 L2
  rw [← hX1e] at hd hXb
  clear Lr La
  go_wp2_with fail
  rw [← hW2, ← hgx]
  clear hW2 hgx hX1e hK1 kand hK0 L1
  refine (law_roomyN A n c b W2 ((hA.below L2).more L2.size) (by omega)).mono ?_
  rintro e w3 ⟨⟨A3, c3, rfl, hc3, hbn, hr3⟩, L3⟩
  have hAw := hA
  obtain ⟨bw, ow, rfl, hbw, -⟩ := hr3.2 (by omega)
  have hlS : ∀ k, S1 k → k < W2.heap.size := fun k hk => hK2.lt hk
  have hlX : ∀ k, X1 k → k < W2.heap.size := fun k hk => hX1.lt hk
  have hbn := hbn _ rfl
  have hSw1 : ¬ S1 bw := fun h => by have := hlS _ h; simp only at hbn; omega
  have hXw1 : ¬ X1 bw := fun h => by have := hlX _ h; simp only at hbn; omega
  have hK3 := hK2.belowW L3
  have hX3 := hX1.belowW L3
  have L3' := stepW L2 L3
  obtain ⟨B3, hB3⟩ : ∃ B3, B3 = w3.heap.size := ⟨_, rfl⟩
  rw [← hB3] at hr3
  have hB3 : B3 ≤ w3.heap.size := by omega
  clear hK2 hX1 L3 L2 hlS hlX hbn
  go_wp2
  go_loopw [9] (fun i wr => ∃ (j : Nat) (r : CS) (S X : Nat → Prop), i = .int .i64 j ∧ j ≤ 2 ∧ CInv r ∧ KR wr g1 S r ∧ XR wr gx X r ∧ (∀ k, S k → ¬ X k) ∧ (∀ k, S k → w.heap.size ≤ k) ∧ (∀ k, X k → w.heap.size ≤ k) ∧ ¬ S bw ∧ ¬ X bw ∧ Rd wr B3 1 (some ⟨bw, ow, none⟩) (n + 1) ((b ++ [171]).map bv) ∧ B3 ≤ wr.heap.size ∧ Below w.heap.size w wr) (fun i _ => 2 - (intOf i).toNat)
  case atStart => exact ⟨0, cs0, S1, X1, rfl, by omega, cs0_inv, hK3, hX3, hd, hS1, hXb, hSw1, hXw1, hr3, hB3, L3'⟩
  case round =>
    clear hK3 hX3 hd hS1 hXb hSw1 hXw1 hr3 hB3 L3'
    obtain ⟨j, r, S, X, rfl, hj, hI, hK, hX, hd, hSb, hXb, hSw, hXw, hr, hB, L⟩ := hrel
    have hS := L.size
    have hmr := hm.below L (Nat.le_refl _)
    have hAr := hA.below L
    by_cases hj2 : j < 2
    · have e : ((b ++ [171]).map bv).take (n * 1) = b.map bv := by rw [List.map_append, List.take_append_of_le_length (by simp; omega), List.take_of_length_le (by simp; omega)]
      have hr0 := hr.cutTo (k := n) (by omega)
      rw [e] at hr0
      clear e
      have hC1 : ∀ (V : Option Addr) (cc m : Nat) (P : Bs) (W : World), Below wr.heap.size wr W → Rd wr B3 1 V m (P.map bv) → (∀ a, V = some a → a.block = bw) → m ≤ 4000 → Calls Tryz.prog 11 #[.pointer (some ⟨g1, 0, none⟩), .slice V m cc] W (FeedPost W g1 S (cFeed r P)) :=
        fun V cc m P W hW hP hV hl => chk_Feed g1 S r V m cc B3 P W (hK.belowW hW) hI (hP.belowW hB hW) (Nat.le_trans hB hW.size) (fun _ a ha hs => hSw (hV a ha ▸ hs)) (by omega) (hmr.below hW (Nat.le_refl _)) (hi_of hm hSb)
      have hC2 : ∀ (V : Option Addr) (cc m : Nat) (P : Bs) (W : World) (S4 : Nat → Prop) (w4 : World), Below wr.heap.size wr W → Moved S S4 W w4 → Rd w w.heap.size 1 V m (P.map bv) → m ≤ 4000 → Calls Tryz.prog 12 #[.pointer (some ⟨gx, 0, none⟩), .slice V m cc] w4 (XFeedPost w4 gx X (cFeed r P)) :=
        fun V cc m P W S4 w4 hW hM hP hl => xref_Feed gx X r V m cc w.heap.size P w4 ((hX.belowW hW).fr hM.fr fun k h1 h2 => hd k h2 h1) hI (hP.below (moved_below hM (stepW L hW) hSb)) (moved_below hM (stepW L hW) hSb).size (hP.off hXb) (by omega)
      have hj3 : j = 0 ∨ j = 1 := by omega
      have hnc : (n : Int) < c3 := by omega
      have hKi : (K : Int) ≤ n := by omega
      have hw0 : IntKind.i64.wrap ((j : Int) + 1) = (j : Int) + 1 := by rw [IntKind.wrap_i64]; omega
      rcases hj3 with rfl | rfl
      · have hP1 := hr0.cutTo (k := K) hKn
        have hP2 := hA.cutTo (k := K) hKn
        rw [Nat.mul_one, ← List.map_take] at hP1 hP2
        have hD1 := hC1 _ c3 K _ wr (Below.refl _ _) hP1 (fun a ha => by injection ha with ha; rw [← ha]) (by omega)
        have hD2 := fun S4 w4 hM => hC2 _ c K _ wr S4 w4 (Below.refl _ _) hM hP2 (by omega)
        have hI5 : CInv (cFeed r (b.take K)).2 := cFeed_inv _ r hI
        have hLW := Below.refl wr.heap.size wr
        generalize cFeed r (b.take K) = q at hD1 hD2 hI5
        clear hC1 hC2 hP1 hP2 hr0
        cases A with
        | none =>
          go_wp2_with fail
          refine hD1.mono ?_
          rintro e w4 ⟨rfl, S4, hK4, hM4⟩
          have hD3 := hD2 S4 w4 hM4
          clear hD1 hD2
          go_wp2_with fail
          refine hD3.mono ?_
          rintro e w5 ⟨rfl, X5, hX5, hM5⟩
          clear hD3
          obtain ⟨hK5, hd5, hSb5, hXb5, hSw5, hXw5, hr5, hB5, L5⟩ := fed2 L hLW hX hd hSb hXb hSw hXw hr hB hK4 hM4 hX5 hM5
          clear hK4 hM4 hM5 hK hX hd hSb hXb hSw hXw hr hB L hLW hmr hAr hS hI
          have hKd := hK5.belowW ((Below.refl w5.heap.size w5).drew)
          obtain ⟨vl, vb, vt, hXe, hXA⟩ := hX5
          obtain ⟨Ab, cb, hvb, hb1, hb2, hb3⟩ := hXA.ob.form
          obtain ⟨At, ct, hvt, ht1, ht2, ht3⟩ := OF.form hXA.ot
          subst hvb hvt
          have hX5 : XR w5 gx X5 q.2 := ⟨_, _, _, hXe, hXA⟩
          clear hXe
          obtain ⟨j0, j1, j2, j3, j4, j5, j6, j7, i0, i1, i2, i3, i4, i5, i6, i7⟩ := Blk.c8 hXA.blk
          have hgx : gx < w5.heap.size := World.block_lt_of_cell? w5 _ j0
          clear hXA j2 j3 j4 j5 j6 j7 i2 i3 i4 i5 i6 i7
          have hbd : q.2.body.length ≤ maxLen := by have := hI5.body; unfold maxLen; omega
          have htd : q.2.trs.length ≤ maxLen := by have := hI5.trs; unfold maxLen; omega
          have Ld : Below w5.heap.size w5 w5.drew := (Below.refl w5.heap.size w5).drew
          go_wp2_with fail
          go_region_held3 (fun w' => w'.cell? ⟨gx, 0, none⟩ = some (.slice Ab q.2.body.length cb) ∧ w'.cell? ⟨gx, 1, none⟩ = some (.slice At q.2.trs.length ct))
            (first | go_keep | exact S6 | exact S7 | exact S8 | exact S9)
            (first
              | (go_at_call 14
                 refine (chk_Body g1 S4 q.2 _ hKd hI5).mono ?_
                 rintro e w6 ⟨v6, rfl, ho6, M6⟩
                 have N6 := stepW Ld M6
                 have S6 : w6.cell? ⟨gx, 0, none⟩ = some (.slice Ab q.2.body.length cb) ∧ w6.cell? ⟨gx, 1, none⟩ = some (.slice At q.2.trs.length ct) := ⟨(N6.cell hgx).trans j0, (N6.cell hgx).trans j1⟩
                 obtain ⟨A6, c6, rfl, -, -, hr6⟩ := ho6.form)
              | (go_at_call 13
                 refine (law_same14_eq _ _ _ q.2.body _ _ _ _ hr6 (hb3.belowW (Nat.le_refl _) N6 |>.more N6.size) hbd).mono ?_
                 rintro e w7 ⟨rfl, M7⟩
                 have N7 := stepW N6 M7
                 have S7 : w7.cell? ⟨gx, 0, none⟩ = some (.slice Ab q.2.body.length cb) ∧ w7.cell? ⟨gx, 1, none⟩ = some (.slice At q.2.trs.length ct) := ⟨(N7.cell hgx).trans j0, (N7.cell hgx).trans j1⟩)
              | (go_at_call 16
                 refine (chk_Trailers g1 S4 q.2 _ (hK5.belowW N7) hI5).mono ?_
                 rintro e w8 ⟨v8, rfl, ho8, M8⟩
                 have N8 := stepW N7 M8
                 have S8 : w8.cell? ⟨gx, 0, none⟩ = some (.slice Ab q.2.body.length cb) ∧ w8.cell? ⟨gx, 1, none⟩ = some (.slice At q.2.trs.length ct) := ⟨(N8.cell hgx).trans j0, (N8.cell hgx).trans j1⟩
                 obtain ⟨A8, c8, rfl, -, -, hr8⟩ := OF.form ho8)
              | (go_at_call 15
                 refine (law_fields14_eq _ _ _ q.2.trs _ _ _ _ hr8 (ht3.belowW (Nat.le_refl _) N8 |>.more N8.size) htd).mono ?_
                 rintro e w9 ⟨rfl, M9⟩
                 have N9 := stepW N8 M9
                 have S9 : w9.cell? ⟨gx, 0, none⟩ = some (.slice Ab q.2.body.length cb) ∧ w9.cell? ⟨gx, 1, none⟩ = some (.slice At q.2.trs.length ct) := ⟨(N9.cell hgx).trans j0, (N9.cell hgx).trans j1⟩))
          go_wp2_with fail
          go_roundw
          case rel => exact ⟨_ + 1, q.2, S4, X5, by go_num, by omega, hI5, hK5.belowW N9, hX5.belowW N9, hd5, hSb5, hXb5, hSw5, hXw5, hr5.belowW hB5 N9, Nat.le_trans hB5 N9.size, stepW L5 N9⟩
          case measure => simp [intOf]
        | some x =>
          go_wp2_with fail
          refine hD1.mono ?_
          rintro e w4 ⟨rfl, S4, hK4, hM4⟩
          have hD3 := hD2 S4 w4 hM4
          clear hD1 hD2
          go_wp2_with fail
          refine hD3.mono ?_
          rintro e w5 ⟨rfl, X5, hX5, hM5⟩
          clear hD3
          obtain ⟨hK5, hd5, hSb5, hXb5, hSw5, hXw5, hr5, hB5, L5⟩ := fed2 L hLW hX hd hSb hXb hSw hXw hr hB hK4 hM4 hX5 hM5
          clear hK4 hM4 hM5 hK hX hd hSb hXb hSw hXw hr hB L hLW hmr hAr hS hI
          have hKd := hK5.belowW ((Below.refl w5.heap.size w5).drew)
          obtain ⟨vl, vb, vt, hXe, hXA⟩ := hX5
          obtain ⟨Ab, cb, hvb, hb1, hb2, hb3⟩ := hXA.ob.form
          obtain ⟨At, ct, hvt, ht1, ht2, ht3⟩ := OF.form hXA.ot
          subst hvb hvt
          have hX5 : XR w5 gx X5 q.2 := ⟨_, _, _, hXe, hXA⟩
          clear hXe
          obtain ⟨j0, j1, j2, j3, j4, j5, j6, j7, i0, i1, i2, i3, i4, i5, i6, i7⟩ := Blk.c8 hXA.blk
          have hgx : gx < w5.heap.size := World.block_lt_of_cell? w5 _ j0
          clear hXA j2 j3 j4 j5 j6 j7 i2 i3 i4 i5 i6 i7
          have hbd : q.2.body.length ≤ maxLen := by have := hI5.body; unfold maxLen; omega
          have htd : q.2.trs.length ≤ maxLen := by have := hI5.trs; unfold maxLen; omega
          have Ld : Below w5.heap.size w5 w5.drew := (Below.refl w5.heap.size w5).drew
          go_wp2_with fail
          go_region_held3 (fun w' => w'.cell? ⟨gx, 0, none⟩ = some (.slice Ab q.2.body.length cb) ∧ w'.cell? ⟨gx, 1, none⟩ = some (.slice At q.2.trs.length ct))
            (first | go_keep | exact S6 | exact S7 | exact S8 | exact S9)
            (first
              | (go_at_call 14
                 refine (chk_Body g1 S4 q.2 _ hKd hI5).mono ?_
                 rintro e w6 ⟨v6, rfl, ho6, M6⟩
                 have N6 := stepW Ld M6
                 have S6 : w6.cell? ⟨gx, 0, none⟩ = some (.slice Ab q.2.body.length cb) ∧ w6.cell? ⟨gx, 1, none⟩ = some (.slice At q.2.trs.length ct) := ⟨(N6.cell hgx).trans j0, (N6.cell hgx).trans j1⟩
                 obtain ⟨A6, c6, rfl, -, -, hr6⟩ := ho6.form)
              | (go_at_call 13
                 refine (law_same14_eq _ _ _ q.2.body _ _ _ _ hr6 (hb3.belowW (Nat.le_refl _) N6 |>.more N6.size) hbd).mono ?_
                 rintro e w7 ⟨rfl, M7⟩
                 have N7 := stepW N6 M7
                 have S7 : w7.cell? ⟨gx, 0, none⟩ = some (.slice Ab q.2.body.length cb) ∧ w7.cell? ⟨gx, 1, none⟩ = some (.slice At q.2.trs.length ct) := ⟨(N7.cell hgx).trans j0, (N7.cell hgx).trans j1⟩)
              | (go_at_call 16
                 refine (chk_Trailers g1 S4 q.2 _ (hK5.belowW N7) hI5).mono ?_
                 rintro e w8 ⟨v8, rfl, ho8, M8⟩
                 have N8 := stepW N7 M8
                 have S8 : w8.cell? ⟨gx, 0, none⟩ = some (.slice Ab q.2.body.length cb) ∧ w8.cell? ⟨gx, 1, none⟩ = some (.slice At q.2.trs.length ct) := ⟨(N8.cell hgx).trans j0, (N8.cell hgx).trans j1⟩
                 obtain ⟨A8, c8, rfl, -, -, hr8⟩ := OF.form ho8)
              | (go_at_call 15
                 refine (law_fields14_eq _ _ _ q.2.trs _ _ _ _ hr8 (ht3.belowW (Nat.le_refl _) N8 |>.more N8.size) htd).mono ?_
                 rintro e w9 ⟨rfl, M9⟩
                 have N9 := stepW N8 M9
                 have S9 : w9.cell? ⟨gx, 0, none⟩ = some (.slice Ab q.2.body.length cb) ∧ w9.cell? ⟨gx, 1, none⟩ = some (.slice At q.2.trs.length ct) := ⟨(N9.cell hgx).trans j0, (N9.cell hgx).trans j1⟩))
          go_wp2_with fail
          go_roundw
          case rel => exact ⟨_ + 1, q.2, S4, X5, by go_num, by omega, hI5, hK5.belowW N9, hX5.belowW N9, hd5, hSb5, hXb5, hSw5, hXw5, hr5.belowW hB5 N9, Nat.le_trans hB5 N9.size, stepW L5 N9⟩
          case measure => simp [intOf]
      · have hP1 := hr0.cutFrom (k := K) hKn
        have hP2 := hA.cutFrom (k := K) hKn
        rw [Nat.mul_one, ← List.map_drop] at hP1 hP2
        rw [Option.map_some, add_lit'] at hP1
        have hD1 := fun q => hC1 _ (c3 - K) (n - K) _ (wr.drewN q) (below_drewN' (Below.refl _ _) q) hP1 (fun a ha => by injection ha with ha; rw [← ha]) (by omega)
        have hD2 := fun q S4 w4 hM V cc hV => hC2 V cc (n - K) (b.drop K) (wr.drewN q) S4 w4 (below_drewN' (Below.refl _ _) q) hM hV (by omega)
        have hI5 : CInv (cFeed r (b.drop K)).2 := cFeed_inv _ r hI
        generalize cFeed r (b.drop K) = q at hD1 hD2 hI5
        clear hC1 hC2 hP1 hr0
        cases A with
        | none =>
          go_wp2
          go_quiet (fail)
          have hLW := below_drewN' (Below.refl wr.heap.size wr) nq
          go_wp2_with fail
          refine (hD1 nq).mono ?_
          rintro e w4 ⟨rfl, S4, hK4, hM4⟩
          have hD3 := hD2 nq S4 w4 hM4 none (c - K) hP2
          clear hD1 hD2 hP2
          go_wp2_with fail
          refine hD3.mono ?_
          rintro e w5 ⟨rfl, X5, hX5, hM5⟩
          clear hD3
          obtain ⟨hK5, hd5, hSb5, hXb5, hSw5, hXw5, hr5, hB5, L5⟩ := fed2 L hLW hX hd hSb hXb hSw hXw hr hB hK4 hM4 hX5 hM5
          clear hK4 hM4 hM5 hK hX hd hSb hXb hSw hXw hr hB L hLW hmr hAr hS hI
          have hKd := hK5.belowW ((Below.refl w5.heap.size w5).drew)
          obtain ⟨vl, vb, vt, hXe, hXA⟩ := hX5
          obtain ⟨Ab, cb, hvb, hb1, hb2, hb3⟩ := hXA.ob.form
          obtain ⟨At, ct, hvt, ht1, ht2, ht3⟩ := OF.form hXA.ot
          subst hvb hvt
          have hX5 : XR w5 gx X5 q.2 := ⟨_, _, _, hXe, hXA⟩
          clear hXe
          obtain ⟨j0, j1, j2, j3, j4, j5, j6, j7, i0, i1, i2, i3, i4, i5, i6, i7⟩ := Blk.c8 hXA.blk
          have hgx : gx < w5.heap.size := World.block_lt_of_cell? w5 _ j0
          clear hXA j2 j3 j4 j5 j6 j7 i2 i3 i4 i5 i6 i7
          have hbd : q.2.body.length ≤ maxLen := by have := hI5.body; unfold maxLen; omega
          have htd : q.2.trs.length ≤ maxLen := by have := hI5.trs; unfold maxLen; omega
          have Ld : Below w5.heap.size w5 w5.drew := (Below.refl w5.heap.size w5).drew
          go_wp2_with fail
          go_region_held3 (fun w' => w'.cell? ⟨gx, 0, none⟩ = some (.slice Ab q.2.body.length cb) ∧ w'.cell? ⟨gx, 1, none⟩ = some (.slice At q.2.trs.length ct))
            (first | go_keep | exact S6 | exact S7 | exact S8 | exact S9)
            (first
              | (go_at_call 14
                 refine (chk_Body g1 S4 q.2 _ hKd hI5).mono ?_
                 rintro e w6 ⟨v6, rfl, ho6, M6⟩
                 have N6 := stepW Ld M6
                 have S6 : w6.cell? ⟨gx, 0, none⟩ = some (.slice Ab q.2.body.length cb) ∧ w6.cell? ⟨gx, 1, none⟩ = some (.slice At q.2.trs.length ct) := ⟨(N6.cell hgx).trans j0, (N6.cell hgx).trans j1⟩
                 obtain ⟨A6, c6, rfl, -, -, hr6⟩ := ho6.form)
              | (go_at_call 13
                 refine (law_same14_eq _ _ _ q.2.body _ _ _ _ hr6 (hb3.belowW (Nat.le_refl _) N6 |>.more N6.size) hbd).mono ?_
                 rintro e w7 ⟨rfl, M7⟩
                 have N7 := stepW N6 M7
                 have S7 : w7.cell? ⟨gx, 0, none⟩ = some (.slice Ab q.2.body.length cb) ∧ w7.cell? ⟨gx, 1, none⟩ = some (.slice At q.2.trs.length ct) := ⟨(N7.cell hgx).trans j0, (N7.cell hgx).trans j1⟩)
              | (go_at_call 16
                 refine (chk_Trailers g1 S4 q.2 _ (hK5.belowW N7) hI5).mono ?_
                 rintro e w8 ⟨v8, rfl, ho8, M8⟩
                 have N8 := stepW N7 M8
                 have S8 : w8.cell? ⟨gx, 0, none⟩ = some (.slice Ab q.2.body.length cb) ∧ w8.cell? ⟨gx, 1, none⟩ = some (.slice At q.2.trs.length ct) := ⟨(N8.cell hgx).trans j0, (N8.cell hgx).trans j1⟩
                 obtain ⟨A8, c8, rfl, -, -, hr8⟩ := OF.form ho8)
              | (go_at_call 15
                 refine (law_fields14_eq _ _ _ q.2.trs _ _ _ _ hr8 (ht3.belowW (Nat.le_refl _) N8 |>.more N8.size) htd).mono ?_
                 rintro e w9 ⟨rfl, M9⟩
                 have N9 := stepW N8 M9
                 have S9 : w9.cell? ⟨gx, 0, none⟩ = some (.slice Ab q.2.body.length cb) ∧ w9.cell? ⟨gx, 1, none⟩ = some (.slice At q.2.trs.length ct) := ⟨(N9.cell hgx).trans j0, (N9.cell hgx).trans j1⟩))
          go_wp2_with fail
          go_roundw
          case rel => exact ⟨_ + 1, q.2, S4, X5, by go_num, by omega, hI5, hK5.belowW N9, hX5.belowW N9, hd5, hSb5, hXb5, hSw5, hXw5, hr5.belowW hB5 N9, Nat.le_trans hB5 N9.size, stepW L5 N9⟩
          case measure => simp [intOf]
        | some x =>
          by_cases hKc : K = c
          · have hz : n - K = 0 := by omega
            rw [hz] at hD1 hD2 hP2
            have hP3 : Rd w w.heap.size 1 (some x) 0 ((b.drop K).map bv) := ⟨hP2.1, fun h => absurd h (Nat.lt_irrefl _)⟩
            go_wp2
            go_quiet (fail)
            have hLW := below_drewN' (Below.refl wr.heap.size wr) nq
            go_wp2_with fail
            subst hKc
            refine (hD1 nq).mono ?_
            rintro e w4 ⟨rfl, S4, hK4, hM4⟩
            have hD3 := hD2 nq S4 w4 hM4 (some x) 0 hP3
            clear hD1 hD2 hP2 hP3
            go_wp2_with fail
            refine hD3.mono ?_
            rintro e w5 ⟨rfl, X5, hX5, hM5⟩
            clear hD3
            obtain ⟨hK5, hd5, hSb5, hXb5, hSw5, hXw5, hr5, hB5, L5⟩ := fed2 L hLW hX hd hSb hXb hSw hXw hr hB hK4 hM4 hX5 hM5
            clear hK4 hM4 hM5 hK hX hd hSb hXb hSw hXw hr hB L hLW hmr hAr hS hI
            have hKd := hK5.belowW ((Below.refl w5.heap.size w5).drew)
            obtain ⟨vl, vb, vt, hXe, hXA⟩ := hX5
            obtain ⟨Ab, cb, hvb, hb1, hb2, hb3⟩ := hXA.ob.form
            obtain ⟨At, ct, hvt, ht1, ht2, ht3⟩ := OF.form hXA.ot
            subst hvb hvt
            have hX5 : XR w5 gx X5 q.2 := ⟨_, _, _, hXe, hXA⟩
            clear hXe
            obtain ⟨j0, j1, j2, j3, j4, j5, j6, j7, i0, i1, i2, i3, i4, i5, i6, i7⟩ := Blk.c8 hXA.blk
            have hgx : gx < w5.heap.size := World.block_lt_of_cell? w5 _ j0
            clear hXA j2 j3 j4 j5 j6 j7 i2 i3 i4 i5 i6 i7
            have hbd : q.2.body.length ≤ maxLen := by have := hI5.body; unfold maxLen; omega
            have htd : q.2.trs.length ≤ maxLen := by have := hI5.trs; unfold maxLen; omega
            have Ld : Below w5.heap.size w5 w5.drew := (Below.refl w5.heap.size w5).drew
            go_wp2_with fail
            go_region_held3 (fun w' => w'.cell? ⟨gx, 0, none⟩ = some (.slice Ab q.2.body.length cb) ∧ w'.cell? ⟨gx, 1, none⟩ = some (.slice At q.2.trs.length ct))
              (first | go_keep | exact S6 | exact S7 | exact S8 | exact S9)
              (first
                | (go_at_call 14
                   refine (chk_Body g1 S4 q.2 _ hKd hI5).mono ?_
                   rintro e w6 ⟨v6, rfl, ho6, M6⟩
                   have N6 := stepW Ld M6
                   have S6 : w6.cell? ⟨gx, 0, none⟩ = some (.slice Ab q.2.body.length cb) ∧ w6.cell? ⟨gx, 1, none⟩ = some (.slice At q.2.trs.length ct) := ⟨(N6.cell hgx).trans j0, (N6.cell hgx).trans j1⟩
                   obtain ⟨A6, c6, rfl, -, -, hr6⟩ := ho6.form)
                | (go_at_call 13
                   refine (law_same14_eq _ _ _ q.2.body _ _ _ _ hr6 (hb3.belowW (Nat.le_refl _) N6 |>.more N6.size) hbd).mono ?_
                   rintro e w7 ⟨rfl, M7⟩
                   have N7 := stepW N6 M7
                   have S7 : w7.cell? ⟨gx, 0, none⟩ = some (.slice Ab q.2.body.length cb) ∧ w7.cell? ⟨gx, 1, none⟩ = some (.slice At q.2.trs.length ct) := ⟨(N7.cell hgx).trans j0, (N7.cell hgx).trans j1⟩)
                | (go_at_call 16
                   refine (chk_Trailers g1 S4 q.2 _ (hK5.belowW N7) hI5).mono ?_
                   rintro e w8 ⟨v8, rfl, ho8, M8⟩
                   have N8 := stepW N7 M8
                   have S8 : w8.cell? ⟨gx, 0, none⟩ = some (.slice Ab q.2.body.length cb) ∧ w8.cell? ⟨gx, 1, none⟩ = some (.slice At q.2.trs.length ct) := ⟨(N8.cell hgx).trans j0, (N8.cell hgx).trans j1⟩
                   obtain ⟨A8, c8, rfl, -, -, hr8⟩ := OF.form ho8)
                | (go_at_call 15
                   refine (law_fields14_eq _ _ _ q.2.trs _ _ _ _ hr8 (ht3.belowW (Nat.le_refl _) N8 |>.more N8.size) htd).mono ?_
                   rintro e w9 ⟨rfl, M9⟩
                   have N9 := stepW N8 M9
                   have S9 : w9.cell? ⟨gx, 0, none⟩ = some (.slice Ab q.2.body.length cb) ∧ w9.cell? ⟨gx, 1, none⟩ = some (.slice At q.2.trs.length ct) := ⟨(N9.cell hgx).trans j0, (N9.cell hgx).trans j1⟩))
            go_wp2_with fail
            go_roundw
            case rel => exact ⟨_ + 1, q.2, S4, X5, by go_num, by omega, hI5, hK5.belowW N9, hX5.belowW N9, hd5, hSb5, hXb5, hSw5, hXw5, hr5.belowW hB5 N9, Nat.le_trans hB5 N9.size, stepW L5 N9⟩
            case measure => simp [intOf]
          · have hKc : K < c := by omega
            go_wp2
            go_quiet (fail)
            have hLW := below_drewN' (Below.refl wr.heap.size wr) nq
            go_wp2_with fail
            refine (hD1 nq).mono ?_
            rintro e w4 ⟨rfl, S4, hK4, hM4⟩
            have hD3 := hD2 nq S4 w4 hM4 (some (x.add K)) (c - K) hP2
            clear hD1 hD2 hP2
            go_wp2_with fail
            refine hD3.mono ?_
            rintro e w5 ⟨rfl, X5, hX5, hM5⟩
            clear hD3
            obtain ⟨hK5, hd5, hSb5, hXb5, hSw5, hXw5, hr5, hB5, L5⟩ := fed2 L hLW hX hd hSb hXb hSw hXw hr hB hK4 hM4 hX5 hM5
            clear hK4 hM4 hM5 hK hX hd hSb hXb hSw hXw hr hB L hLW hmr hAr hS hI
            have hKd := hK5.belowW ((Below.refl w5.heap.size w5).drew)
            obtain ⟨vl, vb, vt, hXe, hXA⟩ := hX5
            obtain ⟨Ab, cb, hvb, hb1, hb2, hb3⟩ := hXA.ob.form
            obtain ⟨At, ct, hvt, ht1, ht2, ht3⟩ := OF.form hXA.ot
            subst hvb hvt
            have hX5 : XR w5 gx X5 q.2 := ⟨_, _, _, hXe, hXA⟩
            clear hXe
            obtain ⟨j0, j1, j2, j3, j4, j5, j6, j7, i0, i1, i2, i3, i4, i5, i6, i7⟩ := Blk.c8 hXA.blk
            have hgx : gx < w5.heap.size := World.block_lt_of_cell? w5 _ j0
            clear hXA j2 j3 j4 j5 j6 j7 i2 i3 i4 i5 i6 i7
            have hbd : q.2.body.length ≤ maxLen := by have := hI5.body; unfold maxLen; omega
            have htd : q.2.trs.length ≤ maxLen := by have := hI5.trs; unfold maxLen; omega
            have Ld : Below w5.heap.size w5 w5.drew := (Below.refl w5.heap.size w5).drew
            go_wp2_with fail
            go_region_held3 (fun w' => w'.cell? ⟨gx, 0, none⟩ = some (.slice Ab q.2.body.length cb) ∧ w'.cell? ⟨gx, 1, none⟩ = some (.slice At q.2.trs.length ct))
              (first | go_keep | exact S6 | exact S7 | exact S8 | exact S9)
              (first
                | (go_at_call 14
                   refine (chk_Body g1 S4 q.2 _ hKd hI5).mono ?_
                   rintro e w6 ⟨v6, rfl, ho6, M6⟩
                   have N6 := stepW Ld M6
                   have S6 : w6.cell? ⟨gx, 0, none⟩ = some (.slice Ab q.2.body.length cb) ∧ w6.cell? ⟨gx, 1, none⟩ = some (.slice At q.2.trs.length ct) := ⟨(N6.cell hgx).trans j0, (N6.cell hgx).trans j1⟩
                   obtain ⟨A6, c6, rfl, -, -, hr6⟩ := ho6.form)
                | (go_at_call 13
                   refine (law_same14_eq _ _ _ q.2.body _ _ _ _ hr6 (hb3.belowW (Nat.le_refl _) N6 |>.more N6.size) hbd).mono ?_
                   rintro e w7 ⟨rfl, M7⟩
                   have N7 := stepW N6 M7
                   have S7 : w7.cell? ⟨gx, 0, none⟩ = some (.slice Ab q.2.body.length cb) ∧ w7.cell? ⟨gx, 1, none⟩ = some (.slice At q.2.trs.length ct) := ⟨(N7.cell hgx).trans j0, (N7.cell hgx).trans j1⟩)
                | (go_at_call 16
                   refine (chk_Trailers g1 S4 q.2 _ (hK5.belowW N7) hI5).mono ?_
                   rintro e w8 ⟨v8, rfl, ho8, M8⟩
                   have N8 := stepW N7 M8
                   have S8 : w8.cell? ⟨gx, 0, none⟩ = some (.slice Ab q.2.body.length cb) ∧ w8.cell? ⟨gx, 1, none⟩ = some (.slice At q.2.trs.length ct) := ⟨(N8.cell hgx).trans j0, (N8.cell hgx).trans j1⟩
                   obtain ⟨A8, c8, rfl, -, -, hr8⟩ := OF.form ho8)
                | (go_at_call 15
                   refine (law_fields14_eq _ _ _ q.2.trs _ _ _ _ hr8 (ht3.belowW (Nat.le_refl _) N8 |>.more N8.size) htd).mono ?_
                   rintro e w9 ⟨rfl, M9⟩
                   have N9 := stepW N8 M9
                   have S9 : w9.cell? ⟨gx, 0, none⟩ = some (.slice Ab q.2.body.length cb) ∧ w9.cell? ⟨gx, 1, none⟩ = some (.slice At q.2.trs.length ct) := ⟨(N9.cell hgx).trans j0, (N9.cell hgx).trans j1⟩))
            go_wp2_with fail
            go_roundw
            case rel => exact ⟨_ + 1, q.2, S4, X5, by go_num, by omega, hI5, hK5.belowW N9, hX5.belowW N9, hd5, hSb5, hXb5, hSw5, hXw5, hr5.belowW hB5 N9, Nat.le_trans hB5 N9.size, stepW L5 N9⟩
            case measure => simp [intOf]
    · obtain rfl : j = 2 := by omega
      have La := allocW (Below.refl wr.heap.size wr) (.cells #[.int .u8 65] 5)
      have hp1 : Rd (wr.alloc (.cells #[.int .u8 65] 5)) (wr.heap.size + 1) 1 (some ⟨wr.heap.size, 0, none⟩) 1 (([65] : Bs).map bv) := Rd.newM wr _ rfl (([65] : Bs).map bv) _ _ 1 1 rfl
      have hI5 : CInv (cFeed r [65]).2 := cFeed_inv _ r hI
      have hC1 := chk_Feed g1 S r _ 1 1 _ [65] _ (hK.belowW La) hI hp1 (by simp) (fun _ a ha hs => by injection ha with ha; subst ha; exact Nat.lt_irrefl _ (hK.lt hs)) (by decide) (hmr.below La (Nat.le_refl _)) (hi_of hm hSb)
      have hC2 : ∀ (S4 : Nat → Prop) (w4 : World), Moved S S4 (wr.alloc (.cells #[.int .u8 65] 5)) w4 → Calls Tryz.prog 12 #[.pointer (some ⟨gx, 0, none⟩), .slice (some ⟨w4.heap.size, 0, none⟩) 1 1] (w4.alloc (.cells #[.int .u8 65] 5)) (XFeedPost (w4.alloc (.cells #[.int .u8 65] 5)) gx X (cFeed r [65])) := by
        intro S4 w4 hM
        have hX4 := (hX.belowW La).fr hM.fr fun k h1 h2 => hd k h2 h1
        have hp2 : Rd (w4.alloc (.cells #[.int .u8 65] 5)) (w4.heap.size + 1) 1 (some ⟨w4.heap.size, 0, none⟩) 1 (([65] : Bs).map bv) := Rd.newM w4 _ rfl (([65] : Bs).map bv) _ _ 1 1 rfl
        exact xref_Feed gx X r _ 1 1 _ [65] _ (hX4.belowW (allocW (Below.refl w4.heap.size w4) _)) hI hp2 (by simp) (fun _ a ha hs => by injection ha with ha; subst ha; exact Nat.lt_irrefl _ (hX4.lt hs)) (by decide)
      generalize cFeed r [65] = q at hC1 hC2 hI5
      clear hp1
      go_wp2_with fail
      refine hC1.mono ?_
      rintro e w4 ⟨rfl, S4, hK4, hM4⟩
      have hC3 := hC2 S4 w4 hM4
      clear hC1 hC2
      go_wp2_with fail
      refine hC3.mono ?_
      rintro e w5 ⟨rfl, X5, hX5, hM5⟩
      obtain ⟨hK5, hd5, hSb5, hXb5, hSw5, hXw5, hr5, hB5, L5⟩ := fed2 L La hX hd hSb hXb hSw hXw hr hB (hK4.belowW (allocW (Below.refl w4.heap.size w4) _)) (hM4.alloc _) hX5 hM5
      clear hC3 hK4 hM4 hM5 hK hX hd hSb hXb hSw hXw hr hB L La hmr hAr hS hI hK5 hX5 hd5 hSb5 hXb5 hSw5 hXw5
      have hrr := hr5.more hB5
      have hAA := (hA.below L5).more L5.size
      go_wp2_with fail
      refine (law_stands14 _ n c3 A c b w5 hrr hAA hc3 (by omega)).mono ?_
      rintro e w6 ⟨rfl, L6⟩
      have L6' := stepW L5 L6
      go_wp2_with fail
      refine (law_known14 w6 (hm.below L6' (Nat.le_refl _)) (ht.below L6' (Nat.le_refl _))).mono ?_
      rintro e w7 ⟨rfl, L7⟩
      go_wp2
      go_ret
      exact ⟨rfl, stepW L6' L7⟩
end Go.Proofs.YtfapnppgbhlidaaGreatDoor

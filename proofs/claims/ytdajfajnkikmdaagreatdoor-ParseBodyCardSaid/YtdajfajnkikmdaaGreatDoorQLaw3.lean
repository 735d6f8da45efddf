/- The law ParseFeeds. -/
import Derived.Test.YtdajfajnkikmdaaGreatDoorTk15
import Derived.Deep.DeepCutAuto
import Derived.Deep.RegionHeld3
import Derived.IntWalk
import Derived.StillTailTactics
namespace Go.Proofs.YtdajfajnkikmdaaGreatDoor
open Go.RowKit
set_option maxRecDepth 100000
set_option maxHeartbeats 4000000

theorem i64_and63 (n : Int) : bits .and .i64 n 63 = n % 64 := by
  have h : (BitVec.ofInt 64 63).toNat = 2 ^ 6 - 1 := by decide
  have key : (BitVec.ofInt 64 n &&& BitVec.ofInt 64 63).toNat = (n % ((2 ^ 64 : Nat) : Int)).toNat % 2 ^ 6 := by
    rw [BitVec.toNat_and, BitVec.toNat_ofInt, h, Nat.and_two_pow_sub_one_eq_mod]
  show IntKind.i64.wrap ((BitVec.ofInt 64 n &&& BitVec.ofInt 64 63).toNat : Nat) = n % 64
  rw [key, IntKind.wrap_i64]
  omega
theorem law_roomyN (A : Option Addr) (n c : Nat) (b : Bs) (w : World) (hB : Rd w w.heap.size 1 A n (b.map bv)) (hn : n ≤ 100000) :
    Calls Tryz.prog 24 #[.slice A n c] w fun e w' => (∃ A' c', e = .returned (.slice A' (n + 1) c') ∧ n + 1 ≤ c' ∧ (∀ a, A' = some a → w.heap.size ≤ a.block) ∧ Rd w' w'.heap.size 1 A' (n + 1) ((b ++ [171]).map bv)) ∧ Below w.heap.size w w' := by
  obtain ⟨i8, hi8, hy0, hy1, hy2⟩ := info_parts info_u8
  go_enter Tryz.func24, Tryz.ntmps24
  go_wp2_with (first
    | (at_builtin
       refine wpList_append_Own _ rfl (.tmp 3) (.tmp 4) 22 22 rfl w.heap.size 5 i8 _ 1 1 Tryz.underlying22 (.inl Tryz.underlying22) hi8 hy0 hy1 hy2 rfl (by decide) (.slice (some ⟨w.heap.size, 0, none⟩) 0 0) 0 [] rfl (Own.lit _ _ rfl _ (Nat.le_refl _) _ 1 0 [] rfl (by decide)) _ n (b.map bv) rfl (Src.of_rd (hB.alloc (Nat.le_refl _) _) (by intro u hu; obtain ⟨x, -, rfl⟩ := List.mem_map.1 hu; rfl)) (by unfold maxLen; omega) (by omega) (by simp) ?_
       intro v1 w1 ho1 hg1 hat1
       obtain ⟨A1, c1, hv1, n1, m1, r1, q1⟩ := ho1.rd
       subst hv1
       have ho1 : Own w1 w.heap.size 5 1 (.slice A1 n c1) n (b.map bv) := by simpa using ho1
       have L1 : Below w.heap.size w w1 := growW (allocW (Below.refl w.heap.size w) _) hg1 (fun j hj => by cases hj; exact Nat.le_refl _))
    | (at_builtin
       refine wpList_append_Own _ rfl (.tmp 5) (.tmp 6) 22 22 rfl w.heap.size 5 i8 _ 1 1 Tryz.underlying22 (.inl Tryz.underlying22) hi8 hy0 hy1 hy2 rfl (by decide) (.slice A1 n c1) n _ rfl (ho1.alloc _) _ 1 ([171].map bv) rfl (Src.of_rd (Rd.new w1 _ rfl [.int .u8 171] _ 1 1 rfl) (by intro u hu; obtain ⟨x, -, rfl⟩ := List.mem_map.1 hu; rfl)) (by unfold maxLen; omega) (by omega) (by have := L1.size; simp; omega) ?_
       intro v2 w2 ho2 hg2 hat2
       obtain ⟨A2, c2, hv2, n2, m2, r2, q2⟩ := ho2.rd
       subst hv2
       have L2 : Below w.heap.size w w2 := growW (allocW L1 _) hg2 (fun j hj => (ho1.lt j hj).1))
    | (at_builtin
       refine wpList_append_Own _ rfl (.tmp 7) (.tmp 8) 22 22 rfl w.heap.size 5 i8 _ 1 1 Tryz.underlying22 (.inl Tryz.underlying22) hi8 hy0 hy1 hy2 rfl (by decide) (.slice A2 (n + 1) c2) (n + 1) _ rfl (ho2.alloc _) _ 1 ([171].map bv) rfl (Src.of_rd (Rd.new w2 _ rfl [.int .u8 171] _ 1 1 rfl) (by intro u hu; obtain ⟨x, -, rfl⟩ := List.mem_map.1 hu; rfl)) (by unfold maxLen; omega) (by omega) (by have := L2.size; simp; omega) ?_
       intro v3 w3 ho3 hg3 hat3
       obtain ⟨A3, c3, hv3, n3, m3, r3, q3⟩ := ho3.rd
       subst hv3
       have L3 : Below w.heap.size w w3 := growW (allocW L2 _) hg3 (fun j hj => (ho2.lt j hj).1)))
  go_ret
  refine ⟨⟨A3, c3, rfl, by omega, fun a ha => (ho3.lt a.block (by rw [ha]; rfl)).1, ?_⟩, L3⟩
  have h := r3.cutTo (k := n + 1) (by omega)
  have e : (b.map bv ++ [171].map bv ++ [171].map bv).take ((n + 1) * 1) = (b ++ [171]).map bv := by
    have hbl : b.length = n := by have := hB.1; simpa using this
    rw [List.take_append_of_le_length (by simp; omega), List.take_of_length_le (by simp; omega), List.map_append]
  rw [← e]
  exact h


theorem two_parts (l : Bs) (a h k : Nat) (hh : h ≤ k) : [(l.drop a).take h, (l.drop (a + h)).take (k - h)].flatten = (l.drop a).take k := by
  obtain ⟨m, rfl⟩ : ∃ m, k = h + m := ⟨k - h, by omega⟩
  rw [← List.drop_drop, Nat.add_sub_cancel_left, List.take_add]
  simp
/-- What may be read of a row of bytes: a part of it. -/
theorem RdO.part {w : World} {S : Nat → Prop} {A V : Option Addr} {n a m : Nat} {l : Bs} (h : RdO w S A n (l.map bv)) (hm : a + m ≤ n) (hV : 0 < m → V = A.map (·.add a)) : RdO w S V m (((l.drop a).take m).map bv) := by
  have h1 := (h.1.cutFrom (k := a) (by omega)).cutTo (k := m) (by omega)
  rw [Nat.mul_one, Nat.mul_one, ← List.map_drop, ← List.map_take] at h1
  rcases Nat.eq_zero_or_pos m with h0 | h0
  · exact ⟨⟨h1.1, fun h9 => absurd h9 (by omega)⟩, fun h9 => absurd h9 (by omega)⟩
  · rw [hV h0]
    refine ⟨h1, fun _ x hx => ?_⟩
    obtain ⟨b, o, rfl, -, -⟩ := h.1.2 (by omega)
    rw [Option.map_some, add_lit'] at hx
    injection hx with hx
    subst hx
    exact h.2 (by omega) ⟨b, o, none⟩ rfl
theorem RdP.drew {w : World} {S : Nat → Prop} {A : Option Addr} {n : Nat} {ps : List Bs} (h : RdP w S A n ps) : RdP w.drew S A n ps := h.moved ((Moved.refl S w).drew)
theorem eT_le (p : PS) : 0 ≤ eT p ∧ eT p ≤ 4 := by
  unfold eT
  split <;> decide
theorem pT_fed (p : PS) : (pT p).fed ≤ p.fed := by
  unfold pT
  split
  · exact Nat.zero_le _
  · exact Nat.le_refl _
/-- Rows beside two parts, one of which is moved. -/
theorem RdO.movL {w w' : World} {S S' X : Nat → Prop} {A : Option Addr} {n : Nat} {xs : List Value} (h : RdO w (fun k => S k ∨ X k) A n xs) (m : Moved S S' w w') : RdO w' (fun k => S' k ∨ X k) A n xs :=
  h.moved ⟨m.fr.mono fun k hk => .inl (.inl hk), fun k hk => by
    rcases hk with hk | hk
    · rcases m.foot k hk with h3 | h3
      · exact .inl (.inl h3)
      · exact .inr h3
    · exact .inl (.inr hk)⟩
theorem RdO.movR {w w' : World} {S X X' : Nat → Prop} {A : Option Addr} {n : Nat} {xs : List Value} (h : RdO w (fun k => S k ∨ X k) A n xs) (m : Moved X X' w w') : RdO w' (fun k => S k ∨ X' k) A n xs :=
  h.moved ⟨m.fr.mono fun k hk => .inl (.inr hk), fun k hk => by
    rcases hk with hk | hk
    · exact .inl (.inl hk)
    · rcases m.foot k hk with h3 | h3
      · exact .inl (.inr h3)
      · exact .inr h3⟩
theorem xq_new (w : World) : XQ (w.alloc (.cells #[.int .i64 0, .int .i64 0, .pointer none, .slice none 0 0, .int .i64 0, .int .i64 0, .bool false, .bool false, .slice none 0 0, .pointer none, .bool false] 48)) w.heap.size (fun k => k = w.heap.size) p0 :=
  .idle (.pointer none) (.slice none 0 0) (.slice none 0 0) (.pointer none) ⟨0, 0, false, false⟩ false p0 rfl rfl (Blk.new' _ _ rfl _ _)
/-- What holds at the loop's head. -/
def FRel (w : World) (b : Bs) (n n2 g gx : Nat) (Aw : Option Addr) (a j : Nat) (r : PS) (S X : Nat → Prop) (wr : World) : Prop :=
  a ≤ n ∧ j ≤ n2 + 1 ∧ r.fed ≤ a ∧ PInv r ∧ PB r ∧ PR wr g S r ∧ XQ wr gx X r ∧ (∀ k, S k → ¬ X k) ∧ (∀ k, S k → w.heap.size ≤ k) ∧ (∀ k, X k → w.heap.size ≤ k) ∧ RdO wr (fun k => S k ∨ X k) Aw (n + 1) ((b ++ [171]).map bv) ∧ Below w.heap.size w wr
theorem law_Feeds15 (A : Option Addr) (n c : Nat) (b : Bs) (A2 : Option Addr) (n2 c2 : Nat) (zs : List Int) (w : World) (hA : Rd w w.heap.size 1 A n (b.map bv)) (hA2 : Rd w w.heap.size 1 A2 n2 (zs.map (Value.int .i64))) (hc : n ≤ c) (hm : ML w) :
    Calls Tryz.prog 6 #[.slice A n c, .slice A2 n2 c2] w fun e w' => e = .returned (.bool true) ∧ Below w.heap.size w w' := by
  by_cases hb : 6000 < n
  · go_enter Tryz.func6, Tryz.ntmps6
    go_wp2
    go_ret
    exact ⟨rfl, Below.refl _ _⟩
  have hle : n ≤ 6000 := by omega
  clear hb
  by_cases hb : 200 < n2
  · go_enter Tryz.func6, Tryz.ntmps6
    go_wp2
    go_ret
    exact ⟨rfl, Below.refl _ _⟩
  have hle2 : n2 ≤ 200 := by omega
  clear hb
  have hbl : b.length = n := by simpa using hA.1
  have hzl : zs.length = n2 := by simpa using hA2.1
  have kand := i64_and63
  go_enter Tryz.func6, Tryz.ntmps6
  go_wp2_with fail
  refine (prs_New w).mono ?_
  rintro e w1 ⟨⟨g, S1, rfl, hK1, hS1⟩, L1⟩
  have hX1 := xq_new w1
  have La := allocW (Below.refl w1.heap.size w1) (.cells #[.int .i64 0, .int .i64 0, .pointer none, .slice none 0 0, .int .i64 0, .int .i64 0, .bool false, .bool false, .slice none 0 0, .pointer none, .bool false] 48)
  have hK2 := hK1.belowW La
  have L2 := stepW L1 La
  have hlt1 : ∀ k, S1 k → k < w1.heap.size := fun k hk => hK1.lt hk
  have hz1 : w1.heap.size < (w1.alloc (.cells #[.int .i64 0, .int .i64 0, .pointer none, .slice none 0 0, .int .i64 0, .int .i64 0, .bool false, .bool false, .slice none 0 0, .pointer none, .bool false] 48)).heap.size := hX1.lt rfl
  obtain ⟨gx, hgx⟩ : ∃ gx, gx = w1.heap.size := ⟨_, rfl⟩
  go_wp2_with fail
  rw [← hgx]
  rw [← hgx] at hX1 hlt1 hz1
  generalize w1.alloc (.cells #[.int .i64 0, .int .i64 0, .pointer none, .slice none 0 0, .int .i64 0, .int .i64 0, .bool false, .bool false, .slice none 0 0, .pointer none, .bool false] 48) = W2 at La hK2 L2 hX1 hz1 ⊢
  have hgw : w.heap.size ≤ gx := by rw [hgx]; exact L1.size
  clear hgx La hK1
  refine (law_roomyN A n c b W2 ((hA.below L2).more L2.size) (by omega)).mono ?_
  rintro e w3 ⟨⟨Aw, cw, rfl, hcw, hAw, hrw⟩, L3⟩
  have hK3 := hK2.belowW L3
  have hX3 := hX1.belowW L3
  have L3' := stepW L2 L3
  have hO : RdO w3 (fun k => S1 k ∨ k = gx) Aw (n + 1) ((b ++ [171]).map bv) := ⟨hrw, fun _ a ha hs => by
    have h1 := hAw a ha
    rcases hs with h2 | h2
    · have := hlt1 _ h2; omega
    · omega⟩
  have hR0 : FRel w b n n2 g gx Aw 0 0 p0 S1 (fun k => k = gx) w3 := ⟨Nat.zero_le _, Nat.zero_le _, Nat.le_refl _, p0_inv, p0_pb, hK3, hX3, fun k h1 h2 => by have := hlt1 _ h1; omega, hS1, fun k hk => by rw [hk]; exact hgw, hO, L3'⟩
  clear hK2 hX1 hK3 hX3 hrw hlt1 hz1 L2 L3 L3' hO
  go_wp2
  go_loopw [7, 9] (fun x7 i wr => ∃ (a j : Nat) (r : PS) (S X : Nat → Prop), x7 = .int .i64 a ∧ i = .int .i64 j ∧ FRel w b n n2 g gx Aw a j r S X wr) (fun _ i _ => n2 + 1 - (intOf i).toNat)
  case atStart => exact ⟨0, 0, p0, S1, _, rfl, rfl, hR0⟩
  case round =>
    obtain ⟨a, j, r, S, X, rfl, rfl, ha, hj, hfed, hI, hB, hKr, hXr, hdis, hSw, hXw, hO, L⟩ := hrel
    have hmr := hm.below L (Nat.le_refl _)
    have hAr2 := hA2.below L
    have hS := L.size
    by_cases hjn2 : j ≤ n2
    · obtain ⟨D, hD⟩ : ∃ D : Nat, D = n - a := ⟨_, rfl⟩
      have hD2 : (n : Int) - (a : Int) = (D : Int) := by omega
      have hDn : D + a = n := by omega
      have HDn := Lib.hid hDn
      clear hD hDn
      go_upto_if 49 with (fail)
      go_cut [10] (fun v wx => ∃ k : Nat, v = .int .i64 k ∧ k ≤ D ∧ wr = wx)
      case first =>
        by_cases hlt : j < n2
        · obtain ⟨z, hz, -⟩ := drop_list zs j (by omega)
          obtain ⟨b1, o1, rfl, hb1, hx1⟩ := hAr2.2 (by omega)
          have cx := hx1 j (.int .i64 z) (map_get _ _ _ _ hz)
          clear hz hx1
          go_wp2_with fail
          go_meet
          case rel => exact ⟨min D (z % 64).toNat, by rw [Value.int.injEq]; exact ⟨rfl, by omega⟩, by omega, rfl⟩
        · go_wp2_with fail
          go_meet
          case rel => exact ⟨D, rfl, Nat.le_refl _, rfl⟩
      case rest =>
        obtain ⟨k, rfl, hkD, rfl⟩ := hcut
        have hDn := HDn.out
        have hak : a + k ≤ n := by omega
        obtain ⟨h, hh⟩ : ∃ h, h = k / 2 := ⟨_, rfl⟩
        have hh2 : (k : Int) / 2 = (h : Int) := by omega
        have hhk : h ≤ k := by omega
        have HH := Lib.hid hh
        clear hh
        obtain ⟨bw, ow, rfl, hbw, -⟩ := hO.1.2 (by omega)
        obtain ⟨q, hq⟩ : ∃ q, q = pFeed r ((b.drop a).take k) := ⟨_, rfl⟩
        have hq1 : q.2.fed ≤ a + q.1 := by rw [hq]; have := pFeed_fed ((b.drop a).take k) r; omega
        have hqk : q.1 ≤ k := by rw [hq]; have := pFeed_le ((b.drop a).take k) r; rw [List.length_take] at this; omega
        have hqi : PInv q.2 := by rw [hq]; exact pFeed_inv _ _ hI
        have hqb : PB q.2 := by rw [hq]; exact pFeed_pb _ _ hI hB
        have hltS : ∀ k, S k → k < wr.heap.size := fun k hk => hKr.lt hk
        have hOS : RdO wr S (some ⟨bw, ow, none⟩) (n + 1) ((b ++ [171]).map bv) := ⟨hO.1, fun h0 x hx hs => hO.2 h0 x hx (.inl hs)⟩
        have hdr : ∀ m x, x + m ≤ n → ((b ++ [171]).drop x).take m = (b.drop x).take m := fun m x hx => by rw [List.drop_append_of_le_length (by omega), List.take_append_of_le_length (by rw [List.length_drop]; omega)]
        have Lc := (allocW (Below.refl wr.heap.size wr) (.cells #[.slice (some ⟨bw, ow + a, none⟩) h (cw - a), .slice (some ⟨bw, ow + (a + h), none⟩) (k - h) (cw - (a + h))] 22)).drew
        have hC1 : Calls Tryz.prog 17 #[.pointer (some ⟨g, 0, none⟩), .slice (some ⟨wr.heap.size, 0, none⟩) 2 2] (wr.alloc (.cells #[.slice (some ⟨bw, ow + a, none⟩) h (cw - a), .slice (some ⟨bw, ow + (a + h), none⟩) (k - h) (cw - (a + h))] 22)).drew (FeedP (wr.alloc (.cells #[.slice (some ⟨bw, ow + a, none⟩) h (cw - a), .slice (some ⟨bw, ow + (a + h), none⟩) (k - h) (cw - (a + h))] 22)).drew g S q) := by
          have r1 := hOS.part (V := some ⟨bw, ow + a, none⟩) (a := a) (m := h) (by omega) (fun _ => by rw [Option.map_some, add_lit'])
          have r2 := hOS.part (V := some ⟨bw, ow + (a + h), none⟩) (a := a + h) (m := k - h) (by omega) (fun _ => by rw [Option.map_some, add_lit'])
          rw [hdr _ _ (by omega)] at r1 r2
          have rp := (RdP.two hltS wr.heap.size rfl 22 _ _ (by rw [List.length_take, List.length_drop]; omega) (by rw [List.length_take, List.length_drop]; omega) r1 r2 (show h ≤ cw - a by omega) (show k - h ≤ cw - (a + h) by omega)).drew
          have h9 := prs_FeedP g S r _ 2 2 _ _ (hKr.belowW Lc) hI rp (by rw [two_parts _ _ _ _ hhk, List.length_take]; omega) (by omega) (hmr.below Lc (Nat.le_refl _)) (hi_of hm hSw) (by decide)
          rw [two_parts _ _ _ _ hhk, ← hq] at h9
          exact h9
        have HQ := Lib.hid hq
        clear hq
        go_upto_region 12 with (fail)
        go_cut [11] (fun v11 wx => v11 = .int .i64 (q.1 : Int) ∧ ∃ (W0 : World) (S' : Nat → Prop), Below wr.heap.size wr W0 ∧ PR wx g S' q.2 ∧ Moved S S' W0 wx)
        case first =>
          have w1' : IntKind.i64.wrap (h : Int) = (h : Int) := IntWalk.i64_in _ (by omega)
          have w2' : IntKind.i64.wrap ((a : Int) + (h : Int)) = (a : Int) + (h : Int) := IntWalk.i64_in _ (by omega)
          have w3' : IntKind.i64.wrap ((a : Int) + (k : Int)) = (a : Int) + (k : Int) := IntWalk.i64_in _ (by omega)
          have t1 : ((a : Int) + (h : Int)).toNat = a + h := by omega
          have t2 : ((a : Int) + (k : Int)).toNat = a + k := by omega
          have c1 : (a : Int) + (h : Int) ≤ (cw : Int) := by omega
          have c2' : (a : Int) + (k : Int) ≤ (cw : Int) := by omega
          have c3 : (0 : Int) ≤ (a : Int) + (h : Int) := by omega
          have c4 : (0 : Int) ≤ (a : Int) + (k : Int) := by omega
          have c5 : ¬ cw = a := by omega
          have c6 : ¬ cw = a + h := by omega
          have c7 : a ≤ a + h := by omega
          have c8 : a + h ≤ a + k := by omega
          have c9 : a + h - a = h := by omega
          have c10 : a + k - (a + h) = k - h := by omega
          clear hdr hOS hltS hAr2 hO hA hA2 hKr hXr hdis hSw hXw hI hB hmr HH HQ HDn hq1 hqk hqi hqb kand
          go_region_held3 (fun _ => True) (exact trivial) ((go_at_call 17; refine hC1.mono ?_; rintro e w5 ⟨rfl, -, S5, k5, m5⟩))
          go_wp2_with fail
          go_meet
          case rel => exact ⟨rfl, _, S5, Lc, k5, m5⟩
        case rest =>
          obtain ⟨rfl, W0, S', LW, k5, m5⟩ := hcut
          obtain ⟨wx, rfl⟩ : ∃ wx, wx = wc := ⟨_, rfl⟩
          have L5 := moved_below m5 (stepW L LW) hSw
          have hSw' := moved_hs m5 (Nat.le_trans hS LW.size) hSw
          have hX5 := (hXr.belowW LW).fr m5.fr (fun k h1 h2 => hdis k h2 h1)
          have hltX : ∀ k, X k → k < wr.heap.size := fun k hk => hXr.lt hk
          have hdis' : ∀ k, S' k → ¬ X k := fun k h1 h2 => by
            rcases m5.foot k h1 with h3 | h3
            · exact hdis k h3 h2
            · have := hltX k h2; have := LW.size; omega
          have hO5 : RdO wx (fun k => S' k ∨ X k) (some ⟨bw, ow, none⟩) (n + 1) ((b ++ [171]).map bv) := (hO.belowW LW).moved ⟨m5.fr.mono fun k hk => .inl (.inl hk), fun k hk => by
            rcases hk with hk | hk
            · rcases m5.foot k hk with h3 | h3
              · exact .inl (.inl h3)
              · exact .inr h3
            · exact .inl (.inr hk)⟩
          have hAX : RdO wx X A n (b.map bv) := ⟨(hA.below L5).more L5.size, hA.off hXw⟩
          have hltX5 : ∀ k, X k → k < wx.heap.size := fun k hk => hX5.lt hk
          have hLc : ∀ (V1 V2 : Option Addr) (d1 d2 : Nat), Below wx.heap.size wx (wx.alloc (.cells #[.slice V1 h d1, .slice V2 (k - h) d2] 22)).drew := fun V1 V2 d1 d2 => (allocW (Below.refl wx.heap.size wx) _).drew
          have hC2 : ∀ (V1 V2 : Option Addr) (d1 d2 : Nat), h ≤ d1 → k - h ≤ d2 → (0 < h → V1 = A.map (·.add a)) → (0 < k - h → V2 = A.map (·.add (a + h))) → Calls Tryz.prog 25 #[.pointer (some ⟨gx, 0, none⟩), .slice (some ⟨wx.heap.size, 0, none⟩) 2 2] (wx.alloc (.cells #[.slice V1 h d1, .slice V2 (k - h) d2] 22)).drew (XFeedP (wx.alloc (.cells #[.slice V1 h d1, .slice V2 (k - h) d2] 22)).drew gx X q) := by
            intro V1 V2 d1 d2 hd1 hd2 hV1 hV2
            have r1 := hAX.part (V := V1) (a := a) (m := h) (by omega) hV1
            have r2 := hAX.part (V := V2) (a := a + h) (m := k - h) (by omega) hV2
            have rp := (RdP.two hltX5 wx.heap.size rfl 22 _ _ (by rw [List.length_take, List.length_drop]; omega) (by rw [List.length_take, List.length_drop]; omega) r1 r2 hd1 hd2).drew
            have h9 := xp_Feed gx X r _ 2 2 _ _ (hX5.belowW (hLc V1 V2 d1 d2)) hI hB rp (by rw [two_parts _ _ _ _ hhk, List.length_take]; omega) (by decide)
            rw [two_parts _ _ _ _ hhk, ← HQ.out] at h9
            exact h9
          clear hC1 hO hKr hXr hdis hOS hltS hdr Lc hAX LW m5 L hS hmr hI hB
          go_upto_region 13 with (fail)
          go_cut [12] (fun v12 wx' => v12 = .int .i64 (q.1 : Int) ∧ ∃ (W1 : World) (X' : Nat → Prop), Below wx.heap.size wx W1 ∧ XQ wx' gx X' q.2 ∧ Moved X X' W1 wx')
          case first =>
            have w1' : IntKind.i64.wrap (h : Int) = (h : Int) := IntWalk.i64_in _ (by omega)
            have w2' : IntKind.i64.wrap ((a : Int) + (h : Int)) = (a : Int) + (h : Int) := IntWalk.i64_in _ (by omega)
            have w3' : IntKind.i64.wrap ((a : Int) + (k : Int)) = (a : Int) + (k : Int) := IntWalk.i64_in _ (by omega)
            have t1 : ((a : Int) + (h : Int)).toNat = a + h := by omega
            have t2 : ((a : Int) + (k : Int)).toNat = a + k := by omega
            have c1 : (a : Int) + (h : Int) ≤ (c : Int) := by omega
            have c2' : (a : Int) + (k : Int) ≤ (c : Int) := by omega
            have c3 : (0 : Int) ≤ (a : Int) + (h : Int) := by omega
            have c4 : (0 : Int) ≤ (a : Int) + (k : Int) := by omega
            have c7 : a ≤ a + h := by omega
            have c8 : a + h ≤ a + k := by omega
            have c9 : a + h - a = h := by omega
            have c10 : a + k - (a + h) = k - h := by omega
            clear hAr2 hA2 k5 hX5 hSw' hSw hXw hdis' hO5 hqi hqb hq1 hqk HQ HDn HH kand hltX hltX5
            have hA0 := hA.2
            clear hA
            cases A with
            | none =>
              have hn0 : n = 0 := by rcases Nat.eq_zero_or_pos n with h9 | h9; exact h9; obtain ⟨_, _, e, _⟩ := hA0 h9; cases e
              have hC3 := hC2 none none (c - a) (c - (a + h)) (by omega) (by omega) (fun _ => rfl) (fun _ => rfl)
              clear hA0 hn0
              clear hC2
              go_region_held3 (fun _ => True) (exact trivial) ((go_at_call 25; refine hC3.mono ?_; rintro e w5 ⟨rfl, X5, k6, m6⟩))
              go_wp2_with fail
              go_meet
              case rel => exact ⟨rfl, _, X5, (allocW (Below.refl wx.heap.size wx) _).drew, k6, m6⟩
            | some x =>
              clear hA0
              by_cases hac : c = a
              · obtain rfl : h = 0 := by omega
                obtain rfl : k = 0 := by omega
                subst hac
                have hC3 := hC2 (some x) (some x) 0 0 (by omega) (by omega) (fun h9 => by omega) (fun h9 => by omega)
                rw [Nat.sub_self] at hC3
                have wa : IntKind.i64.wrap (c : Int) = (c : Int) := IntWalk.i64_in _ (by omega)
                have w0' : IntKind.i64.wrap 0 = 0 := IntWalk.i64_in _ (by omega)
                clear hC2 w1' w2' w3' t1 t2 c1 c2' c3 c4 c7 c8 c9 c10 hh2
                go_region_held3 (fun _ => True) (exact trivial) ((go_at_call 25; refine hC3.mono ?_; rintro e w5 ⟨rfl, X5, k6, m6⟩))
                go_wp2_with fail
                go_meet
                case rel => exact ⟨rfl, _, X5, (allocW (Below.refl wx.heap.size wx) _).drew, k6, m6⟩
              · by_cases hch : c = a + h
                · obtain rfl : k = h := by omega
                  subst hch
                  have hC3 := hC2 (some (x.add a)) (some x) k 0 (by omega) (by omega) (fun _ => rfl) (fun h9 => by omega)
                  rw [Nat.sub_self] at hC3
                  have hk0 : ¬ k = 0 := by omega
                  clear hC2
                  go_region_held3 (fun _ => True) (exact trivial) ((go_at_call 25; refine hC3.mono ?_; rintro e w5 ⟨rfl, X5, k6, m6⟩))
                  go_wp2_with fail
                  go_meet
                  case rel => exact ⟨rfl, _, X5, (allocW (Below.refl wx.heap.size wx) _).drew, k6, m6⟩
                · have hC3 := hC2 (some (x.add a)) (some (x.add (a + h))) (c - a) (c - (a + h)) (by omega) (by omega) (fun _ => rfl) (fun _ => rfl)
                  clear hC2
                  go_region_held3 (fun _ => True) (exact trivial) ((go_at_call 25; refine hC3.mono ?_; rintro e w5 ⟨rfl, X5, k6, m6⟩))
                  go_wp2_with fail
                  go_meet
                  case rel => exact ⟨rfl, _, X5, (allocW (Below.refl wx.heap.size wx) _).drew, k6, m6⟩
          case rest =>
            obtain ⟨rfl, W1, X', LW1, kX, mX⟩ := hcut
            obtain ⟨wy, rfl⟩ : ∃ wy, wy = wc := ⟨_, rfl⟩
            have L7 := moved_below mX (stepW L5 LW1) hXw
            have hXw' := moved_hs mX (Nat.le_trans L5.size LW1.size) hXw
            have hltS' : ∀ k, S' k → k < wx.heap.size := fun k hk => k5.lt hk
            have kP := (k5.belowW LW1).fr mX.fr hdis'
            have hd2 : ∀ k, S' k → ¬ X' k := fun k h1 h2 => by
              rcases mX.foot k h2 with h3 | h3
              · exact hdis' k h1 h3
              · have := hltS' k h1; have := LW1.size; omega
            have hO7 := (hO5.belowW LW1).movR mX
            have hrl := rT_len q.2 hqi
            have hqi2 := pT_inv q.2 hqi
            have hqb2 := pT_pb q.2 hqb
            have hfd2 := pT_fed q.2
            obtain ⟨hE0, hE4⟩ := eT_le q.2
            have hst1 := law_stood g gx S' X' q.2 wy kP kX hqi
            have hT1 := fun w' (L : Below wy.heap.size wy w') => prs_TakeA g S' q.2 w' (kP.belowW L) hqi
            unfold TakeA rqV reqV at hT1
            obtain ⟨R, hR⟩ : ∃ R, R = rT q.2 := ⟨_, rfl⟩
            obtain ⟨E, hE⟩ : ∃ E, E = eT q.2 := ⟨_, rfl⟩
            rw [← hE] at hE0 hE4
            rw [← hR] at hrl
            simp only [← hR, ← hE] at hT1
            have HR := Lib.hid hR
            have HE := Lib.hid hE
            clear hR hE hC2 mX L5 k5 hX5 hdis' hO5 hltX5 hltX LW1 hLc hAr2 HQ HDn hXw
            go_wp2_with fail
            refine hst1.mono ?_
            rintro e w6 ⟨rfl, L6⟩
            go_wp2_with fail
            refine (hT1 w6 L6).mono ?_
            rintro e w7 ⟨AF, cF, AB, cB, rfl, hr7, ho7, S7, k7, m7⟩
            have kP6 := kP.belowW L6
            have kX6 := kX.belowW L6
            have hltX6 : ∀ k, X' k → k < w6.heap.size := fun k hk => kX6.lt hk
            have kX7 := kX6.fr m7.fr (fun k h1 h2 => hd2 k h2 h1)
            have hO8 := (hO7.belowW L6).movL m7
            have hd3 : ∀ k, S7 k → ¬ X' k := fun k h1 h2 => by
              rcases m7.foot k h1 with h3 | h3
              · exact hd2 k h3 h2
              · have := hltX6 k h2; omega
            have L7' := stepW L7 L6
            have L8 := moved_below m7 L7' hSw'
            have hS7 := moved_hs m7 L7'.size hSw'
            have hoX := ho7 X' (fun k hk => ⟨hltX6 k hk, fun h9 => hd2 k h9 hk⟩)
            have hltX7 : ∀ k, X' k → k < w7.heap.size := fun k hk => Nat.lt_of_lt_of_le (hltX6 k hk) m7.fr.size
            have La := allocW (Below.refl w7.heap.size w7) (.cells #[sv R.m, .int .i64 R.t.form, sv R.t.host, sv R.t.path, sv R.t.query, .int .i64 R.v, .slice AF R.f.length cF, .slice AB R.b.length cB, .bool R.c, .bool R.e] 31)
            have Ba := Blk.new w7 31 #[sv R.m, .int .i64 R.t.form, sv R.t.host, sv R.t.path, sv R.t.query, .int .i64 R.v, .slice AF R.f.length cF, .slice AB R.b.length cB, .bool R.c, .bool R.e]
            have hT2 := xp_TakeA gx X' q.2 _ (kX7.belowW La) hqi
            unfold XTakeA rqV reqV at hT2
            rw [← HR.out, ← HE.out] at hT2
            clear hT1 hst1 kP kX kP6 kX6 kX7 ho7 L7 L7' hO7 hd2 hltX6 hSw'
            go_wp2_with fail
            refine hT2.mono ?_
            rintro e w8 ⟨AF8, cF8, AB8, cB8, rfl, hr8, -, X8, k8, m8⟩
            have hr7b := (hr7.belowW La).fr hoX m8.fr
            have k7b := (k7.belowW La).fr m8.fr hd3
            have Bb := Ba.fr m8.fr (fun h9 => Nat.lt_irrefl _ (hltX7 _ h9))
            have L9 := moved_below m8 (stepW L8 La) hXw'
            have hX8 := moved_hs m8 (Nat.le_trans L8.size La.size) hXw'
            have hO9 := (hO8.belowW La).movR m8
            have hlt7 : ∀ k, S7 k → k < w7.heap.size := fun k hk => k7.lt hk
            have hd4 : ∀ k, S7 k → ¬ X8 k := fun k h1 h2 => by
              rcases m8.foot k h2 with h3 | h3
              · exact hd3 k h1 h3
              · have := hlt7 k h1; have := La.size; omega
            have Lb := allocW (Below.refl w8.heap.size w8) (.cells #[sv R.m, .int .i64 R.t.form, sv R.t.host, sv R.t.path, sv R.t.query, .int .i64 R.v, .slice AF8 R.f.length cF8, .slice AB8 R.b.length cB8, .bool R.c, .bool R.e] 31)
            have hq := law_request15 R AF AF8 AB AB8 cF cF8 cB cB8 _ (hr7b.belowW Lb) (hr8.belowW Lb) hrl.1 hrl.2
            obtain ⟨⟨a0, a1, a2, a3, a4, a5, a6, a7, a8, a9⟩, -⟩ := (Bb.belowW Lb).c10
            have Bd := Blk.new w8 31 #[sv R.m, .int .i64 R.t.form, sv R.t.host, sv R.t.path, sv R.t.query, .int .i64 R.v, .slice AF8 R.f.length cF8, .slice AB8 R.b.length cB8, .bool R.c, .bool R.e]
            obtain ⟨⟨b0, b1, b2, b3, b4, b5, b6, b7, b8, b9⟩, -⟩ := Bd.c10
            have kP9 := k7b.belowW Lb
            have kX9 := k8.belowW Lb
            have hO10 := hO9.belowW Lb
            have L10 := stepW L9 Lb
            clear hT2 hr7 hr8 hr7b hoX Ba Bb Bd k7 k7b k8 m8 m7 L8 L9 La Lb hO8 hO9 hd3 hltX7 hlt7 hXw'
            go_wp2_with fail
            refine hq.mono ?_
            rintro e w9 ⟨rfl, L11⟩
            have hst2 := law_stood g gx S7 X8 (pT q.2) w9 (kP9.belowW L11) (kX9.belowW L11) hqi2
            clear a0 a1 a2 a3 a4 a5 a6 a7 a8 a9 b0 b1 b2 b3 b4 b5 b6 b7 b8 b9 hq
            go_wp2_with fail
            refine hst2.mono ?_
            rintro e w10 ⟨rfl, L12⟩
            have LL := L11.trans (L12.mono L11.size)
            go_wp2_with fail
            go_roundw
            case rel => exact ⟨a + q.1, j + 1, pT q.2, S7, X8, by go_num, by go_num, by omega, by omega, by omega, hqi2, hqb2, kP9.belowW LL, kX9.belowW LL, hd4, hS7, hX8, hO10.belowW LL, stepW L10 LL⟩
            case measure => simp [intOf]; omega
    · have hst := law_stands15 Aw n cw A c b wr hO.1 ((hA.below L).more L.size) hcw (by omega)
      clear hO hKr hXr
      go_wp2_with fail
      refine hst.mono ?_
      rintro e w6 ⟨rfl, L6⟩
      have L7 := stepW L L6
      go_wp2_with fail
      refine (law_known15 w6 (hm.below L7 (Nat.le_refl _))).mono ?_
      rintro e w7 ⟨rfl, L8⟩
      go_wp2
      go_ret
      exact ⟨rfl, stepW L7 L8⟩
end Go.Proofs.YtdajfajnkikmdaaGreatDoor

/- The law SpecJoins. -/
import Derived.Test.YtbkakoboaophoaaGreatDoorSp5
import Derived.IntWalk
namespace Go.Proofs.YtbkakoboaophoaaGreatDoor
open Go.RowKit
set_option maxRecDepth 100000
set_option maxHeartbeats 1500000

theorem law_Joins16 (A1 : Option Addr) (n1 c1 : Nat) (a : Bs) (A2 : Option Addr) (n2 c2 : Nat) (b : Bs) (w : World) (hA : Rd w w.heap.size 1 A1 n1 (a.map bv)) (hB : Rd w w.heap.size 1 A2 n2 (b.map bv)) (hc1 : n1 ≤ c1) (hc2 : n2 ≤ c2) (hz1 : n1 ≤ 140737488355328) (hz2 : n2 ≤ 140737488355328) (hm : ML w) :
    Calls Tryz.prog 7 #[.slice A1 n1 c1, .slice A2 n2 c2] w fun e w' => e = .returned (.bool true) ∧ Below w.heap.size w w' := by
  have wn : IntKind.i64.wrap ((n1 : Int) + (n2 : Int)) = (n1 : Int) + (n2 : Int) := IntWalk.i64_in _ (by omega)
  by_cases hb : 6000 < n1 + n2
  · have hb' : (6000 : Int) < (n1 : Int) + (n2 : Int) := by omega
    go_enter Tryz.func7, Tryz.ntmps7
    go_wp2
    go_ret
    exact ⟨rfl, Below.refl _ _⟩
  have hle : n1 + n2 ≤ 6000 := by omega
  have hb' : ¬ (6000 : Int) < (n1 : Int) + (n2 : Int) := by omega
  clear hb
  have hal : a.length = n1 := by simpa using hA.1
  have hbl : b.length = n2 := by simpa using hB.1
  obtain ⟨R, ⟨U, P, T⟩, hR⟩ : ∃ R X, rdL a = (R, X) := ⟨_, _, rfl⟩
  obtain ⟨Q, ⟨V, O, Y⟩, hQ⟩ : ∃ R X, rdL b = (R, X) := ⟨_, _, rfl⟩
  have hC := (spc_Read A1 n1 c1 a w hA (by omega) hc1 hm).mono fun e w' h => h.q hal hR
  have HR := Lib.hid hR
  have HQ := Lib.hid hQ
  have HAL := Lib.hid hal
  have HBL := Lib.hid hbl
  clear hR hQ hal hbl
  have hg := fun (o o' : Operand) (xs ys : Array Value) (w : World) => run_guard_rs .eql o o' xs ys w
  have he := run_eql_rs ((n1 : Int) + (V : Int)) O Y
  go_enter Tryz.func7, Tryz.ntmps7
  go_wp2_with fail
  refine hC.mono ?_
  rintro e w2 ⟨A3, c3, l, rfl, hm2, hc3, hn2, rr2, L2⟩
  have La := allocW (Below.refl w2.heap.size w2) (.cells #[.int .i64 (U : Int), .int .i64 (P : Int), .int .i64 T] 42)
  have Ba := Blk.new w2 42 #[.int .i64 (U : Int), .int .i64 (P : Int), .int .i64 T]
  have L3 := stepW L2 La
  have rr3 := rr2.belowW La
  have hm3 := hm.below L3 (Nat.le_refl _)
  have hkn := law_known16 _ hm3
  have HM2 := Lib.hid hm2
  clear hC hm2 rr2
  go_upto_region 4 with (fail)
  generalize w2.alloc (.cells #[.int .i64 (U : Int), .int .i64 (P : Int), .int .i64 T] 42) = w3 at La Ba L3 rr3 hm3 hkn ⊢
  obtain ⟨k0, k1, k2, -, -, -⟩ := Ba.c3
  by_cases hp : P = 0
  case neg =>
    have hp' : ((P : Int) != 0) = true := by simp; omega
    go_wp2_with fail
    refine hkn.mono ?_
    rintro e w7 ⟨rfl, L7⟩
    go_wp2
    go_ret
    exact ⟨rfl, stepW L3 L7⟩
  subst hp
  rw [show ((0 : Nat) : Int) = 0 from rfl] at Ba k1
  by_cases hu : U = n1
  case neg =>
    have hu' : ((U : Int) != (n1 : Int)) = true := by simp; omega
    go_wp2_with fail
    refine hkn.mono ?_
    rintro e w7 ⟨rfl, L7⟩
    go_wp2
    go_ret
    exact ⟨rfl, stepW L3 L7⟩
  subst hu
  have hu' : ((U : Int) != (U : Int)) = false := by simp
  -- does the last one close?
  have key : (∃ m x, l.length = m + 1 ∧ l[m]? = some x ∧ x.r.c = true) ∨ (l.length = 0 ∧ ∀ r, R.getLast? = some r → r.c = false) ∨ (∃ m x, l.length = m + 1 ∧ l[m]? = some x ∧ x.r.c = false ∧ ∀ r, R.getLast? = some r → r.c = false) := by
    rcases Nat.eq_zero_or_pos l.length with h0 | h0
    · refine .inr (.inl ⟨h0, fun r hr => ?_⟩)
      have h1 : l = [] := List.eq_nil_of_length_eq_zero h0
      rw [← HM2.out, h1] at hr
      cases hr
    · obtain ⟨m, hmm⟩ : ∃ m, l.length = m + 1 := ⟨l.length - 1, by omega⟩
      obtain ⟨x, hx, -⟩ := drop_list l m (by omega)
      have hlast : R.getLast? = some x.r := by
        rw [← HM2.out, List.getLast?_eq_getElem?, List.length_map, hmm, Nat.add_sub_cancel, List.getElem?_map, hx]; rfl
      cases hc : x.r.c
      · exact .inr (.inr ⟨m, x, hmm, hx, hc, fun r hr => by rw [hlast] at hr; injection hr with hr; rw [← hr]; exact hc⟩)
      · exact .inl ⟨m, x, hmm, hx, hc⟩
  have finish : (∀ r, R.getLast? = some r → r.c = false) → rdL (a ++ b) = (R ++ Q, ⟨U + V, O, Y⟩) := by
    intro hcl
    have h := rdL_join a b (by rw [HR.out]) (by rw [HR.out, HAL.out]) (by rw [HR.out]; exact hcl)
    rw [HR.out, HQ.out, HAL.out] at h
    exact h
  have hV2 : V ≤ n2 := by have := rdL_used b; rw [HQ.out, HBL.out] at this; exact this
  have hB3 := (hB.below L3).more L3.size
  have hA3 := (hA.below L3).more L3.size
  have hC2 := (spc_Read A2 n2 c2 b _ hB3 (by omega) hc2 hm3).mono fun e w' h => h.q HBL.out HQ.out
  obtain ⟨i8, hi8, hy0, hy1, hy2⟩ := info_parts info_u8
  have wv : IntKind.i64.wrap ((U : Int) + (V : Int)) = (U : Int) + (V : Int) := IntWalk.i64_in _ (by omega)
  clear hB
  rcases key with ⟨m, x, hlm, hx, hxc⟩ | ⟨h0, hcl⟩ | ⟨m, x, hlm, hx, hxc, hcl⟩
  · obtain ⟨b1, o1, rfl, hb1, -, -, -, -, -, -, -, -, x8, -⟩ := rr3.at_ hx
    rw [hxc] at x8
    have wm : IntKind.i64.wrap (m : Int) = (m : Int) := IntWalk.i64_in _ (by omega)
    clear hC2 finish hx hB3 hA3 rr3
    rw [hlm] at hn2 hc3 ⊢
    go_wp2_with fail
    refine hkn.mono ?_
    rintro e w7 ⟨rfl, L7⟩
    go_wp2
    go_ret
    exact ⟨rfl, stepW L3 L7⟩
  · have h0a : ¬ (0 : Int) < (l.length : Int) := by omega
    have h0b : ¬ 0 < l.length := by omega
    have h0c : decide (0 < l.length) = false := decide_eq_false h0b
    have H0 := Lib.hid h0
    clear h0
    go_upto_region 6 with (fail)
    clear h0a h0b h0c
    go_wp2_with fail
    refine hC2.mono ?_
    rintro e w4 ⟨A4, c4, l4, rfl, hm4, hc4, hn4, rr4, L4⟩
    have HM4 := Lib.hid hm4
    have Lb := allocW (Below.refl w4.heap.size w4) (.cells #[.int .i64 (V : Int), .int .i64 (O : Int), .int .i64 Y] 42)
    have Bb := Blk.new w4 42 #[.int .i64 (V : Int), .int .i64 (O : Int), .int .i64 Y]
    have L5 := stepW L4 Lb
    have L5w := stepW L3 L5
    have rr5 := rr4.belowW Lb
    have hA5 := (hA3.belowW (Nat.le_refl _) L5).more L5.size
    have hB5 := (hB3.belowW (Nat.le_refl _) L5).more L5.size
    have rr3' := rr3.belowW L5
    clear hC2 hm4 hA3 hB3 rr4 rr3 hkn k0 k1 k2
    go_upto_region 7 with (fail)
    generalize w4.alloc (.cells #[.int .i64 (V : Int), .int .i64 (O : Int), .int .i64 Y] 42) = w5 at Lb Bb L5 L5w rr5 hA5 hB5 rr3' ⊢
    go_wp2_with (first
      | (at_builtin
         refine wpList_append_Own _ rfl (.tmp 53) (.tmp 54) 22 22 rfl w5.heap.size 5 i8 _ 1 1 Tryz.underlying22 (.inl Tryz.underlying22) hi8 hy0 hy1 hy2 rfl (by decide) (.slice (some ⟨w5.heap.size, 0, none⟩) 0 0) 0 [] rfl (Own.lit _ _ rfl _ (Nat.le_refl _) _ 1 0 [] rfl (by decide)) _ U (a.map bv) rfl (Src.of_rd (hA5.alloc (Nat.le_refl _) _) (by intro u hu; obtain ⟨x, -, rfl⟩ := List.mem_map.1 hu; rfl)) (by unfold maxLen; omega) (by omega) (by simp) ?_
         intro v1 w6 ho1 hg1 hat1
         obtain ⟨A6, c6, hv1, n6, m6, r6, q6⟩ := ho1.rd
         subst hv1
         have ho1 : Own w6 w5.heap.size 5 1 (.slice A6 U c6) U (a.map bv) := by simpa using ho1
         have L6 : Below w5.heap.size w5 w6 := growW (allocW (Below.refl w5.heap.size w5) _) hg1 (fun j hj => by cases hj; exact Nat.le_refl _))
      | (at_builtin
         refine wpList_append_Own _ rfl (.tmp 55) (.tmp 56) 22 22 rfl w5.heap.size 5 i8 _ 1 1 Tryz.underlying22 (.inl Tryz.underlying22) hi8 hy0 hy1 hy2 rfl (by decide) (.slice A6 U c6) U _ rfl ho1 _ n2 (b.map bv) rfl (Src.of_rd ((hB5.belowW (Nat.le_refl _) L6).more L6.size) (by intro u hu; obtain ⟨x, -, rfl⟩ := List.mem_map.1 hu; rfl)) (by unfold maxLen; omega) (by omega) L6.size ?_
         intro v2 w7 ho2 hg2 hat2
         obtain ⟨A7, c7, hv2, n7, m7, r7, q7⟩ := ho2.rd
         subst hv2
         have L7 : Below w5.heap.size w5 w7 := growW L6 hg2 (fun j hj => (ho1.lt j hj).1)))
    rw [← List.map_append] at r7
    have L7w := stepW L5w L7
    have hab : (a ++ b).length = U + n2 := by rw [List.length_append, HAL.out, HBL.out]
    have hC3 := (spc_Read A7 (U + n2) c7 (a ++ b) w7 r7 (by omega) n7 (hm.below L7w (Nat.le_refl _))).mono fun e w' h => h.qI (U := (U : Int) + (V : Int)) hab (finish hcl) (by omega)
    clear hab r7 ho1 ho2 hg1 hg2 hat1 hat2 r6 hA5 hB5 finish hcl
    refine hC3.mono ?_
    rintro e w8 ⟨A8, c8, l8, rfl, hm8, hc8, hn8, rr8, L8⟩
    have hlen : l8.length = l.length + l4.length := by
      have h1 := congrArg List.length hm8
      rw [List.length_map, List.length_append, ← HM2.out, ← HM4.out, List.length_map, List.length_map] at h1
      exact h1
    have ht1 : (l8.take l.length).map RP.r = l.map RP.r := by
      have h2 : R.length = l.length := by rw [← HM2.out, List.length_map]
      rw [List.map_take, hm8, ← h2, List.take_left, HM2.out]
    have ht2 : (l8.drop l.length).map RP.r = l4.map RP.r := by
      have h2 : R.length = l.length := by rw [← HM2.out, List.length_map]
      rw [List.map_drop, hm8, ← h2, List.drop_left, HM4.out]
    have Lc := allocW (Below.refl w8.heap.size w8) (.cells #[.int .i64 ((U : Int) + (V : Int)), .int .i64 (O : Int), .int .i64 Y] 42)
    have Bc := Blk.new w8 42 #[.int .i64 ((U : Int) + (V : Int)), .int .i64 (O : Int), .int .i64 Y]
    have L9 := stepW (stepW L7 L8) Lc
    have L9w := stepW L5w L9
    have rr9 := rr8.belowW Lc
    have hq1 := law_requests16 A8 l.length c8 (l8.take l.length) A3 l.length c3 l _ (rr9.cut (by omega)) (rr3'.belowW L9) ht1 (by omega)
    have hq2 := fun (X : Option Addr) (d : Nat) (hX : 0 < l8.length - l.length → X = A8.map (·.add (l.length * 10))) w' (L : Below _ _ w') => law_requests16 X (l8.length - l.length) d (l8.drop l.length) A4 l4.length c4 l4 w' ((rr9.part (by omega) hX).belowW L) ((rr5.belowW L9).belowW L) ht2 (by omega)
    have hd4 : l8.length - l.length = l4.length := by omega
    have Bb9 := Bb.belowW L9
    have HD4 := Lib.hid hd4
    have HLEN := Lib.hid hlen
    have hl0 : l.length ≤ c8 := by omega
    have hl1 : l.length ≤ l8.length := by omega
    clear hC3 hm8 ht1 ht2 rr8 rr5 rr3' hd4 hlen Bb
    go_upto_region 8 with (fail)
    generalize w8.alloc (.cells #[.int .i64 ((U : Int) + (V : Int)), .int .i64 (O : Int), .int .i64 Y] 42) = w9 at Lc Bc L9 L9w rr9 hq1 hq2 Bb9 ⊢
    have wl : IntKind.i64.wrap ((l.length : Int) + (l4.length : Int)) = (l.length : Int) + (l4.length : Int) := IntWalk.i64_in _ (by omega)
    have hne : ((l8.length : Int) != (l.length : Int) + (l4.length : Int)) = false := by have := HLEN.out; simp; omega
    go_wp2_with fail
    refine hq1.mono ?_
    rintro e w10 ⟨rfl, L10⟩
    have Bb10 := Bb9.belowW L10
    have Bc10 := Bc.belowW L10
    cases A8 with
    | none =>
      have hq3 := hq2 none (c8 - l.length) (fun _ => rfl) w10 L10
      clear hq1 hq2 rr9
      go_wp2_with fail
      refine hq3.mono ?_
      rintro e w11 ⟨rfl, L11⟩
      obtain ⟨x0, x1, x2, -, -, -⟩ := (Bb10.belowW L11).c3
      obtain ⟨y0, y1, y2, -, -, -⟩ := (Bc10.belowW L11).c3
      have L11w := stepW (stepW L9w L10) L11
      go_wp2_with fail
      refine (law_known16 w11 (hm.below L11w (Nat.le_refl _))).mono ?_
      rintro e w12 ⟨rfl, L12⟩
      go_wp2
      go_ret
      exact ⟨rfl, stepW L11w L12⟩
    | some x =>
      by_cases hcl : c8 = l.length
      · have hq3 := hq2 (some x) 0 (fun h9 => by omega) w10 L10
        clear hq1 hq2 rr9
        go_wp2_with fail
        refine hq3.mono ?_
        rintro e w11 ⟨rfl, L11⟩
        obtain ⟨x0, x1, x2, -, -, -⟩ := (Bb10.belowW L11).c3
        obtain ⟨y0, y1, y2, -, -, -⟩ := (Bc10.belowW L11).c3
        have L11w := stepW (stepW L9w L10) L11
        go_wp2_with fail
        refine (law_known16 w11 (hm.below L11w (Nat.le_refl _))).mono ?_
        rintro e w12 ⟨rfl, L12⟩
        go_wp2
        go_ret
        exact ⟨rfl, stepW L11w L12⟩
      · have hq3 := hq2 (some (x.add (l.length * 10))) (c8 - l.length) (fun _ => rfl) w10 L10
        clear hq1 hq2 rr9
        go_wp2_with fail
        refine hq3.mono ?_
        rintro e w11 ⟨rfl, L11⟩
        obtain ⟨x0, x1, x2, -, -, -⟩ := (Bb10.belowW L11).c3
        obtain ⟨y0, y1, y2, -, -, -⟩ := (Bc10.belowW L11).c3
        have L11w := stepW (stepW L9w L10) L11
        go_wp2_with fail
        refine (law_known16 w11 (hm.below L11w (Nat.le_refl _))).mono ?_
        rintro e w12 ⟨rfl, L12⟩
        go_wp2
        go_ret
        exact ⟨rfl, stepW L11w L12⟩
  · have HLM := Lib.hid hlm
    obtain ⟨b1, o1, e1, hb1, -, -, -, -, -, -, -, -, x8, -⟩ := rr3.at_ hx
    rw [hxc] at x8
    subst e1
    have wm : IntKind.i64.wrap ((l.length : Int) - 1) = (l.length : Int) - 1 := IntWalk.i64_in _ (by omega)
    have tm : ((l.length : Int) - 1).toNat = m := by omega
    have lm : m < l.length := by omega
    have h0' : decide ((0 : Int) < (l.length : Int)) = true := decide_eq_true (by omega)
    clear hlm hx
    go_upto_region 6 with (fail)
    clear h0' x8 wm tm
    go_wp2_with fail
    refine hC2.mono ?_
    rintro e w4 ⟨A4, c4, l4, rfl, hm4, hc4, hn4, rr4, L4⟩
    have HM4 := Lib.hid hm4
    have Lb := allocW (Below.refl w4.heap.size w4) (.cells #[.int .i64 (V : Int), .int .i64 (O : Int), .int .i64 Y] 42)
    have Bb := Blk.new w4 42 #[.int .i64 (V : Int), .int .i64 (O : Int), .int .i64 Y]
    have L5 := stepW L4 Lb
    have L5w := stepW L3 L5
    have rr5 := rr4.belowW Lb
    have hA5 := (hA3.belowW (Nat.le_refl _) L5).more L5.size
    have hB5 := (hB3.belowW (Nat.le_refl _) L5).more L5.size
    have rr3' := rr3.belowW L5
    clear hC2 hm4 hA3 hB3 rr4 rr3 hkn k0 k1 k2
    go_upto_region 7 with (fail)
    generalize w4.alloc (.cells #[.int .i64 (V : Int), .int .i64 (O : Int), .int .i64 Y] 42) = w5 at Lb Bb L5 L5w rr5 hA5 hB5 rr3' ⊢
    go_wp2_with (first
      | (at_builtin
         refine wpList_append_Own _ rfl (.tmp 53) (.tmp 54) 22 22 rfl w5.heap.size 5 i8 _ 1 1 Tryz.underlying22 (.inl Tryz.underlying22) hi8 hy0 hy1 hy2 rfl (by decide) (.slice (some ⟨w5.heap.size, 0, none⟩) 0 0) 0 [] rfl (Own.lit _ _ rfl _ (Nat.le_refl _) _ 1 0 [] rfl (by decide)) _ U (a.map bv) rfl (Src.of_rd (hA5.alloc (Nat.le_refl _) _) (by intro u hu; obtain ⟨x, -, rfl⟩ := List.mem_map.1 hu; rfl)) (by unfold maxLen; omega) (by omega) (by simp) ?_
         intro v1 w6 ho1 hg1 hat1
         obtain ⟨A6, c6, hv1, n6, m6, r6, q6⟩ := ho1.rd
         subst hv1
         have ho1 : Own w6 w5.heap.size 5 1 (.slice A6 U c6) U (a.map bv) := by simpa using ho1
         have L6 : Below w5.heap.size w5 w6 := growW (allocW (Below.refl w5.heap.size w5) _) hg1 (fun j hj => by cases hj; exact Nat.le_refl _))
      | (at_builtin
         refine wpList_append_Own _ rfl (.tmp 55) (.tmp 56) 22 22 rfl w5.heap.size 5 i8 _ 1 1 Tryz.underlying22 (.inl Tryz.underlying22) hi8 hy0 hy1 hy2 rfl (by decide) (.slice A6 U c6) U _ rfl ho1 _ n2 (b.map bv) rfl (Src.of_rd ((hB5.belowW (Nat.le_refl _) L6).more L6.size) (by intro u hu; obtain ⟨x, -, rfl⟩ := List.mem_map.1 hu; rfl)) (by unfold maxLen; omega) (by omega) L6.size ?_
         intro v2 w7 ho2 hg2 hat2
         obtain ⟨A7, c7, hv2, n7, m7, r7, q7⟩ := ho2.rd
         subst hv2
         have L7 : Below w5.heap.size w5 w7 := growW L6 hg2 (fun j hj => (ho1.lt j hj).1)))
    rw [← List.map_append] at r7
    have L7w := stepW L5w L7
    have hab : (a ++ b).length = U + n2 := by rw [List.length_append, HAL.out, HBL.out]
    have hC3 := (spc_Read A7 (U + n2) c7 (a ++ b) w7 r7 (by omega) n7 (hm.below L7w (Nat.le_refl _))).mono fun e w' h => h.qI (U := (U : Int) + (V : Int)) hab (finish hcl) (by omega)
    clear hab r7 ho1 ho2 hg1 hg2 hat1 hat2 r6 hA5 hB5 finish hcl
    refine hC3.mono ?_
    rintro e w8 ⟨A8, c8, l8, rfl, hm8, hc8, hn8, rr8, L8⟩
    have hlen : l8.length = l.length + l4.length := by
      have h1 := congrArg List.length hm8
      rw [List.length_map, List.length_append, ← HM2.out, ← HM4.out, List.length_map, List.length_map] at h1
      exact h1
    have ht1 : (l8.take l.length).map RP.r = l.map RP.r := by
      have h2 : R.length = l.length := by rw [← HM2.out, List.length_map]
      rw [List.map_take, hm8, ← h2, List.take_left, HM2.out]
    have ht2 : (l8.drop l.length).map RP.r = l4.map RP.r := by
      have h2 : R.length = l.length := by rw [← HM2.out, List.length_map]
      rw [List.map_drop, hm8, ← h2, List.drop_left, HM4.out]
    have Lc := allocW (Below.refl w8.heap.size w8) (.cells #[.int .i64 ((U : Int) + (V : Int)), .int .i64 (O : Int), .int .i64 Y] 42)
    have Bc := Blk.new w8 42 #[.int .i64 ((U : Int) + (V : Int)), .int .i64 (O : Int), .int .i64 Y]
    have L9 := stepW (stepW L7 L8) Lc
    have L9w := stepW L5w L9
    have rr9 := rr8.belowW Lc
    have hq1 := law_requests16 A8 l.length c8 (l8.take l.length) _ l.length c3 l _ (rr9.cut (by omega)) (rr3'.belowW L9) ht1 (by omega)
    have hq2 := fun (X : Option Addr) (d : Nat) (hX : 0 < l8.length - l.length → X = A8.map (·.add (l.length * 10))) w' (L : Below _ _ w') => law_requests16 X (l8.length - l.length) d (l8.drop l.length) A4 l4.length c4 l4 w' ((rr9.part (by omega) hX).belowW L) ((rr5.belowW L9).belowW L) ht2 (by omega)
    have hd4 : l8.length - l.length = l4.length := by omega
    have Bb9 := Bb.belowW L9
    have HD4 := Lib.hid hd4
    have HLEN := Lib.hid hlen
    have hl0 : l.length ≤ c8 := by omega
    have hl1 : l.length ≤ l8.length := by omega
    clear hC3 hm8 ht1 ht2 rr8 rr5 rr3' hd4 hlen Bb
    go_upto_region 8 with (fail)
    generalize w8.alloc (.cells #[.int .i64 ((U : Int) + (V : Int)), .int .i64 (O : Int), .int .i64 Y] 42) = w9 at Lc Bc L9 L9w rr9 hq1 hq2 Bb9 ⊢
    have wl : IntKind.i64.wrap ((l.length : Int) + (l4.length : Int)) = (l.length : Int) + (l4.length : Int) := IntWalk.i64_in _ (by omega)
    have hne : ((l8.length : Int) != (l.length : Int) + (l4.length : Int)) = false := by have := HLEN.out; simp; omega
    go_wp2_with fail
    refine hq1.mono ?_
    rintro e w10 ⟨rfl, L10⟩
    have Bb10 := Bb9.belowW L10
    have Bc10 := Bc.belowW L10
    cases A8 with
    | none =>
      have hq3 := hq2 none (c8 - l.length) (fun _ => rfl) w10 L10
      clear hq1 hq2 rr9
      go_wp2_with fail
      refine hq3.mono ?_
      rintro e w11 ⟨rfl, L11⟩
      obtain ⟨x0, x1, x2, -, -, -⟩ := (Bb10.belowW L11).c3
      obtain ⟨y0, y1, y2, -, -, -⟩ := (Bc10.belowW L11).c3
      have L11w := stepW (stepW L9w L10) L11
      go_wp2_with fail
      refine (law_known16 w11 (hm.below L11w (Nat.le_refl _))).mono ?_
      rintro e w12 ⟨rfl, L12⟩
      go_wp2
      go_ret
      exact ⟨rfl, stepW L11w L12⟩
    | some x =>
      by_cases hcl : c8 = l.length
      · have hq3 := hq2 (some x) 0 (fun h9 => by omega) w10 L10
        clear hq1 hq2 rr9
        go_wp2_with fail
        refine hq3.mono ?_
        rintro e w11 ⟨rfl, L11⟩
        obtain ⟨x0, x1, x2, -, -, -⟩ := (Bb10.belowW L11).c3
        obtain ⟨y0, y1, y2, -, -, -⟩ := (Bc10.belowW L11).c3
        have L11w := stepW (stepW L9w L10) L11
        go_wp2_with fail
        refine (law_known16 w11 (hm.below L11w (Nat.le_refl _))).mono ?_
        rintro e w12 ⟨rfl, L12⟩
        go_wp2
        go_ret
        exact ⟨rfl, stepW L11w L12⟩
      · have hq3 := hq2 (some (x.add (l.length * 10))) (c8 - l.length) (fun _ => rfl) w10 L10
        clear hq1 hq2 rr9
        go_wp2_with fail
        refine hq3.mono ?_
        rintro e w11 ⟨rfl, L11⟩
        obtain ⟨x0, x1, x2, -, -, -⟩ := (Bb10.belowW L11).c3
        obtain ⟨y0, y1, y2, -, -, -⟩ := (Bc10.belowW L11).c3
        have L11w := stepW (stepW L9w L10) L11
        go_wp2_with fail
        refine (law_known16 w11 (hm.below L11w (Nat.le_refl _))).mono ?_
        rintro e w12 ⟨rfl, L12⟩
        go_wp2
        go_ret
        exact ⟨rfl, stepW L11w L12⟩
end Go.Proofs.YtbkakoboaophoaaGreatDoor

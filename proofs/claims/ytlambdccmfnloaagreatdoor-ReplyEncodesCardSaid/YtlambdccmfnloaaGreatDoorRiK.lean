/- ReplyEncodes. -/
import Derived.Test.YtlambdccmfnloaaGreatDoorRiE
import Derived.Test.YtlambdccmfnloaaGreatDoorRiD
import Derived.Test.YtlambdccmfnloaaGreatDoorRfC
namespace Go.Proofs.YtlambdccmfnloaaGreatDoor
open Go.RowKit
set_option maxRecDepth 100000
set_option maxHeartbeats 4000000

theorem Rd.zero (w : World) (B size : Nat) (A : Option Addr) : Rd w B size A 0 [] := ⟨by simp, fun h => absurd h (by decide)⟩
theorem law_Encodes (x : RsP) (head : Bool) (minor : Int) (close : Bool) (A : Option Addr) (n c : Nat) (bh : Bs) (w : World) (hB : Rd w w.heap.size 1 A n (bh.map bv))
    (hR : RsR w x) (hz : ∀ f ∈ x.r.f, f.1.length ≤ 140737488355328 ∧ f.2.length ≤ 140737488355328) (hm : x.cf ≤ maxLen ∧ x.cb ≤ maxLen ∧ x.cp ≤ maxLen) (htz : TZ w) (ht : Tab10 w) :
    Calls Tryz.prog 4 #[rsW x, .bool head, .int .i64 minor, .bool close, .slice A n c] w fun e w' => e = .returned (.bool true) ∧ Below w.heap.size w w' := by
  have hH := fun w' (h : RsR w' x) => law_heavy18 x w' h hz hm
  have hE := fun w' (h : RsR w' x) (hL : Light x.r) (t1 : TZ w') (t2 : Tab10 w') => rep_Encode x head minor close w' h (light_z hL) t1 t2 (fun _ => hL)
  have hE' := fun w' (h : RsR w' x) (hL : Light x.r) => ref_Encode x head minor close w' h (light_z hL) (fun _ => hL)
  have hbl : bh.length = n := by simpa using hB.1
  obtain ⟨r, Af, cf, Ab, cb, Ap, cp⟩ := x
  show Calls Tryz.prog 4 #[.agg #[.int .i64 r.st, .slice Af r.f.length cf, .slice Ab r.b.length cb, .slice Ap r.p.length cp], .bool head, .int .i64 minor, .bool close, .slice A n c] w fun e w' => e = .returned (.bool true) ∧ Below w.heap.size w w'
  have HBL := Lib.hid hbl
  clear hbl
  go_enter Tryz.func4, Tryz.ntmps4
  go_upto_region 1 with (fail)
  obtain ⟨V, hV⟩ : ∃ V, V = w.alloc (.cells #[.int .i64 r.st, .slice Af r.f.length cf, .slice Ab r.b.length cb, .slice Ap r.p.length cp] 46) := ⟨_, rfl⟩
  rw [← hV]
  have LV : Below w.heap.size w V := by rw [hV]; exact allocW (Below.refl _ _) _
  have BV : Blk V w.heap.size 46 #[.int .i64 r.st, .slice Af r.f.length cf, .slice Ab r.b.length cb, .slice Ap r.p.length cp] := by rw [hV]; exact Blk.new' _ _ rfl _ _
  clear hV
  have RV : RB V w.heap.size ⟨r, Af, cf, Ab, cb, Ap, cp⟩ := ⟨BV, hR.belowW LV⟩
  clear hR
  obtain ⟨x0, x1, x2, x3, -⟩ := BV.c4
  go_wp2_with fail
  refine (hH _ RV.row).mono ?_
  rintro e w1 ⟨rfl, L1⟩
  have N1 := stepW LV L1
  have R1 := RV.belowW L1
  clear x0 x1 x2 x3 BV RV hH L1 LV
  obtain ⟨x0, x1, x2, x3, -⟩ := R1.blk.c4
  cases hv : heavyR r
  · have hLt := light_of r hv
    by_cases hn : 4000 < n
    · have hn' : (4000 : Int) < (n : Int) := by omega
      clear hn
      go_wp2_with fail
      go_ret
      exact ⟨rfl, N1⟩
    · have hn' : ¬ (4000 : Int) < (n : Int) := by omega
      have hE1 := hE _ R1.row hLt (htz.below N1 (Nat.le_refl _)) (tab_below ht N1 (Nat.le_refl _))
      rw [enc_light _ _ _ _ hLt] at hE1
      clear hv hE
      cases hone : isOneL r
      · rw [hone, if_neg (by decide)] at hE1
        go_wp2_with fail
        refine hE1.mono ?_
        intro e w2 hp
        obtain ⟨A2, c2, rfl, L2⟩ := hp.no
        have N2 := stepW N1 L2
        have R2 := R1.belowW L2
        clear x0 x1 x2 x3 hE1
        obtain ⟨x0, x1, x2, x3, -⟩ := R2.blk.c4
        have hE2 := hE' _ R2.row hLt
        rw [enc_light _ _ _ _ hLt, hone, if_neg (by decide)] at hE2
        clear hone hE'
        go_wp2_with fail
        refine hE2.mono ?_
        intro e w3 hp
        obtain ⟨A3, c3, rfl, L3⟩ := hp.no
        have N3 := stepW N2 L3
        have hS := law_same18 A2 0 c2 [] A3 0 c3 [] w3 (Rd.zero _ _ _ _) (Rd.zero _ _ _ _) (by decide)
        rw [decide_eq_true rfl] at hS
        go_wp2_with fail
        refine hS.mono ?_
        rintro e w4 ⟨rfl, L4⟩
        have N4 := stepW N3 L4
        go_wp2_with fail
        refine (law_known18 _ (htz.below N4 (Nat.le_refl _)) (tab_below ht N4 (Nat.le_refl _))).mono ?_
        rintro e w5 ⟨rfl, L5⟩
        go_wp2
        go_ret
        exact ⟨rfl, stepW N4 L5⟩
      · rw [hone, if_pos rfl] at hE1
        have hsh := all_short r head minor close hLt hone
        have hre := read_enc r head minor close bh hone (by have := hLt.b; omega)
        go_wp2_with fail
        refine hE1.mono ?_
        intro e w2 hp
        obtain ⟨A2, c2, rfl, hc2, hc2', -, hr2, L2⟩ := hp.yes
        have N2 := stepW N1 L2
        have R2 := R1.belowW L2
        clear x0 x1 x2 x3 hE1
        obtain ⟨x0, x1, x2, x3, -⟩ := R2.blk.c4
        have hE2 := hE' _ R2.row hLt
        rw [enc_light _ _ _ _ hLt, hone, if_pos rfl] at hE2
        clear hone hE'
        generalize allR r head minor close = b at *
        go_wp2_with fail
        refine hE2.mono ?_
        intro e w3 hp
        obtain ⟨A3, c3, rfl, hc3, hc3', -, hr3, L3⟩ := hp.yes
        have N3 := stepW N2 L3
        have hr2' : Rd w3 w3.heap.size 1 A2 b.length (b.map bv) := (hr2.belowW (Nat.le_refl _) L3).more L3.size
        have hS := law_same18 A2 b.length c2 b A3 b.length c3 b w3 hr2' hr3 (by unfold maxLen; omega)
        rw [decide_eq_true rfl] at hS
        clear hE2 hp
        go_wp2_with fail
        refine hS.mono ?_
        rintro e w4 ⟨rfl, L4⟩
        have N4 := stepW N3 L4
        have hr4 : Rd w4 w4.heap.size 1 A2 b.length (b.map bv) := (hr2'.belowW (Nat.le_refl _) L4).more L4.size
        have hB4 : Rd w4 w.heap.size 1 A n (bh.map bv) := hB.below N4
        have ho0 : OB (w4.alloc (.cells #[] 5)) w4.heap.size (.slice (some ⟨w4.heap.size, 0, none⟩) 0 0) [] := Own.lit w4 _ rfl _ (Nat.le_refl _) 5 1 0 [] rfl (by decide)
        have La := allocW (Below.refl w4.heap.size w4) (.cells #[] 5)
        have hbhl := HBL.out
        obtain ⟨Q, hQ⟩ : ∃ Q, b ++ bh = Q := ⟨_, rfl⟩
        have HQ := Lib.hid hQ
        rw [hQ] at hre
        have hQl : Q.length ≤ 70000 := by rw [← hQ, List.length_append]; omega
        clear hS hr2 hr2' hr3 hQ x0 x1 x2 x3
        go_wp2_with (first
          | (at_builtin
             refine wp_appRd rfl (.tmp 56) (.tmp 57) rfl w4.heap.size (.slice (some ⟨w4.heap.size, 0, none⟩) 0 0) [] rfl ho0 (Below.refl _ _) A2 b.length c2 _ rfl b (hr4.alloc (Nat.le_refl _) _) (by simp; omega) La.size ?_
             intro v5 w5 ho5 hx5
             rw [List.nil_append] at ho5
             have L5 := La.trans (hx5.below ho0 (Nat.le_refl _) La.size)
             have N5 := stepW N4 L5)
          | (at_builtin
             refine wp_appRd rfl (.tmp 58) (.tmp 59) rfl w4.heap.size v5 b rfl ho5 (Below.refl _ _) A n c _ rfl bh (hB.below N5) (by omega) L5.size ?_
             intro v6 w6 ho6 hx6
             rw [HQ.out] at ho6
             have L6 := L5.trans (hx6.below ho5 (Nat.le_refl _) L5.size)
             have N6 := stepW N4 L6
             obtain ⟨A6, c6, hv6, hc6, hc6', hr6⟩ := ho6.form
             subst hv6))
        have hRd := rep_Read A6 c6 Q head w6 hr6 (fun h => by
          by_cases hq : Q.length = 0
          · exact List.eq_nil_of_length_eq_zero hq
          · obtain ⟨b1, o1, h1, -⟩ := hr6.2 (by omega)
            rw [h] at h1; cases h1) (by omega)
        rw [hre] at hRd
        refine hRd.mono ?_
        rintro e w7 ⟨y, rfl, hy, hRy, L7⟩
        obtain ⟨yr, Ya, yf, Yb, yb, Yp, yp⟩ := y
        obtain rfl : yr = wantR r head minor := hy
        have N7 := stepW N6 L7
        have R7 := R1.belowW (stepW (stepW (stepW (stepW L2 L3) L4) L6) L7)
        obtain ⟨Y, hY⟩ : ∃ Y, wantR r head minor = Y := ⟨_, rfl⟩
        have HY := Lib.hid hY
        rw [hY] at hRy
        rw [hY]
        have hlf : r.f.length ≤ 100000 := by have := hLt.f; omega
        have hlb : r.b.length ≤ 100000 := by have := hLt.b; omega
        have hlp : r.p.length ≤ 100000 := by have := hLt.p; omega
        clear hRd hr4 hB4 ho0 La L2 L3 L4 hre hp hr6 hc6 hc6' hc3 hc3' hc2 hc2' hsh R1 R2 hm hz
        cases head
        · by_cases hmi : 0 < minor
          · clear hbhl
            have hY2 : Y = ⟨r.st, r.f, r.b, r.p⟩ := by rw [← HY.out, wantR]; rw [if_neg (by decide), if_neg (by decide), if_pos hmi]
            clear HY hY
            subst hY2
            have KY := Blk.new w7 46 #[.int .i64 r.st, .slice Ya r.f.length yf, .slice Yb r.b.length yb, .slice Yp r.p.length yp]
            have LY := allocW (Below.refl w7.heap.size w7) (.cells #[.int .i64 r.st, .slice Ya r.f.length yf, .slice Yb r.b.length yb, .slice Yp r.p.length yp] 46)
            have q8 := (R7.belowW LY).blk.c4
            have q := fun X Z : Value => (R7.belowW (allocW LY (.cells #[.int .i64 r.st, .slice Af r.f.length cf, X, Z] 46))).blk.c4
            have ky := fun X Z : Value => (KY.alloc (.cells #[.int .i64 r.st, .slice Af r.f.length cf, X, Z] 46)).c4
            have kw := fun X Z : Value => (Blk.new (w7.alloc (.cells #[.int .i64 r.st, .slice Ya r.f.length yf, .slice Yb r.b.length yb, .slice Yp r.p.length yp] 46)) 46 #[.int .i64 r.st, .slice Af r.f.length cf, X, Z]).c4
            have x0 := q8.1
            have x1 := q8.2.1
            have x2 := fun X Z => (q X Z).2.2.1
            have x3 := fun X Z => (q X Z).2.2.2.1
            have y0 := fun X Z => (ky X Z).1
            have y1 := fun X Z => (ky X Z).2.1
            have y2 := fun X Z => (ky X Z).2.2.1
            have y3 := fun X Z => (ky X Z).2.2.2.1
            have v0 := fun X Z => (kw X Z).1
            have v1 := fun X Z => (kw X Z).2.1
            have v2 := fun X Z => (kw X Z).2.2.1
            have v3 := fun X Z => (kw X Z).2.2.2.1
            have f2 := fun X Z => (kw X Z).2.2.2.2.2.2.1
            have f3 := fun X Z => (kw X Z).2.2.2.2.2.2.2
            have LW := allocW LY (.cells #[.int .i64 r.st, .slice Af r.f.length cf, .slice Ab r.b.length cb, .slice Ap r.p.length cp] 46)
            have RW := (R7.belowW LW).row
            have RYW := hRy.belowW LW
            have N9 := stepW N7 LW
            have hS := law_response18 ⟨r.st, r.f, r.b, r.p⟩ Ya Af Yb Ab Yp Ap yf cf yb cb yp cp _ RYW ⟨RW.rf, RW.rb, RW.rp, RW.cf, RW.cb, RW.cp⟩ hlf hlb hlp
            clear q q8 ky kw KY LY hRy
            go_wp2_with fail
            refine hS.mono ?_
            rintro e w8 ⟨rfl, L8⟩
            have N8 := stepW N9 L8
            go_wp2_with fail
            refine (law_known18 _ (htz.below N8 (Nat.le_refl _)) (tab_below ht N8 (Nat.le_refl _))).mono ?_
            rintro e w9 ⟨rfl, L9⟩
            go_wp2
            go_ret
            exact ⟨rfl, stepW N8 L9⟩
          · clear hbhl
            have hY2 : Y = ⟨r.st, r.f, r.b, []⟩ := by rw [← HY.out, wantR]; rw [if_neg (by decide), if_neg (by decide), if_neg hmi]
            clear HY hY
            subst hY2
            have KY := Blk.new w7 46 #[.int .i64 r.st, .slice Ya r.f.length yf, .slice Yb r.b.length yb, .slice Yp 0 yp]
            have LY := allocW (Below.refl w7.heap.size w7) (.cells #[.int .i64 r.st, .slice Ya r.f.length yf, .slice Yb r.b.length yb, .slice Yp 0 yp] 46)
            have q8 := (R7.belowW LY).blk.c4
            have q := fun X Z : Value => (R7.belowW (allocW LY (.cells #[.int .i64 r.st, .slice Af r.f.length cf, X, Z] 46))).blk.c4
            have ky := fun X Z : Value => (KY.alloc (.cells #[.int .i64 r.st, .slice Af r.f.length cf, X, Z] 46)).c4
            have kw := fun X Z : Value => (Blk.new (w7.alloc (.cells #[.int .i64 r.st, .slice Ya r.f.length yf, .slice Yb r.b.length yb, .slice Yp 0 yp] 46)) 46 #[.int .i64 r.st, .slice Af r.f.length cf, X, Z]).c4
            have x0 := q8.1
            have x1 := q8.2.1
            have x2 := fun X Z => (q X Z).2.2.1
            have x3 := fun X Z => (q X Z).2.2.2.1
            have y0 := fun X Z => (ky X Z).1
            have y1 := fun X Z => (ky X Z).2.1
            have y2 := fun X Z => (ky X Z).2.2.1
            have y3 := fun X Z => (ky X Z).2.2.2.1
            have v0 := fun X Z => (kw X Z).1
            have v1 := fun X Z => (kw X Z).2.1
            have v2 := fun X Z => (kw X Z).2.2.1
            have v3 := fun X Z => (kw X Z).2.2.2.1
            have f2 := fun X Z => (kw X Z).2.2.2.2.2.2.1
            have f3 := fun X Z => (kw X Z).2.2.2.2.2.2.2
            have LW := allocW LY (.cells #[.int .i64 r.st, .slice Af r.f.length cf, .slice Ab r.b.length cb, .slice none 0 0] 46)
            have RW := (R7.belowW LW).row
            have RYW := hRy.belowW LW
            have N9 := stepW N7 LW
            have hS := law_response18 ⟨r.st, r.f, r.b, []⟩ Ya Af Yb Ab Yp none yf cf yb cb yp 0 _ RYW ⟨RW.rf, RW.rb, Rd.zero _ _ _ _, RW.cf, RW.cb, Nat.le_refl _⟩ hlf hlb (Nat.zero_le _)
            clear q q8 ky kw KY LY hRy
            go_wp2_with fail
            refine hS.mono ?_
            rintro e w8 ⟨rfl, L8⟩
            have N8 := stepW N9 L8
            go_wp2_with fail
            refine (law_known18 _ (htz.below N8 (Nat.le_refl _)) (tab_below ht N8 (Nat.le_refl _))).mono ?_
            rintro e w9 ⟨rfl, L9⟩
            go_wp2
            go_ret
            exact ⟨rfl, stepW N8 L9⟩
        · clear hbhl
          have hY2 : Y = ⟨r.st, r.f, [], []⟩ := by rw [← HY.out, wantR]; rw [if_pos rfl, if_pos rfl]
          clear HY hY
          subst hY2
          have KY := Blk.new w7 46 #[.int .i64 r.st, .slice Ya r.f.length yf, .slice Yb 0 yb, .slice Yp 0 yp]
          have LY := allocW (Below.refl w7.heap.size w7) (.cells #[.int .i64 r.st, .slice Ya r.f.length yf, .slice Yb 0 yb, .slice Yp 0 yp] 46)
          have q8 := (R7.belowW LY).blk.c4
          have q := fun X Z : Value => (R7.belowW (allocW LY (.cells #[.int .i64 r.st, .slice Af r.f.length cf, X, Z] 46))).blk.c4
          have ky := fun X Z : Value => (KY.alloc (.cells #[.int .i64 r.st, .slice Af r.f.length cf, X, Z] 46)).c4
          have kw := fun X Z : Value => (Blk.new (w7.alloc (.cells #[.int .i64 r.st, .slice Ya r.f.length yf, .slice Yb 0 yb, .slice Yp 0 yp] 46)) 46 #[.int .i64 r.st, .slice Af r.f.length cf, X, Z]).c4
          have x0 := q8.1
          have x1 := q8.2.1
          have x2 := fun X Z => (q X Z).2.2.1
          have x3 := fun X Z => (q X Z).2.2.2.1
          have y0 := fun X Z => (ky X Z).1
          have y1 := fun X Z => (ky X Z).2.1
          have y2 := fun X Z => (ky X Z).2.2.1
          have y3 := fun X Z => (ky X Z).2.2.2.1
          have v0 := fun X Z => (kw X Z).1
          have v1 := fun X Z => (kw X Z).2.1
          have v2 := fun X Z => (kw X Z).2.2.1
          have v3 := fun X Z => (kw X Z).2.2.2.1
          have f2 := fun X Z => (kw X Z).2.2.2.2.2.2.1
          have f3 := fun X Z => (kw X Z).2.2.2.2.2.2.2
          have LW := allocW LY (.cells #[.int .i64 r.st, .slice Af r.f.length cf, .slice none 0 0, .slice none 0 0] 46)
          have RW := (R7.belowW LW).row
          have RYW := hRy.belowW LW
          have N9 := stepW N7 LW
          have hS := law_response18 ⟨r.st, r.f, [], []⟩ Ya Af Yb none Yp none yf cf yb 0 yp 0 _ RYW ⟨RW.rf, Rd.zero _ _ _ _, Rd.zero _ _ _ _, RW.cf, Nat.le_refl _, Nat.le_refl _⟩ hlf (Nat.zero_le _) (Nat.zero_le _)
          clear q q8 ky kw KY LY hRy
          go_wp2_with fail
          refine hS.mono ?_
          rintro e w8 ⟨rfl, L8⟩
          have N8 := stepW N9 L8
          go_wp2_with fail
          refine (law_known18 _ (htz.below N8 (Nat.le_refl _)) (tab_below ht N8 (Nat.le_refl _))).mono ?_
          rintro e w9 ⟨rfl, L9⟩
          go_wp2
          go_ret
          exact ⟨rfl, stepW N8 L9⟩
  · go_wp2_with fail
    go_ret
    exact ⟨rfl, N1⟩
end Go.Proofs.YtlambdccmfnloaaGreatDoor

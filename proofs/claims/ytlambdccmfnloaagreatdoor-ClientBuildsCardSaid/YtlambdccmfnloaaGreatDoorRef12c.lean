/- usherref12.Of. -/
import Derived.Test.YtlambdccmfnloaaGreatDoorRef12
import Derived.Deep.CutBlock
import Derived.Deep.Cut
namespace Go.Proofs.YtlambdccmfnloaaGreatDoor
open Go.RowKit
set_option maxRecDepth 100000
set_option maxHeartbeats 4000000

/-- A receiver that may be nil. -/
def FP10 (w : World) (p : Option Addr) (l : List Fd) : Prop := (p = none ∧ l = []) ∨ ∃ g, p = some ⟨g, 0, none⟩ ∧ FR w 132 g l
theorem r12_results (tmps : Array Value) (h : Nat) (w : World) (k : How) (y : Int) (h4 : tmps[4]? = some (.pointer (some ⟨h, 0, none⟩))) (h5 : tmps[5]? = some (.int .i64 y))
    (B1 : Blk w h 87 (howC k)) : (results Tryz.f209 tmps).run Tryz.prog w = .ok (howR (k, y)) w := by
  obtain ⟨j0, j1, j2, j3, -, -, -, -⟩ := B1.c4
  simp [results, Tryz.results209, go_sem, h4, h5, j0, j1, j2, j3, howR]
theorem r12_end (tmps : Array Value) (w wx : World) (k : How) (y : Int) (FR : How × Int) (h4 : tmps[4]? = some (.pointer (some ⟨w.heap.size, 0, none⟩))) (h5 : tmps[5]? = some (.int .i64 y))
    (B1 : Blk wx w.heap.size 87 (howC k)) (L : Below w.heap.size w wx) (hr : FR = (k, y)) :
    bodyPost Tryz.prog Tryz.f209 (fun e w' => e = .returned (howR FR) ∧ Below w.heap.size w w') .ret { tmps := tmps, defers := [] } wx := by
  subst hr
  exact ⟨rfl, _, r12_results tmps w.heap.size wx k y h4 h5 B1, rfl, L⟩
theorem low_close : lowL closeB = closeB := by decide +kernel
theorem low_keep : lowL keepB = keepB := by decide +kernel

theorem r12_Of (minor : Int) (p : Option Addr) (l : List Fd) (w : World) (hF : FP10 w p l) (hl : l.length ≤ 24) (hsz : FdSz l) (hm0 : -9223372036854775808 ≤ minor) (hm1 : minor ≤ 9223372036854775807) :
    Calls Tryz.prog 209 #[.int .i64 minor, .pointer p] w fun e w' => e = .returned (howR (frmL (decide (1 ≤ minor)) l)) ∧ Below w.heap.size w w' := by
  have HR := Lib.hid (show frmL (decide (1 ≤ minor)) l = if hostOk (decide (1 ≤ minor)) (valsL hostN l) then (let b := bodyL (decide (1 ≤ minor)) (valsL teN l) (valsL clN l); if b.2.2 = 0 then restL (decide (1 ≤ minor)) b.1 b.2.1 l else (how0, b.2.2)) else (how0, 400) from rfl)
  generalize hfr : frmL (decide (1 ≤ minor)) l = FR' at *
  clear hfr
  have hmm : max 0 (min 1 minor) = mI (decide (1 ≤ minor)) := by
    unfold mI
    by_cases h : 1 ≤ minor
    · simp [h]; omega
    · simp [h]; omega
  go_enter Tryz.func209, Tryz.ntmps209
  go_upto_if 15 with (fail)
  generalize hfirst : decide (1 ≤ minor) = first at *
  clear hfirst
  have LW : Below w.heap.size w (w.alloc (.cells (howC how0) 87)) := allocW (Below.refl _ _) _
  have BW : Blk (w.alloc (.cells (howC how0) 87)) w.heap.size 87 (howC how0) := Blk.new' _ _ rfl _ _
  go_cut [0, 1] from 11 (fun s0 s1 wx => s0 = .int .i64 (mI first) ∧ (∃ g, s1 = .pointer (some ⟨g, 0, none⟩) ∧ FR wx 132 g l) ∧ Blk wx w.heap.size 87 (howC how0) ∧ Below w.heap.size w wx)
  case first =>
    rcases hF with ⟨rfl, rfl⟩ | ⟨g, rfl, hF⟩
    · go_wp2
      go_meet
      case rel => exact ⟨rfl, ⟨_, rfl, none, 0, Cel.of (Blk.new' _ _ (by simp) _ _) rfl, Nat.le_refl _, Rd.nil _ _ _ _⟩, BW.alloc _, allocW LW _⟩
    · go_wp2
      go_meet
      case rel => exact ⟨rfl, ⟨g, rfl, hF.belowW LW⟩, BW, LW⟩
  case rest =>
    obtain ⟨rfl, ⟨g, rfl, hG⟩, B1, L1⟩ := hcut
    clear hF LW BW hmm
    go_wp2_with fail
    refine (r12_host first g l wc hG hl hsz).mono ?_
    rintro e w1 ⟨rfl, L2⟩
    have L3 := stepW L1 L2
    have B2 := B1.belowW L2
    have hG2 := hG.belowW L2
    clear B1 hG L1 L2
    cases hok : hostOk first (valsL hostN l)
    · have HE := Lib.hid (show FR' = (how0, 400) by rw [HR.out, hok]; rfl)
      obtain ⟨j0, j1, j2, j3, i0, i1, i2, i3⟩ := B2.c4
      clear HR hok
      go_wp2
      refine r12_end _ w _ how0 400 FR' rfl rfl ?_ ?_ HE.out
      · exact (((B2.set_ 0 _).set_ 1 _).set_ 2 _).set_ 3 _
      · exact setW (setW (setW (setW L3 (Nat.le_refl _) _) (Nat.le_refl _) _) (Nat.le_refl _) _) (Nat.le_refl _) _
    · have HS := Lib.hid (show FR' = (let b := bodyL first (valsL teN l) (valsL clN l); if b.2.2 = 0 then restL first b.1 b.2.1 l else (how0, b.2.2)) by rw [HR.out, hok]; rfl)
      clear HR hok
      have hlt := B2.lt
      have LV : Below w1.heap.size w1 (w1.alloc (.cells (howC how0) 87)) := allocW (Below.refl _ _) _
      have BV : Blk (w1.alloc (.cells (howC how0) 87)) w1.heap.size 87 (howC how0) := Blk.new' _ _ rfl _ _
      go_upto_block 0 with (fail)
      obtain ⟨V, hV⟩ : ∃ V, V = (w1.alloc (.cells (howC how0) 87)) := ⟨_, rfl⟩
      rw [show (Obj.cells #[Value.int IntKind.i64 0, Value.int IntKind.i64 0, Value.bool false, Value.bool false] 87) = .cells (howC how0) 87 from rfl, ← hV]
      rw [← hV] at LV BV
      clear hV
      have hwh : w.heap.size ≤ w1.heap.size := by omega
      go_cut [0, 7] from 11 (fun s0 s7 wx => s0 = .int .i64 (mI first) ∧ ∃ kind len st : Int, s7 = .int .i64 st ∧ Hid (bodyL first (valsL teN l) (valsL clN l) = (kind, len, st)) ∧ Blk wx w1.heap.size 87 (howC ⟨kind, len, false, false⟩) ∧ Below w1.heap.size w1 wx)
      case first =>
        have hVT := fun (w : World) (hF : FR w 132 g l) => ref10_Values g l ⟨teN.toArray⟩ w hF (by omega) hsz (by decide)
        have hVC := fun (w : World) (hF : FR w 132 g l) => ref10_Values g l ⟨clN.toArray⟩ w hF (by omega) hsz (by decide)
        have hCO := fun (w : World) (hF : FR w 132 g l) => r12_coding first g l w hF hl hsz
        have hLE := fun (w : World) (hF : FR w 132 g l) => r12_length g l w hF hl hsz
        dsimp only at hVT hVC
        generalize valsL teN l = te at *
        generalize valsL clN l = cl at *
        go_wp2_with fail
        refine (hVT V (hG2.belowW LV)).mono ?_
        cases te with
        | cons t0 tr =>
          have hz : (0 : Int) < ((t0 :: tr).length : Int) := by simp only [List.length_cons]; omega
          have hb := Lib.hid (show bodyL first (t0 :: tr) cl = (2, 0, codL first (t0 :: tr) cl) from rfl)
          rintro e w2 ⟨⟨A, c, rfl, -, -, -⟩, L4⟩
          have L5 := stepW LV L4
          have B5 := BV.belowW L4
          obtain ⟨j0, j1, j2, j3, i0, i1, i2, i3⟩ := B5.c4
          have L6 : Below w1.heap.size w1 (w2.setCell ⟨w1.heap.size, 0, none⟩ (.int .i64 2)) := setW L5 (Nat.le_refl _) _
          have B6 : Blk (w2.setCell ⟨w1.heap.size, 0, none⟩ (.int .i64 2)) w1.heap.size 87 (howC ⟨2, 0, false, false⟩) := B5.set_ 0 _
          go_wp2_with fail
          refine (hCO _ (hG2.belowW L6)).mono ?_
          rintro e w3 ⟨rfl, L7⟩
          go_wp2
          go_meet
          case rel => exact ⟨rfl, 2, 0, _, rfl, hb, B6.belowW L7, stepW L6 L7⟩
        | nil =>
          rintro e w2 ⟨⟨A, c, rfl, -, -, -⟩, L4⟩
          have L5 := stepW LV L4
          have B5 := BV.belowW L4
          go_wp2_with fail
          refine (hVC w2 (hG2.belowW L5)).mono ?_
          rintro e w3 ⟨⟨A2, c2, rfl, -, -, -⟩, L6⟩
          have L7 := stepW L5 L6
          have B6 := B5.belowW L6
          cases cl with
          | nil =>
            go_wp2
            go_meet
            case rel => exact ⟨rfl, 0, 0, 0, rfl, Lib.hid rfl, B6, L7⟩
          | cons c0 cr =>
            have hz : (0 : Int) < ((c0 :: cr).length : Int) := by simp only [List.length_cons]; omega
            have hb := Lib.hid (show bodyL first [] (c0 :: cr) = (1, (lenL (c0 :: cr)).1, (lenL (c0 :: cr)).2) from rfl)
            obtain ⟨j0, j1, j2, j3, i0, i1, i2, i3⟩ := B6.c4
            have L8 : Below w1.heap.size w1 (w3.setCell ⟨w1.heap.size, 0, none⟩ (.int .i64 1)) := setW L7 (Nat.le_refl _) _
            have B8 : Blk (w3.setCell ⟨w1.heap.size, 0, none⟩ (.int .i64 1)) w1.heap.size 87 (howC ⟨1, 0, false, false⟩) := B6.set_ 0 _
            go_wp2_with fail
            refine (hLE _ (hG2.belowW L8)).mono ?_
            rintro e w4 ⟨rfl, L9⟩
            have L10 := stepW L8 L9
            have B10 := B8.belowW L9
            obtain ⟨j0, j1, j2, j3, i0, i1, i2, i3⟩ := B10.c4
            go_wp2
            go_meet
            case rel => exact ⟨rfl, 1, _, _, rfl, hb, B10.set_ 1 _, setW L10 (Nat.le_refl _) _⟩
      case rest =>
        obtain ⟨rfl, kind, len, st, rfl, HB, B4, L4⟩ := hcut
        have LC := stepW L3 L4
        have B5 := B2.belowW L4
        by_cases hst : st = 0
        · subst hst
          have HX := Lib.hid (show FR' = restL first kind len l by rw [HS.out, HB.out]; rfl)
          have hvz := valsL_sz coN l hsz
          have hvl := valsL_len coN l
          have hVO := ref10_Values g l ⟨coN.toArray⟩ wc (hG2.belowW L4) (by omega) hsz (by decide)
          dsimp only at hVO
          clear HS HB B5 LC BV LV
          go_wp2_with fail
          refine hVO.mono ?_
          clear hVO
          rintro e w2 ⟨⟨A, c, rfl, h1, h2, h3⟩, L5⟩
          have L6 := stepW L4 L5
          have B6 := B4.belowW L5
          go_wp2_with fail
          refine (ref9_Tokens A c _ (valsL coN l) w2 h3 (Nat.le_refl _) (by omega) hvz).mono ?_
          rintro e w3 ⟨⟨A3, c3, rfl, -, -, -⟩, L7⟩
          have L8 := stepW L6 L7
          have B8 := B6.belowW L7
          have h4 := (h3.belowW (Nat.le_refl _) L7).more L7.size
          clear B4 L4 L5 L6 B6 h3 L7
          cases ht : toksL (valsL coN l) with
          | none =>
            have HE := Lib.hid (show FR' = (how0, 400) by rw [HX.out, restL, ht])
            have B9 := B2.belowW L8
            have L9 := stepW L3 L8
            obtain ⟨j0, j1, j2, j3, i0, i1, i2, i3⟩ := B9.c4
            rw [show ((none : Option (List Bs)).getD []) = [] from rfl, show (none : Option (List Bs)).isSome = false from rfl]
            clear ht
            go_wp2
            refine r12_end _ w _ how0 400 FR' rfl rfl ?_ ?_ HE.out
            · exact (((B9.set_ 0 _).set_ 1 _).set_ 2 _).set_ 3 _
            · exact setW (setW (setW (setW L9 (Nat.le_refl _) _) (Nat.le_refl _) _) (Nat.le_refl _) _) (Nat.le_refl _) _
          | some t =>
            have HY := Lib.hid (show FR' = if first && !(valsL exN l).isEmpty then (if lowL (joinC (valsL exN l)) = contB then (⟨kind, len, t.contains closeB || (!first && !t.contains keepB), decide (kind = 2) || decide (0 < len)⟩, 0) else (how0, 417)) else (⟨kind, len, t.contains closeB || (!first && !t.contains keepB), false⟩, 0) by rw [HX.out, restL, ht])
            have hcc := fun (w : World) (h : Rd w w3.heap.size 1 A (valsL coN l).length ((valsL coN l).map tv)) (hb : w3.heap.size ≤ w.heap.size) => ref9_Has ⟨closeB.toArray⟩ A c w3.heap.size (valsL coN l) w h hb (by omega) hvz (by decide)
            have hck := fun (w : World) (h : Rd w w3.heap.size 1 A (valsL coN l).length ((valsL coN l).map tv)) (hb : w3.heap.size ≤ w.heap.size) => ref9_Has ⟨keepB.toArray⟩ A c w3.heap.size (valsL coN l) w h hb (by omega) hvz (by decide)
            dsimp only at hcc hck
            rw [hasL_some closeB _ t ht, low_close] at hcc
            rw [hasL_some keepB _ t ht, low_keep] at hck
            rw [show ((some t : Option (List Bs)).getD []) = t from rfl, show (some t : Option (List Bs)).isSome = true from rfl]
            generalize hb1 : t.contains closeB = b1 at *
            generalize hb2 : t.contains keepB = b2 at *
            clear hb1 hb2 HX ht
            go_upto_region 20 with (fail)
            go_cut [0] from 11 (fun s0 wx => s0 = .int .i64 (mI first) ∧ Blk wx w1.heap.size 87 (howC ⟨kind, len, b1 || (!first && !b2), false⟩) ∧ Below w1.heap.size w1 wx)
            case first =>
              cases b1
              · cases first
                · cases b2
                  all_goals
                    unfold mI
                    go_wp2_with fail
                    refine (hcc w3 h4 (Nat.le_refl _)).mono ?_
                    rintro e w4 ⟨rfl, L9⟩
                    go_wp2_with fail
                    refine (hck w4 (h4.belowW (Nat.le_refl _) L9) L9.size).mono ?_
                    rintro e w5 ⟨rfl, L10⟩
                    have B10 := (B8.belowW L9).belowW L10
                    obtain ⟨j0, j1, j2, j3, i0, i1, i2, i3⟩ := B10.c4
                    go_wp2
                    go_meet
                    case rel => exact ⟨rfl, B10.set_ 2 _, setW (stepW (stepW L8 L9) L10) (Nat.le_refl _) _⟩
                · unfold mI
                  go_wp2_with fail
                  refine (hcc w3 h4 (Nat.le_refl _)).mono ?_
                  rintro e w4 ⟨rfl, L9⟩
                  have B10 := B8.belowW L9
                  obtain ⟨j0, j1, j2, j3, i0, i1, i2, i3⟩ := B10.c4
                  go_wp2
                  go_meet
                  case rel => exact ⟨rfl, B10.set_ 2 _, setW (stepW L8 L9) (Nat.le_refl _) _⟩
              · go_wp2_with fail
                refine (hcc w3 h4 (Nat.le_refl _)).mono ?_
                rintro e w4 ⟨rfl, L9⟩
                have B10 := B8.belowW L9
                obtain ⟨j0, j1, j2, j3, i0, i1, i2, i3⟩ := B10.c4
                go_wp2
                go_meet
                case rel => exact ⟨rfl, B10.set_ 2 _, setW (stepW L8 L9) (Nat.le_refl _) _⟩
            case rest =>
              obtain ⟨rfl, B9, L9⟩ := hcut
              clear hcc hck h4 B8 L8 hvz hvl
              generalize (b1 || (!first && !b2)) = cl at *
              cases first with
              | false =>
                have HE := Lib.hid (show FR' = (⟨kind, len, cl, false⟩, 0) by rw [HY.out]; rfl)
                have B10 := B2.belowW L9
                obtain ⟨j0, j1, j2, j3, i0, i1, i2, i3⟩ := B9.c4
                obtain ⟨m0, m1, m2, m3, n0, n1, n2, n3⟩ := B10.c4
                unfold mI
                go_wp2
                refine r12_end _ w _ ⟨kind, len, cl, false⟩ 0 FR' rfl rfl ?_ ?_ HE.out
                · exact (((B10.set_ 0 _).set_ 1 _).set_ 2 _).set_ 3 _
                · exact setW (setW (setW (setW (stepW L3 L9) (Nat.le_refl _) _) (Nat.le_refl _) _) (Nat.le_refl _) _) (Nat.le_refl _) _
              | true =>
                have hVE := ref10_Values g l ⟨exN.toArray⟩ wc (hG2.belowW L9) (by omega) hsz (by decide)
                dsimp only at hVE
                have hvzE := valsL_sz exN l hsz
                have hvlE := valsL_len exN l
                unfold mI
                go_wp2_with fail
                refine hVE.mono ?_
                rintro e w4 ⟨⟨A4, c4, rfl, -, -, -⟩, L10⟩
                have L11 := stepW L9 L10
                have B11 := B9.belowW L10
                clear B9 hVE L9 L10
                cases hE : (valsL exN l).isEmpty
                · have hne : (0 : Int) < ((valsL exN l).length : Int) := by
                    rcases Nat.eq_zero_or_pos (valsL exN l).length with h | h
                    · rw [List.eq_nil_of_length_eq_zero h] at hE; cases hE
                    · omega
                  have hjl : (joinC (valsL exN l)).length ≤ 24000048 := Nat.le_trans (joinC_len 1000000 (valsL exN l) (fun v hv => hvzE v hv)) (Nat.le_trans (Nat.mul_le_mul_right _ (by omega : (valsL exN l).length ≤ 24)) (by decide))
                  have hGE := ref10_Get g l ⟨exN.toArray⟩ w4 (hG2.belowW L11) (by omega) hsz (by decide)
                  dsimp only at hGE
                  have hY2 : FR' = if lowL (joinC (valsL exN l)) = contB then (⟨kind, len, cl, decide (kind = 2) || decide (0 < len)⟩, 0) else (how0, 417) := by rw [HY.out, hE]; rfl
                  clear HY hE hvzE hvlE
                  generalize joinC (valsL exN l) = J at *
                  have HY2 := Lib.hid hY2
                  clear hY2
                  go_wp2_with fail
                  refine hGE.mono ?_
                  rintro e w5 ⟨rfl, L12⟩
                  have L13 := stepW L11 L12
                  have B13 := B11.belowW L12
                  go_wp2_with fail
                  refine (rSame ⟨J.toArray⟩ ⟨contB.toArray⟩ w5 (by show J.length ≤ _; omega) (by decide)).mono ?_
                  rw [show (⟨J.toArray⟩ : ByteArray).data.toList = J from rfl, show (⟨contB.toArray⟩ : ByteArray).data.toList = contB from rfl, low_cont]
                  rintro e w6 ⟨rfl, L14⟩
                  have L15 := stepW L13 L14
                  have B15 := B13.belowW L14
                  have B16 := B2.belowW L15
                  have L16 := stepW L3 L15
                  clear B11 B13 L11 L12 L13 L14 hGE
                  obtain ⟨j0, j1, j2, j3, i0, i1, i2, i3⟩ := B15.c4
                  obtain ⟨m0, m1, m2, m3, n0, n1, n2, n3⟩ := B16.c4
                  cases hS : (lowL J == contB)
                  · have HE := Lib.hid (show FR' = (how0, 417) by rw [HY2.out, if_neg]; simpa using hS)
                    clear HY2 hS
                    go_wp2
                    refine r12_end _ w _ how0 417 FR' rfl rfl ?_ ?_ HE.out
                    · exact (((B16.set_ 0 _).set_ 1 _).set_ 2 _).set_ 3 _
                    · exact setW (setW (setW (setW L16 (Nat.le_refl _) _) (Nat.le_refl _) _) (Nat.le_refl _) _) (Nat.le_refl _) _
                  · have HE := Lib.hid (show FR' = (⟨kind, len, cl, decide (kind = 2) || decide (0 < len)⟩, 0) by rw [HY2.out, if_pos]; simpa using hS)
                    clear hS HY2
                    have h1w : ¬ w.heap.size = w1.heap.size := by omega
                    have h2w : ¬ w1.heap.size = w.heap.size := by omega
                    by_cases hk : kind = 2
                    · have hkb : (kind == 2) = true := by rw [hk]; rfl
                      have HE2 := Lib.hid (show FR' = (⟨kind, len, cl, true⟩, 0) by rw [HE.out, hk]; rfl)
                      clear hk
                      go_wp2
                      refine r12_end _ w _ ⟨kind, len, cl, true⟩ 0 FR' rfl rfl ?_ ?_ HE2.out
                      · exact ((((B16.far (p := ⟨w1.heap.size, 3, none⟩) h1w _).set_ 0 _).set_ 1 _).set_ 2 _).set_ 3 _
                      · exact setW (setW (setW (setW (setW L16 hwh _) (Nat.le_refl _) _) (Nat.le_refl _) _) (Nat.le_refl _) _) (Nat.le_refl _) _
                    · have hkb : (kind == 2) = false := by rw [Bool.eq_false_iff]; intro h; exact hk (beq_iff_eq.1 h)
                      have HE2 := Lib.hid (show FR' = (⟨kind, len, cl, decide (0 < len)⟩, 0) by rw [HE.out, decide_eq_false hk]; rfl)
                      clear hk
                      go_wp2
                      refine r12_end _ w _ ⟨kind, len, cl, decide (0 < len)⟩ 0 FR' rfl rfl ?_ ?_ HE2.out
                      · exact ((((B16.far (p := ⟨w1.heap.size, 3, none⟩) h1w _).set_ 0 _).set_ 1 _).set_ 2 _).set_ 3 _
                      · exact setW (setW (setW (setW (setW L16 hwh _) (Nat.le_refl _) _) (Nat.le_refl _) _) (Nat.le_refl _) _) (Nat.le_refl _) _
                · have hne : (valsL exN l).length = 0 := by
                    rw [List.isEmpty_iff] at hE
                    rw [hE]; rfl
                  have HE := Lib.hid (show FR' = (⟨kind, len, cl, false⟩, 0) by rw [HY.out, hE]; rfl)
                  have B16 := B2.belowW L11
                  have L16 := stepW L3 L11
                  obtain ⟨j0, j1, j2, j3, i0, i1, i2, i3⟩ := B11.c4
                  obtain ⟨m0, m1, m2, m3, n0, n1, n2, n3⟩ := B16.c4
                  clear HY hE
                  go_wp2
                  refine r12_end _ w _ ⟨kind, len, cl, false⟩ 0 FR' rfl rfl ?_ ?_ HE.out
                  · exact (((B16.set_ 0 _).set_ 1 _).set_ 2 _).set_ 3 _
                  · exact setW (setW (setW (setW L16 (Nat.le_refl _) _) (Nat.le_refl _) _) (Nat.le_refl _) _) (Nat.le_refl _) _
        · have HE := Lib.hid (show FR' = (how0, st) by rw [HS.out, HB.out]; simp [hst])
          have hsb : (st != 0) = true := by rw [bne_iff_ne]; exact hst
          obtain ⟨j0, j1, j2, j3, i0, i1, i2, i3⟩ := B5.c4
          clear hst
          go_wp2
          refine r12_end _ w _ how0 st FR' rfl rfl ?_ ?_ HE.out
          · exact (((B5.set_ 0 _).set_ 1 _).set_ 2 _).set_ 3 _
          · exact setW (setW (setW (setW LC (Nat.le_refl _) _) (Nat.le_refl _) _) (Nat.le_refl _) _) (Nat.le_refl _) _
end Go.Proofs.YtlambdccmfnloaaGreatDoor

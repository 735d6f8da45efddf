/- framing.Of: the walk. -/
import Derived.Test.YtlambdccmfnloaaGreatDoorTok
import Derived.Deep.CutBlock
import Derived.Deep.Cut
namespace Go.Proofs.YtlambdccmfnloaaGreatDoor
open Go.RowKit
set_option maxRecDepth 100000
set_option maxHeartbeats 4000000

theorem frm_Of (minor : Int) (p : Option Addr) (l : List Fd) (w : World) (hF : FP w p l) (hl : l.length ≤ 24) (hsz : FdSz l) (hm : ML w) :
    Calls Tryz.prog 181 #[.int .i64 minor, .pointer p] w fun e w' => e = .returned (howR (frmL (decide (1 ≤ minor)) l)) ∧ Below w.heap.size w w' := by
  have hmf : ∀ (fn : Fn) (first cap : Array Value) (w : World), (Instr.makeFunc fn first cap).run Tryz.prog w = .ok (.func fn first cap) w := fun _ _ _ _ => rfl
  have L0 : Below w.heap.size w ((w.alloc (.cells (howC how0) 100)).alloc (.cells #[.int .i64 0] 3)) := allocW (allocW (Below.refl _ _) _) _
  have B0 : Blk ((w.alloc (.cells (howC how0) 100)).alloc (.cells #[.int .i64 0] 3)) w.heap.size 100 (howC how0) := (Blk.new' _ _ rfl _ _).alloc _
  have C0 : Blk ((w.alloc (.cells (howC how0) 100)).alloc (.cells #[.int .i64 0] 3)) (w.heap.size + 1) 3 #[.int .i64 0] := Blk.new' _ _ (by simp) _ _
  have hvl := valsL_len hostN l
  have hvz := valsL_sz hostN l hsz
  have HR := Lib.hid (show frmL (decide (1 ≤ minor)) l = if hostOk (decide (1 ≤ minor)) (valsL hostN l) then (let b := bodyL (decide (1 ≤ minor)) (valsL teN l) (valsL clN l); if b.2.2 = 0 then restL (decide (1 ≤ minor)) b.1 b.2.1 l else (how0, b.2.2)) else (how0, 400) from rfl)
  generalize hfr : frmL (decide (1 ≤ minor)) l = FR at *
  clear hfr
  go_enter_defers Tryz.func181, Tryz.ntmps181
  go_wp2_with fail
  obtain ⟨W, hW⟩ : ∃ W, W = ((w.alloc (.cells (howC how0) 100)).alloc (.cells #[.int .i64 0] 3)) := ⟨_, rfl⟩
  rw [show (Obj.cells #[Value.int IntKind.i64 0, Value.int IntKind.i64 0, Value.bool false, Value.bool false] 100) = .cells (howC how0) 100 from rfl]
  rw [← hW] at L0 B0 C0 ⊢
  have hF0 := hF.belowW L0
  have hm0 := hm.below L0 (Nat.le_refl _)
  clear hW
  generalize hfirst : decide (1 ≤ minor) = first at *
  clear hfirst
  obtain ⟨h, hh⟩ : ∃ h, h = w.heap.size := ⟨_, rfl⟩
  refine (fp_Values p l ⟨hostN.toArray⟩ W hF0 hl hsz (by decide)).mono ?_
  rw [show (⟨hostN.toArray⟩ : ByteArray).data.toList = hostN from rfl]
  rintro e w1 ⟨⟨A, c, rfl, h1, h2, h3⟩, L1⟩
  go_upto_region 4 with (fail)
  go_cut [6, 7] from 9 (fun s6 s7 wx => s6 = .bool first ∧ s7 = .slice A (valsL hostN l).length c ∧ wx = w1 ∧ ((valsL hostN l = [] ∧ first = false) ∨ (valsL hostN l).length = 1))
  case first =>
    have L2 := stepW L0 L1
    have B1 := B0.belowW L1
    have C1 := C0.belowW L1
    rcases hv : valsL hostN l with _ | ⟨x, _ | ⟨x2, r⟩⟩
    · rw [hv] at HR hvl h1 h3
      cases first
      · go_wp2_with fail
        refine (frm_must1 400 w1).mono ?_
        rintro e w3 ⟨rfl, rfl⟩
        go_wp2
        go_meet
        case rel => exact ⟨rfl, by rw [hv]; rfl, rfl, .inl ⟨hv, by trivial⟩⟩
      · have HE := Lib.hid (show FR = (how0, 400) from HR.out)
        go_wp2_with fail
        refine (frm_must0 400 w1).mono ?_
        rintro e w3 ⟨rfl, rfl⟩
        exact door_fin _ w w1 how0 0 400 FR rfl rfl B1 C1 L2 HE.out
    · rw [hv] at HR hvl h1 h3
      go_wp2_with fail
      refine (frm_must1 400 w1).mono ?_
      rintro e w3 ⟨rfl, rfl⟩
      go_wp2
      go_meet
      case rel => exact ⟨rfl, by rw [hv]; rfl, rfl, .inr (by rw [hv]; rfl)⟩
    · rw [hv] at HR hvl h1 h3
      have HE := Lib.hid (show FR = (how0, 400) from HR.out)
      have hz : ¬ ((x :: x2 :: r).length : Int) ≤ 1 := by simp; omega
      go_wp2_with fail
      refine (frm_must0 400 w1).mono ?_
      rintro e w3 ⟨rfl, rfl⟩
      exact door_fin _ w w1 how0 0 400 FR rfl rfl B1 C1 L2 HE.out
  case rest =>
    obtain ⟨rfl, rfl, rfl, hc⟩ := hcut
    have L2 := stepW L0 L1
    have B1 := B0.belowW L1
    have C1 := C0.belowW L1
    have hF1 := hF0.belowW L1
    have hm1 := hm.below L2 (Nat.le_refl _)
    clear B0 C0 hF0 hm0 L0 L1
    go_upto_region 5 with (fail)
    go_cut [6, 7] from 9 (fun s6 _ wx => s6 = .bool first ∧ hostOk first (valsL hostN l) = true ∧ Below wc.heap.size wc wx)
    case first =>
      rcases hv : valsL hostN l with _ | ⟨x, _ | ⟨x2, r⟩⟩
      · rw [hv] at HR hvl h1 h3 hc hvz
        have hf : first = false := by
          rcases hc with h | h
          · exact h.2
          · cases h
        subst hf
        clear hc
        go_wp2_with fail
        refine (frm_must1 400 wc).mono ?_
        rintro e w3 ⟨rfl, rfl⟩
        go_wp2
        go_meet
        case rel => exact ⟨rfl, by rw [hv]; rfl, Below.refl _ _⟩
      · rw [hv] at HR hvl h1 h3 hc hvz
        clear hc
        have hxz := hvz x (by simp)
        obtain ⟨b, o, rfl, hb, x0⟩ := h3.tx 0 x rfl
        rw [Nat.add_zero] at x0
        by_cases hx : x = []
        · have hxe : (x : Bs).isEmpty = true := by rw [hx]; rfl
          have hok : hostOk first [x] = true := by rw [hostOk, hx]; rfl
          have Hok := Lib.hid hok
          clear hx hok
          go_wp2_with fail
          refine (frm_must1 400 wc).mono ?_
          rintro e w3 ⟨rfl, rfl⟩
          go_wp2
          go_meet
          case rel => exact ⟨rfl, by rw [hv]; exact Hok.out, Below.refl _ _⟩
        · have hxe : (x : Bs).isEmpty = false := by rw [List.isEmpty_eq_false_iff]; exact hx
          cases hH : hostL x
          · have HE := Lib.hid (show FR = (how0, 400) by rw [HR.out, hostOk, hH]; simp [hx])
            clear hx
            go_wp2_with fail
            refine (tgt_Host ⟨x.toArray⟩ wc (by show x.length < _; omega) hm1).mono ?_
            rw [show (⟨x.toArray⟩ : ByteArray).data.toList = x from rfl, hH]
            rintro e w2 ⟨rfl, L3⟩
            go_wp2_with fail
            refine (frm_must0 400 w2).mono ?_
            rintro e w3 ⟨rfl, rfl⟩
            exact door_fin _ w w2 how0 0 400 FR rfl rfl (B1.belowW L3) (C1.belowW L3) (stepW L2 L3) HE.out
          · have Hok := Lib.hid (show hostOk first [x] = true by rw [hostOk, hH]; simp)
            clear hx
            go_wp2_with fail
            refine (tgt_Host ⟨x.toArray⟩ wc (by show x.length < _; omega) hm1).mono ?_
            rw [show (⟨x.toArray⟩ : ByteArray).data.toList = x from rfl, hH]
            rintro e w2 ⟨rfl, L3⟩
            go_wp2_with fail
            refine (frm_must1 400 w2).mono ?_
            rintro e w3 ⟨rfl, rfl⟩
            go_wp2
            go_meet
            case rel => exact ⟨rfl, by rw [hv]; exact Hok.out, L3⟩
      · rw [hv] at hc
        exfalso
        rcases hc with h | h
        · cases h.1
        · simp at h
    case rest =>
      obtain ⟨rfl, hok, L3⟩ := hcut
      have HS := Lib.hid (show FR = (let b := bodyL first (valsL teN l) (valsL clN l); if b.2.2 = 0 then restL first b.1 b.2.1 l else (how0, b.2.2)) by rw [HR.out, hok]; rfl)
      have L4 := stepW L2 L3
      have B2 := B1.belowW L3
      have C2 := C1.belowW L3
      have hF2 := hF1.belowW L3
      have hm2 := hm.below L4 (Nat.le_refl _)
      clear hok HR hvz hvl h1 h2 h3 hc L2 L3 B1 C1 hF1 hm1
      go_upto_block 0 with (fail)
      go_cut [6] from 9 (fun s6 wx => s6 = .bool first ∧ ∃ kind len : Int, Hid (FR = restL first kind len l) ∧ Blk wx w.heap.size 100 (howC ⟨kind, len, false, false⟩) ∧ Blk wx (w.heap.size + 1) 3 #[.int .i64 0] ∧ Below w.heap.size w wx)
      case first =>
        have hvzT := valsL_sz teN l hsz
        have hvzC := valsL_sz clN l hsz
        have hHT := fun (w : World) (hF : FP w p l) => fp_Has p l ⟨teN.toArray⟩ w hF hl hsz (by decide)
        have hHC := fun (w : World) (hF : FP w p l) => fp_Has p l ⟨clN.toArray⟩ w hF hl hsz (by decide)
        have hTT := fun (w : World) (hF : FP w p l) (hm : ML w) => frm_tokens p l ⟨teN.toArray⟩ w hF hl hsz (by decide) hm
        have hTC := fun (w : World) (hF : FP w p l) (hm : ML w) => frm_tokens p l ⟨clN.toArray⟩ w hF hl hsz (by decide) hm
        dsimp only at hHT hTT
        dsimp only at hHC hTC
        generalize valsL teN l = te at *
        generalize valsL clN l = cl at *
        go_wp2_with fail
        refine (hHT wc hF2).mono ?_
        cases te with
        | cons t0 tr =>
          rintro e w1 ⟨rfl, L5⟩
          have L6 := stepW L4 L5
          rw [show (!(t0 :: tr).isEmpty) = true from rfl]
          cases first with
          | false =>
            have HE := Lib.hid (show FR = (how0, 400) from HS.out)
            go_wp2_with fail
            refine (frm_must0 400 w1).mono ?_
            rintro e w3 ⟨rfl, rfl⟩
            exact door_fin _ w w1 how0 0 400 FR rfl rfl (B2.belowW L5) (C2.belowW L5) L6 HE.out
          | true =>
            go_wp2_with fail
            refine (hHC w1 (hF.belowW L6)).mono ?_
            rintro e w2 ⟨rfl, L7⟩
            have L8 := stepW L6 L7
            have B3 := (B2.belowW L5).belowW L7
            have C3 := (C2.belowW L5).belowW L7
            cases cl with
            | cons c0 cr =>
              have HE := Lib.hid (show FR = (how0, 400) from HS.out)
              rw [show (!(c0 :: cr).isEmpty) = true from rfl]
              go_wp2_with fail
              refine (frm_must0 400 w2).mono ?_
              rintro e w3 ⟨rfl, rfl⟩
              exact door_fin _ w w2 how0 0 400 FR rfl rfl B3 C3 L8 HE.out
            | nil =>
              rw [show (!([] : List Bs).isEmpty) = false from rfl]
              go_wp2_with fail
              refine (frm_must1 400 w2).mono ?_
              rintro e w3 ⟨rfl, rfl⟩
              go_wp2_with fail
              refine (hTT w2 (hF.belowW L8) (hm.below L8 (Nat.le_refl _))).mono ?_
              rintro e w3 ⟨hr, L9⟩
              have L10 := stepW L8 L9
              have B4 := B3.belowW L9
              have C4 := C3.belowW L9
              rcases hr with ⟨ht, rfl⟩ | ⟨t, A2, c2, ht, rfl, k1, k2, k3⟩
              · have HE := Lib.hid (show FR = (how0, 400) by rw [HS.out]; simp [bodyL, codL, ht])
                exact door_fin _ w w3 how0 0 400 FR rfl rfl B4 C4 L10 HE.out
              · have hb : bodyL true (t0 :: tr) [] = (2, 0, codT t) := by simp [bodyL, codL, ht]
                have HB := Lib.hid hb
                clear hb ht
                go_wp2_with fail
                refine (frm_coded A2 c2 _ t w3 k3 (by unfold maxLen at k2; omega)).mono ?_
                rintro e w4 ⟨hr, L11⟩
                have L12 := stepW L10 L11
                have B5 := B4.belowW L11
                have C5 := C4.belowW L11
                rcases hr with ⟨hz, rfl⟩ | ⟨hz, rfl⟩
                · have HX := Lib.hid (show FR = restL true 2 0 l by rw [HS.out, HB.out, hz]; rfl)
                  clear hz
                  obtain ⟨j0, j1, j2, j3, i0, i1, i2, i3⟩ := B5.c4
                  go_wp2
                  go_meet
                  case rel => exact ⟨rfl, 2, 0, HX, B5.set_ 0 (.int .i64 2), C5.far (p := ⟨w.heap.size, 0, none⟩) (by simp) _, setW L12 (Nat.le_refl _) _⟩
                · have HE := Lib.hid (show FR = (how0, codT t) by rw [HS.out, HB.out]; simp [hz])
                  exact door_fin _ w w4 how0 0 (codT t) FR rfl rfl B5 C5 L12 HE.out
        | nil =>
          rintro e w1 ⟨rfl, L5⟩
          have L6 := stepW L4 L5
          rw [show (!([] : List Bs).isEmpty) = false from rfl]
          go_wp2_with fail
          refine (hHC w1 (hF.belowW L6)).mono ?_
          rintro e w2 ⟨rfl, L7⟩
          have L8 := stepW L6 L7
          have B3 := (B2.belowW L5).belowW L7
          have C3 := (C2.belowW L5).belowW L7
          cases cl with
          | nil =>
            have HX := Lib.hid (show FR = restL first 0 0 l from HS.out)
            rw [show (!([] : List Bs).isEmpty) = false from rfl]
            go_wp2
            go_meet
            case rel => exact ⟨rfl, 0, 0, HX, B3, C3, L8⟩
          | cons c0 cr =>
            rw [show (!(c0 :: cr).isEmpty) = true from rfl]
            go_wp2_with fail
            refine (hTC w2 (hF.belowW L8) (hm.below L8 (Nat.le_refl _))).mono ?_
            rintro e w3 ⟨hr, L9⟩
            have L10 := stepW L8 L9
            have B4 := B3.belowW L9
            have C4 := C3.belowW L9
            rcases hr with ⟨ht, rfl⟩ | ⟨t, A2, c2, ht, rfl, k1, k2, k3⟩
            · have HE := Lib.hid (show FR = (how0, 400) by rw [HS.out]; simp [bodyL, lenL, ht])
              exact door_fin _ w w3 how0 0 400 FR rfl rfl B4 C4 L10 HE.out
            · have hb : bodyL first [] (c0 :: cr) = (1, (lenT t).1, (lenT t).2) := by simp [bodyL, lenL, ht]
              have HB := Lib.hid hb
              have hts := toks_sz _ t ht hvzC
              clear hb ht
              go_wp2_with fail
              refine (frm_length A2 c2 _ t w3 k3 (Nat.le_refl _) (by unfold maxLen at k2; omega) hts).mono ?_
              rintro e w4 ⟨hr, L11⟩
              have L12 := stepW L10 L11
              have B5 := B4.belowW L11
              have C5 := C4.belowW L11
              rcases hr with ⟨hz, rfl⟩ | ⟨hz, rfl⟩
              · have HX := Lib.hid (show FR = restL first 1 (lenT t).1 l by rw [HS.out, HB.out, hz]; rfl)
                clear hz
                obtain ⟨j0, j1, j2, j3, i0, i1, i2, i3⟩ := B5.c4
                go_wp2
                go_meet
                case rel => exact ⟨rfl, 1, (lenT t).1, HX, (B5.set_ 0 (.int .i64 1)).set_ 1 _, (C5.far (p := ⟨w.heap.size, 0, none⟩) (by simp) _).far (p := ⟨w.heap.size, 1, none⟩) (by simp) _, setW (setW L12 (Nat.le_refl _) _) (Nat.le_refl _) _⟩
              · have HE := Lib.hid (show FR = (how0, (lenT t).2) by rw [HS.out, HB.out]; simp [hz])
                exact door_fin _ w w4 how0 0 (lenT t).2 FR rfl rfl B5 C5 L12 HE.out
      case rest =>
        obtain ⟨rfl, kind, len, HX, B3, C3, L5⟩ := hcut
        clear HS L4 B2 C2 hF2 hm2
        have hTO := frm_tokens p l ⟨coN.toArray⟩ wc (hF.belowW L5) hl hsz (by decide) (hm.below L5 (Nat.le_refl _))
        rw [show (⟨coN.toArray⟩ : ByteArray).data.toList = coN from rfl] at hTO
        go_wp2_with fail
        refine hTO.mono ?_
        clear hTO
        rintro e w1 ⟨hr, L6⟩
        have L7 := stepW L5 L6
        have B4 := B3.belowW L6
        have C4 := C3.belowW L6
        clear B3 C3
        rcases hr with ⟨ht, rfl⟩ | ⟨t, A2, c2, ht, rfl, k1, k2, k3⟩
        · have HE := Lib.hid (show FR = (how0, 400) by rw [HX.out, restL, ht])
          exact door_fin _ w w1 _ 0 400 FR rfl rfl B4 C4 L7 HE.out
        · have HY := Lib.hid (show FR = if first && !(valsL exN l).isEmpty then (if lowL (joinC (valsL exN l)) = contB then (⟨kind, len, t.contains closeB || (!first && !t.contains keepB), decide (kind = 2) || decide (0 < len)⟩, 0) else (how0, 417)) else (⟨kind, len, t.contains closeB || (!first && !t.contains keepB), false⟩, 0) by rw [HX.out, restL, ht])
          clear HX ht L5 L6
          have hcc := lib_Contains A2 c2 _ t ⟨closeB.toArray⟩ w1 k3 (by unfold maxLen at k2; omega)
          have hck := lib_Contains A2 c2 _ t ⟨keepB.toArray⟩ w1 k3 (by unfold maxLen at k2; omega)
          rw [show (⟨closeB.toArray⟩ : ByteArray).data.toList = closeB from rfl] at hcc
          rw [show (⟨keepB.toArray⟩ : ByteArray).data.toList = keepB from rfl] at hck
          generalize hb1 : t.contains closeB = b1 at *
          generalize hb2 : t.contains keepB = b2 at *
          clear hb1 hb2
          go_upto_region 13 with (fail)
          go_cut [6] from 9 (fun s6 wx => s6 = .bool first ∧ Blk wx w.heap.size 100 (howC ⟨kind, len, b1 || (!first && !b2), false⟩) ∧ Blk wx (w.heap.size + 1) 3 #[.int .i64 0] ∧ Below w.heap.size w wx)
          case first =>
            obtain ⟨j0, j1, j2, j3, i0, i1, i2, i3⟩ := B4.c4
            cases b1
            · cases first
              · cases b2
                all_goals
                  go_wp2_with fail
                  refine hcc.mono ?_
                  rintro e w2 ⟨rfl, rfl⟩
                  go_wp2_with fail
                  refine hck.mono ?_
                  rintro e w2 ⟨rfl, rfl⟩
                  go_wp2
                  go_meet
                  case rel => exact ⟨rfl, B4.set_ 2 _, C4.far (p := ⟨w.heap.size, 2, none⟩) (by simp) _, setW L7 (Nat.le_refl _) _⟩
              · go_wp2_with fail
                refine hcc.mono ?_
                rintro e w2 ⟨rfl, rfl⟩
                go_wp2
                go_meet
                case rel => exact ⟨rfl, B4.set_ 2 _, C4.far (p := ⟨w.heap.size, 2, none⟩) (by simp) _, setW L7 (Nat.le_refl _) _⟩
            · go_wp2_with fail
              refine hcc.mono ?_
              rintro e w2 ⟨rfl, rfl⟩
              go_wp2
              go_meet
              case rel => exact ⟨rfl, B4.set_ 2 _, C4.far (p := ⟨w.heap.size, 2, none⟩) (by simp) _, setW L7 (Nat.le_refl _) _⟩
          case rest =>
            obtain ⟨rfl, B5, C5, L8⟩ := hcut
            clear hcc hck k1 k2 k3 B4 C4 L7
            generalize (b1 || (!first && !b2)) = cl at *
            cases first with
            | false =>
              have HE := Lib.hid (show FR = (⟨kind, len, cl, false⟩, 0) by rw [HY.out]; rfl)
              obtain ⟨j0, j1, j2, j3, i0, i1, i2, i3⟩ := B5.c4
              obtain ⟨q0, q1⟩ := C5.c1
              go_wp2
              refine door_end _ w _ ⟨kind, len, cl, false⟩ 0 FR rfl rfl ?_ ?_ ?_ HE.out
              · exact ((((B5.set_ 0 _).set_ 1 _).set_ 2 _).set_ 3 _).far (p := ⟨w.heap.size + 1, 0, none⟩) (by simp) _
              · exact ((((C5.far (p := ⟨w.heap.size, 0, none⟩) (by simp) _).far (p := ⟨w.heap.size, 1, none⟩) (by simp) _).far (p := ⟨w.heap.size, 2, none⟩) (by simp) _).far (p := ⟨w.heap.size, 3, none⟩) (by simp) _).set_ 0 _
              · exact setW (setW (setW (setW (setW L8 (Nat.le_refl _) _) (Nat.le_refl _) _) (Nat.le_refl _) _) (Nat.le_refl _) _) (Nat.le_succ _) _
            | true =>
              have hHE := fp_Has p l ⟨exN.toArray⟩ wc (hF.belowW L8) hl hsz (by decide)
              rw [show (⟨exN.toArray⟩ : ByteArray).data.toList = exN from rfl] at hHE
              have hvzE := valsL_sz exN l hsz
              have hvlE := valsL_len exN l
              go_wp2_with fail
              refine hHE.mono ?_
              rintro e w2 ⟨rfl, L9⟩
              have L10 := stepW L8 L9
              have B6 := B5.belowW L9
              have C6 := C5.belowW L9
              clear B5 C5
              cases hE : (valsL exN l).isEmpty
              · have hjl := joinC_len 1000000 (valsL exN l) (fun v hv => hvzE v hv)
                have hj2 : (valsL exN l).length * (1000000 + 2) ≤ 24 * (1000000 + 2) := Nat.mul_le_mul_right _ (by omega)
                have hGE := fun (w : World) (hF : FP w p l) => fp_Get p l ⟨exN.toArray⟩ w hF hl hsz (by decide)
                dsimp only at hGE
                have hY2 : FR = if lowL (joinC (valsL exN l)) = contB then (⟨kind, len, cl, decide (kind = 2) || decide (0 < len)⟩, 0) else (how0, 417) := by rw [HY.out, hE]; rfl
                clear HY hE hHE hvzE hvlE
                generalize joinC (valsL exN l) = J at *
                have HY2 := Lib.hid hY2
                clear hY2
                go_wp2_with fail
                refine (hGE w2 (hF.belowW L10)).mono ?_
                rintro e w3 ⟨rfl, L11⟩
                have L12 := stepW L10 L11
                have B7 := B6.belowW L11
                have C7 := C6.belowW L11
                go_wp2_with fail
                refine (asc_Same ⟨J.toArray⟩ ⟨contB.toArray⟩ w3 (by show J.length ≤ _; unfold maxLen; omega) (by decide)).mono ?_
                rw [show (⟨J.toArray⟩ : ByteArray).data.toList = J from rfl, show (⟨contB.toArray⟩ : ByteArray).data.toList = contB from rfl, low_cont]
                rintro e w4 ⟨rfl, L13⟩
                have L14 := stepW L12 L13
                have B8 := B7.belowW L13
                have C8 := C7.belowW L13
                clear B6 C6 B7 C7 L9 L10 L11 L12 L13
                cases hS : (lowL J == contB)
                · have HE := Lib.hid (show FR = (how0, 417) by rw [HY2.out, if_neg]; simpa using hS)
                  go_wp2_with fail
                  refine (frm_must0 417 w4).mono ?_
                  rintro e w5 ⟨rfl, rfl⟩
                  exact door_fin _ w w4 _ 0 417 FR rfl rfl B8 C8 L14 HE.out
                · have HE := Lib.hid (show FR = (⟨kind, len, cl, decide (kind = 2) || decide (0 < len)⟩, 0) by rw [HY2.out, if_pos]; simpa using hS)
                  obtain ⟨j0, j1, j2, j3, i0, i1, i2, i3⟩ := B8.c4
                  obtain ⟨q0, q1⟩ := C8.c1
                  clear hS HY2
                  by_cases hk : kind = 2
                  · have hkb : (kind == 2) = true := by rw [hk]; rfl
                    have HE2 := Lib.hid (show FR = (⟨kind, len, cl, true⟩, 0) by rw [HE.out, hk]; rfl)
                    clear hk
                    go_wp2_with fail
                    refine (frm_must1 417 w4).mono ?_
                    rintro e w5 ⟨rfl, rfl⟩
                    go_wp2
                    refine door_end _ w _ ⟨kind, len, cl, true⟩ 0 FR rfl rfl ?_ ?_ ?_ HE2.out
                    · exact (((((B8.set_ 3 _).set_ 0 _).set_ 1 _).set_ 2 _).set_ 3 _).far (p := ⟨w.heap.size + 1, 0, none⟩) (by simp) _
                    · exact (((((C8.far (p := ⟨w.heap.size, 3, none⟩) (by simp) _).far (p := ⟨w.heap.size, 0, none⟩) (by simp) _).far (p := ⟨w.heap.size, 1, none⟩) (by simp) _).far (p := ⟨w.heap.size, 2, none⟩) (by simp) _).far (p := ⟨w.heap.size, 3, none⟩) (by simp) _).set_ 0 _
                    · exact setW (setW (setW (setW (setW (setW L14 (Nat.le_refl _) _) (Nat.le_refl _) _) (Nat.le_refl _) _) (Nat.le_refl _) _) (Nat.le_refl _) _) (Nat.le_succ _) _
                  · have hkb : (kind == 2) = false := by rw [Bool.eq_false_iff]; intro h; exact hk (beq_iff_eq.1 h)
                    have HE2 := Lib.hid (show FR = (⟨kind, len, cl, decide (0 < len)⟩, 0) by rw [HE.out, decide_eq_false hk]; rfl)
                    clear hk
                    go_wp2_with fail
                    refine (frm_must1 417 w4).mono ?_
                    rintro e w5 ⟨rfl, rfl⟩
                    go_wp2
                    refine door_end _ w _ ⟨kind, len, cl, decide (0 < len)⟩ 0 FR rfl rfl ?_ ?_ ?_ HE2.out
                    · exact (((((B8.set_ 3 _).set_ 0 _).set_ 1 _).set_ 2 _).set_ 3 _).far (p := ⟨w.heap.size + 1, 0, none⟩) (by simp) _
                    · exact (((((C8.far (p := ⟨w.heap.size, 3, none⟩) (by simp) _).far (p := ⟨w.heap.size, 0, none⟩) (by simp) _).far (p := ⟨w.heap.size, 1, none⟩) (by simp) _).far (p := ⟨w.heap.size, 2, none⟩) (by simp) _).far (p := ⟨w.heap.size, 3, none⟩) (by simp) _).set_ 0 _
                    · exact setW (setW (setW (setW (setW (setW L14 (Nat.le_refl _) _) (Nat.le_refl _) _) (Nat.le_refl _) _) (Nat.le_refl _) _) (Nat.le_refl _) _) (Nat.le_succ _) _
              · have HE := Lib.hid (show FR = (⟨kind, len, cl, false⟩, 0) by rw [HY.out, hE]; rfl)
                obtain ⟨j0, j1, j2, j3, i0, i1, i2, i3⟩ := B6.c4
                obtain ⟨q0, q1⟩ := C6.c1
                go_wp2
                refine door_end _ w _ ⟨kind, len, cl, false⟩ 0 FR rfl rfl ?_ ?_ ?_ HE.out
                · exact ((((B6.set_ 0 _).set_ 1 _).set_ 2 _).set_ 3 _).far (p := ⟨w.heap.size + 1, 0, none⟩) (by simp) _
                · exact ((((C6.far (p := ⟨w.heap.size, 0, none⟩) (by simp) _).far (p := ⟨w.heap.size, 1, none⟩) (by simp) _).far (p := ⟨w.heap.size, 2, none⟩) (by simp) _).far (p := ⟨w.heap.size, 3, none⟩) (by simp) _).set_ 0 _
                · exact setW (setW (setW (setW (setW L10 (Nat.le_refl _) _) (Nat.le_refl _) _) (Nat.le_refl _) _) (Nat.le_refl _) _) (Nat.le_succ _) _
end Go.Proofs.YtlambdccmfnloaaGreatDoor

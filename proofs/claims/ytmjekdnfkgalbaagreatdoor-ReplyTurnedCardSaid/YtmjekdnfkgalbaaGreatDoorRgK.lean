/- ReplyTurned. -/
import Derived.Test.YtmjekdnfkgalbaaGreatDoorRgJ
import Derived.Test.YtmjekdnfkgalbaaGreatDoorRiG
namespace Go.Proofs.YtmjekdnfkgalbaaGreatDoor
open Go.RowKit
set_option maxRecDepth 100000
set_option maxHeartbeats 4000000

theorem xor_u8 (a b : Int) : ∃ d : UInt8, bits .xor .u8 a b = (d.toNat : Int) := by
  have hw : ∀ n : Int, IntKind.u8.wrap n = n % 256 := fun n => by
    unfold IntKind.wrap
    rw [if_neg (by simp [IntKind.signed])]
    rfl
  have h : 0 ≤ bits .xor .u8 a b ∧ bits .xor .u8 a b < 256 := by
    unfold bits
    rw [hw]
    omega
  refine ⟨UInt8.ofNat (bits .xor .u8 a b).toNat, ?_⟩
  rw [UInt8.toNat_ofNat']
  omega
theorem law_Turned (x : RsP) (minor : Int) (close : Bool) (at_ : Int) (d : UInt8) (w : World) (hR : RsR w x) (hz : ∀ f ∈ x.r.f, f.1.length ≤ 140737488355328 ∧ f.2.length ≤ 140737488355328) (hm : x.cf ≤ maxLen ∧ x.cb ≤ maxLen ∧ x.cp ≤ maxLen) (htz : TZ w) (ht : Tab10 w) :
    Calls Tryz.prog 6 #[rsW x, .int .i64 minor, .bool close, .int .i64 at_, .int .u8 (d.toNat : Int)] w fun e w' => e = .returned (.bool true) ∧ Below w.heap.size w w' := by
  have hH := fun w' (h : RsR w' x) => law_heavy18 x w' h hz hm
  have hE := fun w' (h : RsR w' x) (hL : Light x.r) (t1 : TZ w') (t2 : Tab10 w') => rep_Encode x false minor close w' h (light_z hL) t1 t2 (fun _ => hL)
  obtain ⟨r, Af, cf, Ab, cb, Ap, cp⟩ := x
  show Calls Tryz.prog 6 #[.agg #[.int .i64 r.st, .slice Af r.f.length cf, .slice Ab r.b.length cb, .slice Ap r.p.length cp], .int .i64 minor, .bool close, .int .i64 at_, .int .u8 (d.toNat : Int)] w fun e w' => e = .returned (.bool true) ∧ Below w.heap.size w w'
  go_enter Tryz.func6, Tryz.ntmps6
  go_upto_region 1 with (fail)
  obtain ⟨V, hV⟩ : ∃ V, V = w.alloc (.cells #[.int .i64 r.st, .slice Af r.f.length cf, .slice Ab r.b.length cb, .slice Ap r.p.length cp] 38) := ⟨_, rfl⟩
  rw [← hV]
  have LV : Below w.heap.size w V := by rw [hV]; exact allocW (Below.refl _ _) _
  have BV : Blk V w.heap.size 38 #[.int .i64 r.st, .slice Af r.f.length cf, .slice Ab r.b.length cb, .slice Ap r.p.length cp] := by rw [hV]; exact Blk.new' _ _ rfl _ _
  clear hV
  have RV : RB V w.heap.size ⟨r, Af, cf, Ab, cb, Ap, cp⟩ := ⟨BV, hR.belowW LV⟩
  clear hR
  obtain ⟨x0, x1, x2, x3, -⟩ := BV.c4
  go_wp2_with fail
  refine (hH _ RV.row).mono ?_
  rintro e w1 ⟨rfl, L1⟩
  have N1 := stepW LV L1
  have R1 := RV.belowW L1
  clear x0 x1 x2 x3
  obtain ⟨x0, x1, x2, x3, -⟩ := R1.blk.c4
  cases hv : heavyR r
  · have hLt := light_of r hv
    have hE1 := hE _ R1.row hLt (htz.below N1 (Nat.le_refl _)) (tab_below ht N1 (Nat.le_refl _))
    rw [enc_light _ _ _ _ hLt] at hE1
    cases hone : isOneL r
    · rw [hone, if_neg (by decide)] at hE1
      clear hone hv hE
      go_wp2_with fail
      refine hE1.mono ?_
      intro e w2 hp
      obtain ⟨A2, c2, rfl, L2⟩ := hp.no
      have N2 := stepW N1 L2
      go_wp2_with fail
      refine (law_known18 _ (htz.below N2 (Nat.le_refl _)) (tab_below ht N2 (Nat.le_refl _))).mono ?_
      rintro e w3 ⟨rfl, L3⟩
      go_wp2
      go_ret
      exact ⟨rfl, stepW N2 L3⟩
    · rw [hone, if_pos rfl] at hE1
      have hpos := all_pos r false minor close
      clear hone hv hE
      generalize allR r false minor close = b at *
      have hb0 : ((b.length : Int) == 0) = false := by rw [Bool.eq_false_iff]; intro h; have := beq_iff_eq.1 h; omega
      obtain ⟨K, hK, hKn⟩ := mod_len at_ b.length (by omega)
      have kand := i64_and30
      obtain ⟨d0, hd0⟩ : ∃ d0, b[K]? = some d0 := ⟨_, List.getElem?_eq_getElem hKn⟩
      obtain ⟨d1, hd1⟩ := xor_u8 (d0.toNat : Int) (d.toNat : Int)
      go_wp2_with fail
      refine hE1.mono ?_
      intro e w2 hp
      obtain ⟨A2, c2, rfl, hc2, hc3, hO, hrd, L2⟩ := hp.yes
      have N2 := stepW N1 L2
      have hb1 : ¬ (b.length : Int) = 0 := by omega
      obtain ⟨g2, cap2, hv2, hg2, hg3, -⟩ := hO.form (by omega)
      injection hv2 with hv2 _ hv3
      subst hv2
      obtain ⟨y0, f0⟩ := hO.cellAt K (by omega)
      rw [List.getElem?_map, hd0] at y0
      obtain ⟨hO2, hg4⟩ := hO.stored K (bv d1)
      have L3 := L2.grown hg4 L2.size (fun k hk => by injection hk with hk; subst hk; exact hg2)
      rw [← List.map_set] at hO2
      have hrd2 := (Own.rdS hO2).2.2
      have e1 : bv d1 = .int .u8 (d1.toNat : Int) := rfl
      rw [e1] at hrd2 L3
      have y0' : w2.cell? ⟨g2, K, none⟩ = some (.int .u8 (d0.toNat : Int)) := y0
      have hKi : (K : Int) < (b.length : Int) := by omega
      clear y0 hE1 hrd hp
      go_upto_region 7 with (fail)
      have N3 : Below w.heap.size w (w2.setCell ⟨g2, K, none⟩ (.int .u8 (d1.toNat : Int))) := by
        refine N1.trans ?_
        exact L3.mono N1.size
      generalize w2.setCell ⟨g2, K, none⟩ (.int .u8 (d1.toNat : Int)) = w3 at *
      go_wp2_with fail
      refine (law_Reads _ b.length cap2 (b.set K d1) false w3 hrd2 (by omega) (htz.below N3 (Nat.le_refl _)) (tab_below ht N3 (Nat.le_refl _))).mono ?_
      rintro e w4 ⟨rfl, L4⟩
      have N4 := stepW N3 L4
      go_wp2_with fail
      refine (law_known18 _ (htz.below N4 (Nat.le_refl _)) (tab_below ht N4 (Nat.le_refl _))).mono ?_
      rintro e w5 ⟨rfl, L5⟩
      go_wp2
      go_ret
      exact ⟨rfl, stepW N4 L5⟩
  · go_wp2_with fail
    go_ret
    exact ⟨rfl, N1⟩
end Go.Proofs.YtmjekdnfkgalbaaGreatDoor

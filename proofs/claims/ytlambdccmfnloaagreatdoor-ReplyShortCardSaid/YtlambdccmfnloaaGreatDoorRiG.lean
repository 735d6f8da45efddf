/- ReplyShort. -/
import Derived.Test.YtlambdccmfnloaaGreatDoorRiE
import Derived.Test.YtlambdccmfnloaaGreatDoorRfC
namespace Go.Proofs.YtlambdccmfnloaaGreatDoor
open Go.RowKit
set_option maxRecDepth 100000
set_option maxHeartbeats 4000000

theorem i64_and30 (n : Int) : bits .and .i64 n 1073741823 = n % 1073741824 := by
  have h : (BitVec.ofInt 64 1073741823).toNat = 2 ^ 30 - 1 := by decide
  have key : (BitVec.ofInt 64 n &&& BitVec.ofInt 64 1073741823).toNat = (n % ((2 ^ 64 : Nat) : Int)).toNat % 2 ^ 30 := by
    rw [BitVec.toNat_and, BitVec.toNat_ofInt, h, Nat.and_two_pow_sub_one_eq_mod]
  show IntKind.i64.wrap ((BitVec.ofInt 64 n &&& BitVec.ofInt 64 1073741823).toNat : Nat) = n % 1073741824
  rw [key, IntKind.wrap_i64]
  omega
theorem mod_len (cut : Int) (n : Nat) (hn : 0 < n) : ∃ K : Nat, (cut % 1073741824).tmod (n : Int) = (K : Int) ∧ K < n := by
  have h1 : 0 ≤ cut % 1073741824 := Int.emod_nonneg _ (by decide)
  have h2 := Int.tmod_nonneg (n : Int) h1
  have h3 := Int.tmod_lt_of_pos (cut % 1073741824) (show (0 : Int) < (n : Int) by omega)
  exact ⟨((cut % 1073741824).tmod (n : Int)).toNat, by omega, by omega⟩
theorem all_pos (r : Rs) (head : Bool) (minor : Int) (close : Bool) : 4 ≤ (allR r head minor close).length := by
  obtain ⟨u, hu⟩ := head_ends r minor close
  rw [allR, hu]
  simp only [List.length_append, List.length_cons, List.length_nil]
  omega
theorem law_Short (x : RsP) (head : Bool) (minor : Int) (close : Bool) (cut : Int) (w : World) (hR : RsR w x) (hz : ∀ f ∈ x.r.f, f.1.length ≤ 140737488355328 ∧ f.2.length ≤ 140737488355328) (hm : x.cf ≤ maxLen ∧ x.cb ≤ maxLen ∧ x.cp ≤ maxLen) (htz : TZ w) (ht : Tab10 w) :
    Calls Tryz.prog 6 #[rsW x, .bool head, .int .i64 minor, .bool close, .int .i64 cut] w fun e w' => e = .returned (.bool true) ∧ Below w.heap.size w w' := by
  have hH := fun w' (h : RsR w' x) => law_heavy18 x w' h hz hm
  have hE := fun w' (h : RsR w' x) (hL : Light x.r) (t1 : TZ w') (t2 : Tab10 w') => rep_Encode x head minor close w' h (light_z hL) t1 t2 (fun _ => hL)
  obtain ⟨r, Af, cf, Ab, cb, Ap, cp⟩ := x
  show Calls Tryz.prog 6 #[.agg #[.int .i64 r.st, .slice Af r.f.length cf, .slice Ab r.b.length cb, .slice Ap r.p.length cp], .bool head, .int .i64 minor, .bool close, .int .i64 cut] w fun e w' => e = .returned (.bool true) ∧ Below w.heap.size w w'
  go_enter Tryz.func6, Tryz.ntmps6
  go_upto_region 1 with (fail)
  obtain ⟨V, hV⟩ : ∃ V, V = w.alloc (.cells #[.int .i64 r.st, .slice Af r.f.length cf, .slice Ab r.b.length cb, .slice Ap r.p.length cp] 46) := ⟨_, rfl⟩
  rw [← hV]
  have LV : Below w.heap.size w V := by rw [hV]; exact allocW (Below.refl _ _) _
  have BV : Blk V w.heap.size 46 #[.int .i64 r.st, .slice Af r.f.length cf, .slice Ab r.b.length cb, .slice Ap r.p.length cp] := by rw [hV]; exact Blk.new' _ _ rfl _ _
  clear hV
  have RV : RB V w.heap.size ⟨r, Af, cf, Ab, cb, Ap, cp⟩ := ⟨BV, hR.belowW LV⟩
  clear hR
  obtain ⟨x0, x1, x2, x3, -⟩ := BV.c4
  go_wp2_with fail
  refine (hH _ RV.row).mono ?_
  rintro e w1 ⟨rfl, L1⟩
  have N1 := stepW LV L1
  have R1 := RV.belowW L1
  obtain ⟨x0, x1, x2, x3, -⟩ := R1.blk.c4
  cases hv : heavyR r
  · have hLt := light_of r hv
    have hE1 := hE _ R1.row hLt (htz.below N1 (Nat.le_refl _)) (tab_below ht N1 (Nat.le_refl _))
    rw [enc_light _ _ _ _ hLt] at hE1
    cases hone : isOneL r
    · rw [hone, if_neg (by decide)] at hE1
      clear hone hv hE
      go_wp2_with fail
      refine hE1.mono ?_
      intro e w2 hp
      obtain ⟨A2, c2, rfl, L2⟩ := hp.no
      have N2 := stepW N1 L2
      go_wp2_with fail
      refine (law_known18 _ (htz.below N2 (Nat.le_refl _)) (tab_below ht N2 (Nat.le_refl _))).mono ?_
      rintro e w3 ⟨rfl, L3⟩
      go_wp2
      go_ret
      exact ⟨rfl, stepW N2 L3⟩
    · rw [hone, if_pos rfl] at hE1
      have hpos := all_pos r head minor close
      have hsh := all_short r head minor close hLt hone
      have hpart := fun k hk => read_part r head minor close k hone (by have := hLt.b; omega) hk
      clear hone hv hE
      generalize allR r head minor close = b at *
      have hb0 : ((b.length : Int) == 0) = false := by rw [Bool.eq_false_iff]; intro h; have := beq_iff_eq.1 h; omega
      obtain ⟨K, hK, hKn⟩ := mod_len cut b.length (by omega)
      have kand := i64_and30
      go_wp2_with fail
      refine hE1.mono ?_
      intro e w2 hp
      obtain ⟨A2, c2, rfl, hc2, hc3, -, hrd, L2⟩ := hp.yes
      have N2 := stepW N1 L2
      have hb1 : ¬ (b.length : Int) = 0 := by omega
      have hcut := hrd.cutTo (k := K) (by omega)
      have hbl : (b.take K).length = K := by rw [List.length_take]; omega
      have hRd := rep_Read A2 c2 (b.take K) head w2 (by rw [hbl]; simpa using hcut) (fun h => by obtain ⟨b1, o1, h1, -⟩ := hrd.2 (by omega); rw [h] at h1; cases h1) (by omega)
      rw [hbl, hpart K hKn] at hRd
      clear hpart hcut
      go_wp2_with fail
      refine hRd.mono ?_
      rintro e w3 ⟨y, rfl, -, -, L3⟩
      have N3 := stepW N2 L3
      obtain ⟨yr, yf, zf, yb, zb, yp, zp⟩ := y
      clear hRd hrd
      go_wp2_with fail
      have N4 := allocW N3 (.cells #[.int .i64 yr.st, .slice yf yr.f.length zf, .slice yb yr.b.length zb, .slice yp yr.p.length zp] 46)
      refine (law_known18 _ (htz.below N4 (Nat.le_refl _)) (tab_below ht N4 (Nat.le_refl _))).mono ?_
      rintro e w5 ⟨rfl, L5⟩
      go_wp2
      go_ret
      exact ⟨rfl, stepW N4 L5⟩
  · go_wp2_with fail
    go_ret
    exact ⟨rfl, N1⟩
end Go.Proofs.YtlambdccmfnloaaGreatDoor

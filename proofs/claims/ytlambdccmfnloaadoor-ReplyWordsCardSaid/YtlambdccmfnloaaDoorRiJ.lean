/- ReplyWords. -/
import Derived.Test.YtlambdccmfnloaaDoorRiF
namespace Go.Proofs.YtlambdccmfnloaaDoor
open Go.RowKit
set_option maxRecDepth 100000
set_option maxHeartbeats 4000000

theorem way_mod (way : Int) : ∃ K : Nat, (way % 1024).tmod 7 = (K : Int) ∧ K < 7 := by
  have h1 : 0 ≤ way % 1024 := Int.emod_nonneg _ (by decide)
  have h2 := Int.tmod_nonneg 7 h1
  have h3 := Int.tmod_lt_of_pos (way % 1024) (show (0 : Int) < 7 by omega)
  exact ⟨((way % 1024).tmod 7).toNat, by omega, by omega⟩
theorem bads_sz : ∀ f ∈ badsF, f.1.length ≤ 1000000 ∧ f.2.length ≤ 1000000 := by decide
theorem bads_len : badsF.length = 7 := rfl
theorem law_Words (x : RsP) (way : Int) (w : World) (hR : RsR w x) (hz : ∀ f ∈ x.r.f, f.1.length ≤ 140737488355328 ∧ f.2.length ≤ 140737488355328) (hm : x.cf ≤ maxLen ∧ x.cb ≤ maxLen ∧ x.cp ≤ maxLen) (htz : TZ w) (ht : Tab10 w) :
    Calls Tryd.prog 4 #[rsW x, .int .i64 way] w fun e w' => e = .returned (.bool true) ∧ Below w.heap.size w w' := by
  have hH := fun w' (h : RsR w' x) => law_heavy18 x w' h hz hm
  have hE := fun w' (h : RsR w' x) (hL : Light x.r) (t1 : TZ w') (t2 : Tab10 w') => rep_Encode x false 1 false w' h (light_z hL) t1 t2 (fun _ => hL)
  obtain ⟨r, Af, cf, Ab, cb, Ap, cp⟩ := x
  show Calls Tryd.prog 4 #[.agg #[.int .i64 r.st, .slice Af r.f.length cf, .slice Ab r.b.length cb, .slice Ap r.p.length cp], .int .i64 way] w fun e w' => e = .returned (.bool true) ∧ Below w.heap.size w w'
  have hbb : r.b.length ≤ cb := hR.cb
  have hpp : r.p.length ≤ cp := hR.cp
  go_enter Tryd.func4, Tryd.ntmps4
  go_upto_region 1 with (fail)
  obtain ⟨V, hV⟩ : ∃ V, V = w.alloc (.cells #[.int .i64 r.st, .slice Af r.f.length cf, .slice Ab r.b.length cb, .slice Ap r.p.length cp] 26) := ⟨_, rfl⟩
  rw [← hV]
  have LV : Below w.heap.size w V := by rw [hV]; exact allocW (Below.refl _ _) _
  have BV : Blk V w.heap.size 26 #[.int .i64 r.st, .slice Af r.f.length cf, .slice Ab r.b.length cb, .slice Ap r.p.length cp] := by rw [hV]; exact Blk.new' _ _ rfl _ _
  clear hV
  have RV : RB V w.heap.size ⟨r, Af, cf, Ab, cb, Ap, cp⟩ := ⟨BV, hR.belowW LV⟩
  obtain ⟨x0, x1, x2, x3, -⟩ := BV.c4
  go_wp2_with fail
  refine (hH _ RV.row).mono ?_
  rintro e w1 ⟨rfl, L1⟩
  have N1 := stepW LV L1
  have R1 := RV.belowW L1
  clear x0 x1 x2 x3 BV RV hH L1 LV
  obtain ⟨x0, x1, x2, x3, z0, z1, z2, z3⟩ := R1.blk.c4
  cases hv : heavyR r
  · have hLt := light_of r hv
    by_cases h24 : 24 ≤ r.f.length
    · have h24' : (24 : Int) ≤ (r.f.length : Int) := by omega
      clear h24
      go_wp2_with fail
      go_ret
      exact ⟨rfl, N1⟩
    · have h24' : ¬ (24 : Int) ≤ (r.f.length : Int) := by omega
      have hE1 := hE _ R1.row hLt (htz.below N1 (Nat.le_refl _)) (tab_below ht N1 (Nat.le_refl _))
      rw [enc_light _ _ _ _ hLt] at hE1
      clear hE hv
      cases hone : isOneL r
      · rw [hone, if_neg (by decide)] at hE1
        clear hone
        go_wp2_with fail
        refine hE1.mono ?_
        intro e w2 hp
        obtain ⟨A2, c2, rfl, L2⟩ := hp.no
        have N2 := stepW N1 L2
        go_wp2_with fail
        refine (law_known18 _ (htz.below N2 (Nat.le_refl _)) (tab_below ht N2 (Nat.le_refl _))).mono ?_
        rintro e w3 ⟨rfl, L3⟩
        go_wp2
        go_ret
        exact ⟨rfl, stepW N2 L3⟩
      · rw [hone, if_pos rfl] at hE1
        clear hone
        generalize allR r false 1 false = b1 at hE1
        go_wp2_with fail
        refine hE1.mono ?_
        intro e w2 hp
        obtain ⟨A2, c2, rfl, -, -, -, -, L2⟩ := hp.yes
        have N2 := stepW N1 L2
        have R2 := R1.belowW L2
        clear x0 x1 x2 x3 z0 z1 z2 z3 hE1 hp
        obtain ⟨x0, x1, x2, x3, z0, z1, z2, z3⟩ := R2.blk.c4
        have ho0 : OF (w2.alloc (.cells #[] 35)) w2.heap.size (.slice (some ⟨w2.heap.size, 0, none⟩) 0 0) [] := Own.lit w2 _ rfl _ (Nat.le_refl _) 35 2 0 [] rfl (by decide)
        have La := allocW (Below.refl w2.heap.size w2) (.cells #[] 35)
        obtain ⟨-, y1, -⟩ := (R2.belowW La).blk.c4
        have hrf : Rd w2 w2.heap.size 2 Af r.f.length (fcells r.f) := R2.row.rf
        obtain ⟨K, hK, hK7⟩ := way_mod way
        obtain ⟨f, hf⟩ : ∃ f, badsF[K]? = some f := ⟨badsF[K], List.getElem?_eq_getElem (by rw [bads_len]; exact hK7)⟩
        have kand := i64_and1023
        have hK7' : (K : Int) < 7 := by omega
        obtain ⟨Q, hQ⟩ : ∃ Q, r.f ++ [f] = Q := ⟨_, rfl⟩
        have HQ := Lib.hid hQ
        have HW := Lib.hid (words_no r f (List.mem_of_getElem? hf))
        have HQL : Hid (Q.length ≤ 24) := Lib.hid (by rw [← hQ, List.length_append, List.length_singleton]; omega)
        have HQS : Hid (FdSz Q) := Lib.hid (by
          intro g hg
          rw [← hQ, List.mem_append, List.mem_singleton] at hg
          rcases hg with hg | rfl
          · exact fdsz_light hLt g hg
          · exact bads_sz _ (List.mem_of_getElem? hf))
        clear hQ
        go_wp2_with (first
          | (at_builtin
             refine wp_appF rfl (.tmp 27) (.tmp 29) rfl w2.heap.size (.slice (some ⟨w2.heap.size, 0, none⟩) 0 0) [] rfl ho0 (Below.refl _ _) Af r.f.length cf _ rfl r.f rfl (hrf.alloc (Nat.le_refl _) _) (by have := hLt.f; simp; omega) La.size ?_
             intro v3 w3 ho3 hx3
             rw [List.nil_append] at ho3
             have L3 := La.trans (hx3.below ho0 (Nat.le_refl _) La.size)
             obtain ⟨A3, c3, hv3, hc3, hc3', hr3⟩ := ho3.form
             subst hv3
             have N3 := stepW N2 L3
             have R3 := R2.belowW L3
             obtain ⟨q0, q1, q2, q3, p0, p1, p2, p3⟩ := R3.blk.c4
             have Lb := allocW (Below.refl w3.heap.size w3) (.cells #[.string ⟨#[99, 111, 110, 116, 101, 110, 116, 45, 108, 101, 110, 103, 116, 104]⟩, .string ⟨#[53]⟩, .string ⟨#[84, 114, 97, 110, 115, 102, 101, 114, 45, 69, 110, 99, 111, 100, 105, 110, 103]⟩, .string ⟨#[99, 104, 117, 110, 107, 101, 100]⟩, .string ⟨#[67, 79, 78, 78, 69, 67, 84, 73, 79, 78]⟩, .string ⟨#[120]⟩, .string ⟨#[97, 32, 98]⟩, .string ⟨#[120]⟩, .string ⟨#[97]⟩, .string ⟨#[120, 13, 10, 121, 58, 32, 122]⟩, .string ⟨#[97]⟩, .string ⟨#[32, 120]⟩, .string ⟨#[]⟩, .string ⟨#[120]⟩] 35)
             have hT : Rd (w3.alloc (.cells (fcells badsF).toArray 35)) (w3.heap.size + 1) 2 (some ⟨w3.heap.size, 0, none⟩) 7 (fcells badsF) := Rd.newM w3 _ rfl (fcells badsF) 35 (0, 0) 7 2 rfl
             have hT2 : Rd (w3.alloc (.cells #[.string ⟨#[99, 111, 110, 116, 101, 110, 116, 45, 108, 101, 110, 103, 116, 104]⟩, .string ⟨#[53]⟩, .string ⟨#[84, 114, 97, 110, 115, 102, 101, 114, 45, 69, 110, 99, 111, 100, 105, 110, 103]⟩, .string ⟨#[99, 104, 117, 110, 107, 101, 100]⟩, .string ⟨#[67, 79, 78, 78, 69, 67, 84, 73, 79, 78]⟩, .string ⟨#[120]⟩, .string ⟨#[97, 32, 98]⟩, .string ⟨#[120]⟩, .string ⟨#[97]⟩, .string ⟨#[120, 13, 10, 121, 58, 32, 122]⟩, .string ⟨#[97]⟩, .string ⟨#[32, 120]⟩, .string ⟨#[]⟩, .string ⟨#[120]⟩] 35)) (w3.heap.size + 1) 2 (some ⟨w3.heap.size, 0, none⟩) 7 (fcells badsF) := hT
             obtain ⟨bt, ot, hbt, -, t0, t1⟩ := Rd.fd hT2 bads_len K f hf
             injection hbt with hbt
             injection hbt with hb1 hb2
             subst hb1 hb2
             rw [Nat.zero_add] at t0 t1
             clear hT hT2)
          | (at_builtin
             refine wp_appF rfl (.tmp 39) (.tmp 48) rfl w2.heap.size (.slice A3 r.f.length c3) r.f rfl ho3 (allocW Lb _) (some ⟨w3.heap.size + 1, 0, none⟩) 1 1 _ rfl [f] rfl (Rd.newM _ (w3.heap.size + 1) (by simp) [sv f.1, sv f.2] 35 (0, 0) 1 2 rfl) (by simp; omega) L3.size ?_
             intro v4 w4 ho4 hx4
             rw [HQ.out] at ho4
             have L4 := L3.trans (hx4.below ho3 (Nat.le_refl _) L3.size)
             obtain ⟨A4, c4, hv4, hc4, hc4', hr4⟩ := ho4.form
             subst hv4
             have N4 := stepW N2 L4
             have R4 := R2.belowW L4
             obtain ⟨q0, q1, q2, q3, p0, p1, p2, p3⟩ := R4.blk.c4))
        have hS4 := L4.size
        have N2s := N2.size
        have LtW : w.heap.size < w2.heap.size := Nat.lt_of_lt_of_le R2.blk.lt (Nat.le_refl _)
        have BS := R4.blk.set_ 1 (.slice A4 Q.length c4)
        have BS' : Blk (w4.setCell ⟨w.heap.size, 1, none⟩ (.slice A4 Q.length c4)) w.heap.size 26 #[.int .i64 r.st, .slice A4 Q.length c4, .slice Ab r.b.length cb, .slice Ap r.p.length cp] := BS
        have ho5 : OF (w4.setCell ⟨w.heap.size, 1, none⟩ (.slice A4 Q.length c4)) w2.heap.size (.slice A4 Q.length c4) Q := Own.far ho4 (p := ⟨w.heap.size, 1, none⟩) (fun k hk => by have := (Own.lt ho4 k hk).1; show k ≠ w.heap.size; omega) _
        have N5 : Below w.heap.size w (w4.setCell ⟨w.heap.size, 1, none⟩ (.slice A4 Q.length c4)) := setW N4 (Nat.le_refl _) _
        obtain ⟨A5, c5, hv5, hc5, -, hr5⟩ := ho5.form
        injection hv5 with hA5 _ hc6
        subst hA5 hc6
        have R5 := hR.belowW N5
        have hE2 := rep_Encode ⟨⟨r.st, Q, r.b, r.p⟩, A4, c4, Ab, cb, Ap, cp⟩ false 1 false _ ⟨hr5, R5.rb, R5.rp, hc4, hbb, hpp⟩ ⟨HQS.out, by have := HQL.out; show Q.length ≤ 1000000; omega, (light_z (x := ⟨r, Af, cf, Ab, cb, Ap, cp⟩) hLt).b, (light_z (x := ⟨r, Af, cf, Ab, cb, Ap, cp⟩) hLt).p⟩ (htz.below N5 (Nat.le_refl _)) (tab_below ht N5 (Nat.le_refl _)) (fun h => by have := HW.out; rw [HQ.out] at this; rw [this] at h; cases h)
        have hen : encR ⟨r.st, Q, r.b, r.p⟩ false 1 false = ([], 1) := by
          have := HW.out; rw [HQ.out] at this
          rw [encR, this]; rfl
        rw [hen] at hE2
        generalize w4.setCell ⟨w.heap.size, 1, none⟩ (.slice A4 Q.length c4) = S at *
        refine hE2.mono ?_
        intro e w6 hp6
        obtain ⟨A6, c6, rfl, L6⟩ := hp6.no
        have N6 := stepW N5 L6
        clear hE2 BS BS' R5 hr5 ho5 hen
        go_wp2_with fail
        refine (law_known18 _ (htz.below N6 (Nat.le_refl _)) (tab_below ht N6 (Nat.le_refl _))).mono ?_
        rintro e w7 ⟨rfl, L7⟩
        go_wp2
        go_ret
        exact ⟨rfl, stepW N6 L7⟩
  · go_wp2_with fail
    go_ret
    exact ⟨rfl, N1⟩
end Go.Proofs.YtlambdccmfnloaaDoor

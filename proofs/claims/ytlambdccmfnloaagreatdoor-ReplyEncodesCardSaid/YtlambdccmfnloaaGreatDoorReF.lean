/- reply.isOne. -/
import Derived.Test.YtlambdccmfnloaaGreatDoorReE
import Derived.Test.YtlambdccmfnloaaGreatDoorStatus
namespace Go.Proofs.YtlambdccmfnloaaGreatDoor
open Go.RowKit
set_option maxRecDepth 100000
set_option maxHeartbeats 4000000

/-- A response in a block of its own. -/
structure RB (w : World) (g : Nat) (x : RsP) : Prop where
  blk : Blk w g 46 #[.int .i64 x.r.st, .slice x.af x.r.f.length x.cf, .slice x.ab x.r.b.length x.cb, .slice x.ap x.r.p.length x.cp]
  row : RsR w x
theorem RB.belowW {w w' : World} {g : Nat} {x : RsP} (h : RB w g x) (hb : Below w.heap.size w w') : RB w' g x := ⟨h.blk.belowW hb, h.row.belowW hb⟩
structure RsZ (x : RsP) : Prop where
  fs : FdSz x.r.f
  f : x.r.f.length ≤ 1000000
  b : x.r.b.length ≤ 1000000
  p : x.r.p.length ≤ 1000000
theorem ownOk_step {l : List Fd} {k : Nat} {f : Fd} (hd : l.drop k = f :: l.drop (k + 1)) : ownOk (l.drop k) = (!ownN f.1 && ownOk (l.drop (k + 1))) := by
  rw [hd]; rfl
theorem prtF_bad (n : Nat) (last a : Int) (l : List Int) (h : a ≤ last ∨ (n : Int) < a) : prtF n last (a :: l) = none := by rw [prtF, if_pos h]
theorem prtF_next (n : Nat) (last a : Int) (l : List Int) (h : ¬ (a ≤ last ∨ (n : Int) < a)) : prtF n last (a :: l) = prtF n a l := by rw [prtF, if_neg h]
theorem isOne_st (r : Rs) (h : stOk r = false) : isOneL r = false := by rw [isOneL, h]; rfl
theorem isOne_fd (r : Rs) (h : fdOk r.f = false) : isOneL r = false := by rw [isOneL, h, Bool.false_and, Bool.and_false]
theorem isOne_rest (r : Rs) (h : stOk r = true) (h2 : fdOk r.f = true) : isOneL r = (ownOk r.f && prtOk r.b.length r.p) := by rw [isOneL, h, h2, Bool.true_and, Bool.true_and]
theorem rep_isOne (x : RsP) (w : World) (hR : RsR w x) (hZ : RsZ x) :
    Calls Tryz.prog 56 #[rsW x] w fun e w' => e = .returned (.bool (isOneL x.r)) ∧ Below w.heap.size w w' := by
  obtain ⟨r, Af, cf, Ab, cb, Ap, cp⟩ := x
  have hzf : r.f.length ≤ 1000000 := hZ.f
  have hzb : r.b.length ≤ 1000000 := hZ.b
  have hzp : r.p.length ≤ 1000000 := hZ.p
  have hzs : FdSz r.f := hZ.fs
  show Calls Tryz.prog 56 #[.agg #[.int .i64 r.st, .slice Af r.f.length cf, .slice Ab r.b.length cb, .slice Ap r.p.length cp]] w fun e w' => e = .returned (.bool (isOneL r)) ∧ Below w.heap.size w w'
  go_enter Tryz.func56, Tryz.ntmps56
  go_upto_region 1 with (fail)
  obtain ⟨V, hV⟩ : ∃ V, V = w.alloc (.cells #[.int .i64 r.st, .slice Af r.f.length cf, .slice Ab r.b.length cb, .slice Ap r.p.length cp] 46) := ⟨_, rfl⟩
  rw [← hV]
  have LV : Below w.heap.size w V := by rw [hV]; exact allocW (Below.refl _ _) _
  have BV : Blk V w.heap.size 46 #[.int .i64 r.st, .slice Af r.f.length cf, .slice Ab r.b.length cb, .slice Ap r.p.length cp] := by rw [hV]; exact Blk.new' _ _ rfl _ _
  clear hV
  have RV : RB V w.heap.size ⟨r, Af, cf, Ab, cb, Ap, cp⟩ := ⟨BV, hR.belowW LV⟩
  obtain ⟨x0, x1, x2, x3, z0, z1, z2, z3⟩ := BV.c4
  by_cases hst : stOk r = true
  · have hst' : ¬ r.st < 200 ∧ ¬ 599 < r.st ∧ (r.b.length = 0 ∨ (0 < r.b.length ∧ noBody r.st = false)) := by
      by_cases h1 : r.st < 200
      · simp [stOk, h1] at hst
      · by_cases h2 : 599 < r.st
        · simp [stOk, h2] at hst
        · refine ⟨h1, h2, ?_⟩
          by_cases h3 : 0 < r.b.length
          · exact .inr ⟨h3, by simpa [stOk, h1, h2, h3] using hst⟩
          · exact .inl (by omega)
    have HST := Lib.hid hst
    obtain ⟨h1, h2, h3⟩ := hst'
    clear hst
    go_cut [28] (fun v28 wx => v28 = .bool false ∧ V = wx)
    case first =>
      rcases h3 with h3 | ⟨h3, h4⟩
      · have h5 : ¬ (0:Int) < (r.b.length : Int) := by omega
        clear h3
        go_wp2_with fail
        go_meet
        case rel => exact ⟨rfl, rfl⟩
      · have h3' : (0:Int) < (r.b.length : Int) := by omega
        have hnb := fun w => sta_NoBody r.st w
        rw [h4] at hnb
        go_wp2_with fail
        refine (hnb _).mono ?_
        rintro e w1 ⟨rfl, rfl⟩
        go_wp2_with fail
        go_meet
        case rel => exact ⟨rfl, rfl⟩
    case rest =>
      obtain ⟨rfl, rfl⟩ := hcut
      have hnil : (addL [] [] 0).1 = ([] : List Fd) := rfl
      have hO := fun w => fld_Of 0 0 none [] w ⟨rfl, fun h => absurd h (by decide)⟩ (fun f hf => by cases hf) (by decide)
      rw [hnil] at hO
      have hA0 : ∀ (w2 : World) (gf : Nat) (v : Value) (L2 : Below V.heap.size V w2) (hF : FA w2 141 gf V.heap.size v []), Calls Tryz.prog 95 #[.pointer (some ⟨gf, 0, none⟩), .slice Af r.f.length cf] w2 (AddPost 141 w2 gf V.heap.size v (addL [] r.f 0)) := by
        intro w2 gf v L2 hF
        have hr : Rd w2 V.heap.size 2 Af r.f.length (fcells r.f) := RV.row.rf.below L2
        refine fld_Add gf V.heap.size r.f.length cf V.heap.size Af v [] r.f w2 hF hr L2.size (hr.off ?_) hzs (Nat.zero_le _) L2.size (by omega)
        intro i hi
        rcases hi with h | h
        · rw [h]; exact hF.lo
        · exact (Own.lt hF.own i h).1
      have S0 : V.cell? ⟨w.heap.size, 1, none⟩ = some (.slice Af r.f.length cf) := x1
      have HS : ∀ w', Below V.heap.size V w' → w'.cell? ⟨w.heap.size, 1, none⟩ = some (.slice Af r.f.length cf) ∧ w'.frozen? ⟨w.heap.size, 1, none⟩ = false := by
        intro w' hb
        obtain ⟨-, h1, -, -, -, h2, -, -⟩ := (BV.belowW hb).c4
        exact ⟨h1, h2⟩
      unfold AddPost addV at hA0
      generalize hadd : addL [] r.f 0 = ad at *
      obtain ⟨l9, n9, e9⟩ := ad
      go_wp2_with fail
      go_region_held3 (fun w' => w'.cell? ⟨w.heap.size, 1, none⟩ = some (.slice Af r.f.length cf) ∧ w'.frozen? ⟨w.heap.size, 1, none⟩ = false)
        (first | go_keep | with_reducible exact ⟨x1, z1⟩ | with_reducible exact X4 | with_reducible exact X5)
        (first
          | (go_at_call 89
             refine (hO _).mono ?_
             rintro e w4 ⟨⟨gf, vf, rfl, hF4⟩, L4⟩
             have N4 := stepW (Below.refl V.heap.size V).drew L4
             have X4 := HS _ N4)
          | (go_at_call 95
             refine (hA0 _ _ _ N4 hF4).mono ?_
             rintro e w5 ⟨rfl, -, hfr⟩
             have N5 : Below V.heap.size V w5 := N4.trans (hfr.toBelow N4.size (by
               intro i hi
               rcases hi with h | h
               · rw [h]; exact hF4.lo
               · exact (Own.lt hF4.own i h).1))
             have X5 := HS _ N5))
      have HFD := Lib.hid (show fdOk r.f = !(decide (n9 < r.f.length) || decide (e9 ≠ 0)) by rw [fdOk, hadd])
      have R5 := RV.belowW N5
      clear hA0 hO hadd X4 X5 N4 L4 hF4 hfr HS S0 hnil x0 x1 x2 x3 z0 z1 z2 z3 BV h3
      by_cases c1 : n9 < r.f.length
      · have HI := Lib.hid (isOne_fd r (by rw [HFD.out, decide_eq_true c1]; rfl))
        have c1' : (n9 : Int) < (r.f.length : Int) := by omega
        go_wp2_with fail
        go_ret
        exact ⟨by rw [HI.out]; rfl, stepW LV N5⟩
      · have c1' : ¬ (n9 : Int) < (r.f.length : Int) := by omega
        by_cases c2 : e9 = 0
        · have HI := Lib.hid (isOne_rest r HST.out (by rw [HFD.out, decide_eq_false c1, c2]; rfl))
          subst c2
          clear HFD HST
          obtain ⟨x0, x1, x2, x3, z0, z1, z2, z3⟩ := R5.blk.c4
          go_wp2_with fail
          go_loopw [48] (fun i wr => ∃ k : Nat, k ≤ r.f.length ∧ i = .int .i64 k ∧ Hid (ownOk r.f = ownOk (r.f.drop k)) ∧ Below V.heap.size V wr) (fun i _ => r.f.length - (intOf i).toNat)
          case atStart => exact ⟨0, Nat.zero_le _, rfl, rfl, N5⟩
          case round =>
            obtain ⟨k, hk, rfl, H, N⟩ := hrel
            have Rk := RV.belowW N
            by_cases hlt : k < r.f.length
            · obtain ⟨f, hf, hd⟩ := drop_fd hlt
              obtain ⟨s1, s2⟩ := hzs.at hf
              have hO := fun w => rep_isOurs f.1 w s1
              have H2 := Lib.hid (H.out.trans (ownOk_step hd))
              obtain ⟨b, o, rfl, hbB, y0, y1⟩ := Rd.fd (show Rd wr wr.heap.size 2 Af r.f.length (fcells r.f) from Rk.row.rf) rfl k f hf
              clear hf hd H
              go_wp2_with fail
              obtain ⟨W, hW⟩ : ∃ W, W = wr.alloc (.cells #[sv f.1, sv f.2] 72) := ⟨_, rfl⟩
              rw [← hW]
              have LW : Below wr.heap.size wr W := by rw [hW]; exact allocW (Below.refl _ _) _
              clear hW y0 y1
              refine (hO W).mono ?_
              rintro e w1 ⟨rfl, L1⟩
              have N1 := stepW (stepW N LW) L1
              cases hown : ownN f.1
              · have H3 := Lib.hid (show ownOk r.f = ownOk (r.f.drop (k + 1)) by rw [H2.out, hown]; rfl)
                clear hown
                go_wp2
                go_roundw
                case rel => exact ⟨k + 1, by omega, by go_num, H3, N1⟩
                case measure => simp [intOf]; omega
              · have H3 := Lib.hid (show ownOk r.f = false by rw [H2.out, hown]; rfl)
                clear hown
                go_wp2
                go_ret
                exact ⟨by rw [HI.out, H3.out]; rfl, stepW LV N1⟩
            · have hT := Lib.hid (show isOneL r = prtOk r.b.length r.p by rw [HI.out, H.out, List.drop_of_length_le (by omega)]; rfl)
              obtain rfl : k = r.f.length := by omega
              clear x0 x2 x3 z0 z1 z2 z3 HI H
              obtain ⟨x0, x1, x2, x3, z0, z1, z2, z3⟩ := Rk.blk.c4
              go_wp2_with fail
              go_loopw [7, 59] (fun x7 i wx => ∃ (k : Nat) (last : Int), k ≤ r.p.length ∧ i = .int .i64 k ∧ x7 = .int .i64 last ∧ Hid (prtF r.b.length 0 r.p = prtF r.b.length last (r.p.drop k)) ∧ wr = wx) (fun _ i _ => r.p.length - (intOf i).toNat)
              case atStart => exact ⟨0, 0, Nat.zero_le _, rfl, rfl, rfl, rfl⟩
              case round =>
                obtain ⟨k, last, hk, rfl, rfl, H, rfl⟩ := hrel
                by_cases hlt : k < r.p.length
                · obtain ⟨a, ha, hd⟩ := drop_list r.p k hlt
                  obtain ⟨b, o, rfl, hbB, hy⟩ := (show Rd wr wr.heap.size 1 Ap r.p.length (r.p.map fun i => Value.int .i64 i) from Rk.row.rp).2 (by omega)
                  have y := hy k (.int .i64 a) (map_get _ _ _ _ ha)
                  have H2 := Lib.hid (show prtF r.b.length 0 r.p = prtF r.b.length last (a :: r.p.drop (k + 1)) by rw [H.out, hd])
                  clear ha hd H hy
                  by_cases c3 : a ≤ last
                  · have H3 := Lib.hid (H2.out.trans (prtF_bad _ _ _ _ (.inl c3)))
                    go_wp2
                    go_ret
                    exact ⟨by rw [hT.out, prtOk, H3.out]; rfl, stepW LV N⟩
                  · by_cases c4 : (r.b.length : Int) < a
                    · have H3 := Lib.hid (H2.out.trans (prtF_bad _ _ _ _ (.inr c4)))
                      go_wp2
                      go_ret
                      exact ⟨by rw [hT.out, prtOk, H3.out]; rfl, stepW LV N⟩
                    · have H3 := Lib.hid (H2.out.trans (prtF_next _ _ _ _ (fun h => h.elim c3 c4)))
                      go_wp2
                      go_roundw
                      case rel => exact ⟨k + 1, a, by omega, by go_num, rfl, H3, trivial⟩
                      case measure => simp [intOf]; omega
                · have H3 := Lib.hid (H.out.trans (show prtF r.b.length last (r.p.drop k) = some last by rw [List.drop_of_length_le (by omega)]; rfl))
                  obtain rfl : k = r.p.length := by omega
                  have hI := Lib.hid (show isOneL r = (decide (r.p = []) || decide (last = (r.b.length : Int))) by rw [hT.out, prtOk, H3.out])
                  clear H H3 hT
                  by_cases hp0 : r.p.length = 0
                  · have hI2 := Lib.hid (show isOneL r = true by rw [hI.out, List.eq_nil_of_length_eq_zero hp0]; rfl)
                    rw [hp0] at x3
                    clear hI hp0
                    go_wp2
                    go_ret
                    exact ⟨by rw [hI2.out]; rfl, stepW LV N⟩
                  · have hI2 := Lib.hid (show isOneL r = decide (last = (r.b.length : Int)) by rw [hI.out, decide_eq_false (fun h => hp0 (by rw [h]; rfl)), Bool.false_or])
                    have hq0 : ((r.p.length : Int) == 0) = false := by rw [Bool.eq_false_iff]; intro h; exact hp0 (by have := beq_iff_eq.1 h; omega)
                    clear hI
                    by_cases c5 : last = (r.b.length : Int)
                    · have hI3 := Lib.hid (show isOneL r = true by rw [hI2.out, decide_eq_true c5])
                      rw [c5]
                      clear c5 hI2
                      go_wp2
                      go_ret
                      exact ⟨by rw [hI3.out]; rfl, stepW LV N⟩
                    · have hI3 := Lib.hid (show isOneL r = false by rw [hI2.out, decide_eq_false c5])
                      have c6 : (last == (r.b.length : Int)) = false := by simpa using c5
                      clear hI2
                      go_wp2
                      go_ret
                      exact ⟨by rw [hI3.out]; rfl, stepW LV N⟩
        · have HI := Lib.hid (isOne_fd r (by rw [HFD.out, decide_eq_true c2, Bool.or_true]; rfl))
          have c2' : (e9 == 0) = false := by simpa using c2
          go_wp2_with fail
          go_ret
          exact ⟨by rw [HI.out]; rfl, stepW LV N5⟩
  · have hst' : stOk r = false := by simpa using hst
    have HI := Lib.hid (isOne_st r hst')
    have hor : r.st < 200 ∨ (¬ r.st < 200 ∧ 599 < r.st) ∨ (¬ r.st < 200 ∧ ¬ 599 < r.st ∧ 0 < r.b.length ∧ noBody r.st = true) := by
      by_cases h1 : r.st < 200
      · exact .inl h1
      · by_cases h2 : 599 < r.st
        · exact .inr (.inl ⟨h1, h2⟩)
        · refine .inr (.inr ⟨h1, h2, ?_⟩)
          simpa [stOk, h1, h2] using hst'
    clear hst hst'
    rcases hor with h1 | ⟨h1, h2⟩ | ⟨h1, h2, h3, h4⟩
    · go_wp2_with fail
      go_ret
      exact ⟨by rw [HI.out]; rfl, LV⟩
    · go_wp2_with fail
      go_ret
      exact ⟨by rw [HI.out]; rfl, LV⟩
    · have h3' : (0:Int) < (r.b.length : Int) := by omega
      have hnb := fun w => sta_NoBody r.st w
      rw [h4] at hnb
      go_wp2_with fail
      refine (hnb _).mono ?_
      rintro e w1 ⟨rfl, rfl⟩
      go_wp2_with fail
      go_ret
      exact ⟨by rw [HI.out]; rfl, LV⟩
end Go.Proofs.YtlambdccmfnloaaGreatDoor

/- reply.isOne. reply.parts. reply.Encode$1: a line is laid. -/
import Derived.Test.YtmjekdnfkgalbaaGreatDoorReE
import Derived.Test.YtmjekdnfkgalbaaGreatDoorStatus
import Derived.Test.YtmjekdnfkgalbaaGreatDoorRowB
namespace Go.Proofs.YtmjekdnfkgalbaaGreatDoor
open Go.RowKit
set_option maxRecDepth 100000
set_option maxHeartbeats 4000000

/-- A response in a block of its own. -/
structure RB (w : World) (g : Nat) (x : RsP) : Prop where
  blk : Blk w g 38 #[.int .i64 x.r.st, .slice x.af x.r.f.length x.cf, .slice x.ab x.r.b.length x.cb, .slice x.ap x.r.p.length x.cp]
  row : RsR w x
theorem RB.belowW {w w' : World} {g : Nat} {x : RsP} (h : RB w g x) (hb : Below w.heap.size w w') : RB w' g x := ⟨h.blk.belowW hb, h.row.belowW hb⟩
structure RsZ (x : RsP) : Prop where
  fs : FdSz x.r.f
  f : x.r.f.length ≤ 1000000
  b : x.r.b.length ≤ 1000000
  p : x.r.p.length ≤ 1000000
theorem ownOk_step {l : List Fd} {k : Nat} {f : Fd} (hd : l.drop k = f :: l.drop (k + 1)) : ownOk (l.drop k) = (!ownN f.1 && ownOk (l.drop (k + 1))) := by
  rw [hd]; rfl
theorem prtF_bad (n : Nat) (last a : Int) (l : List Int) (h : a ≤ last ∨ (n : Int) < a) : prtF n last (a :: l) = none := by rw [prtF, if_pos h]
theorem prtF_next (n : Nat) (last a : Int) (l : List Int) (h : ¬ (a ≤ last ∨ (n : Int) < a)) : prtF n last (a :: l) = prtF n a l := by rw [prtF, if_neg h]
theorem isOne_st (r : Rs) (h : stOk r = false) : isOneL r = false := by rw [isOneL, h]; rfl
theorem isOne_fd (r : Rs) (h : fdOk r.f = false) : isOneL r = false := by rw [isOneL, h, Bool.false_and, Bool.and_false]
theorem isOne_rest (r : Rs) (h : stOk r = true) (h2 : fdOk r.f = true) : isOneL r = (ownOk r.f && prtOk r.b.length r.p) := by rw [isOneL, h, h2, Bool.true_and, Bool.true_and]
theorem rep_isOne (x : RsP) (w : World) (hR : RsR w x) (hZ : RsZ x) :
    Calls Tryz.prog 42 #[rsW x] w fun e w' => e = .returned (.bool (isOneL x.r)) ∧ Below w.heap.size w w' := by
  obtain ⟨r, Af, cf, Ab, cb, Ap, cp⟩ := x
  have hzf : r.f.length ≤ 1000000 := hZ.f
  have hzb : r.b.length ≤ 1000000 := hZ.b
  have hzp : r.p.length ≤ 1000000 := hZ.p
  have hzs : FdSz r.f := hZ.fs
  show Calls Tryz.prog 42 #[.agg #[.int .i64 r.st, .slice Af r.f.length cf, .slice Ab r.b.length cb, .slice Ap r.p.length cp]] w fun e w' => e = .returned (.bool (isOneL r)) ∧ Below w.heap.size w w'
  go_enter Tryz.func42, Tryz.ntmps42
  go_upto_region 1 with (fail)
  obtain ⟨V, hV⟩ : ∃ V, V = w.alloc (.cells #[.int .i64 r.st, .slice Af r.f.length cf, .slice Ab r.b.length cb, .slice Ap r.p.length cp] 38) := ⟨_, rfl⟩
  rw [← hV]
  have LV : Below w.heap.size w V := by rw [hV]; exact allocW (Below.refl _ _) _
  have BV : Blk V w.heap.size 38 #[.int .i64 r.st, .slice Af r.f.length cf, .slice Ab r.b.length cb, .slice Ap r.p.length cp] := by rw [hV]; exact Blk.new' _ _ rfl _ _
  clear hV
  have RV : RB V w.heap.size ⟨r, Af, cf, Ab, cb, Ap, cp⟩ := ⟨BV, hR.belowW LV⟩
  obtain ⟨x0, x1, x2, x3, z0, z1, z2, z3⟩ := BV.c4
  by_cases hst : stOk r = true
  · have hst' : ¬ r.st < 200 ∧ ¬ 599 < r.st ∧ (r.b.length = 0 ∨ (0 < r.b.length ∧ noBody r.st = false)) := by
      by_cases h1 : r.st < 200
      · simp [stOk, h1] at hst
      · by_cases h2 : 599 < r.st
        · simp [stOk, h2] at hst
        · refine ⟨h1, h2, ?_⟩
          by_cases h3 : 0 < r.b.length
          · exact .inr ⟨h3, by simpa [stOk, h1, h2, h3] using hst⟩
          · exact .inl (by omega)
    have HST := Lib.hid hst
    obtain ⟨h1, h2, h3⟩ := hst'
    clear hst
    go_cut [28] (fun v28 wx => v28 = .bool false ∧ V = wx)
    case first =>
      rcases h3 with h3 | ⟨h3, h4⟩
      · have h5 : ¬ (0:Int) < (r.b.length : Int) := by omega
        clear h3
        go_wp2_with fail
        go_meet
        case rel => exact ⟨rfl, rfl⟩
      · have h3' : (0:Int) < (r.b.length : Int) := by omega
        have hnb := fun w => sta_NoBody r.st w
        rw [h4] at hnb
        go_wp2_with fail
        refine (hnb _).mono ?_
        rintro e w1 ⟨rfl, rfl⟩
        go_wp2_with fail
        go_meet
        case rel => exact ⟨rfl, rfl⟩
    case rest =>
      obtain ⟨rfl, rfl⟩ := hcut
      have hnil : (addL [] [] 0).1 = ([] : List Fd) := rfl
      have hO := fun w => fld_Of 0 0 none [] w ⟨rfl, fun h => absurd h (by decide)⟩ (fun f hf => by cases hf) (by decide)
      rw [hnil] at hO
      have hA0 : ∀ (w2 : World) (gf : Nat) (v : Value) (L2 : Below V.heap.size V w2) (hF : FA w2 109 gf V.heap.size v []), Calls Tryz.prog 76 #[.pointer (some ⟨gf, 0, none⟩), .slice Af r.f.length cf] w2 (AddPost 109 w2 gf V.heap.size v (addL [] r.f 0)) := by
        intro w2 gf v L2 hF
        have hr : Rd w2 V.heap.size 2 Af r.f.length (fcells r.f) := RV.row.rf.below L2
        refine fld_Add gf V.heap.size r.f.length cf V.heap.size Af v [] r.f w2 hF hr L2.size (hr.off ?_) hzs (Nat.zero_le _) L2.size (by omega)
        intro i hi
        rcases hi with h | h
        · rw [h]; exact hF.lo
        · exact (Own.lt hF.own i h).1
      have S0 : V.cell? ⟨w.heap.size, 1, none⟩ = some (.slice Af r.f.length cf) := x1
      have HS : ∀ w', Below V.heap.size V w' → w'.cell? ⟨w.heap.size, 1, none⟩ = some (.slice Af r.f.length cf) ∧ w'.frozen? ⟨w.heap.size, 1, none⟩ = false := by
        intro w' hb
        obtain ⟨-, h1, -, -, -, h2, -, -⟩ := (BV.belowW hb).c4
        exact ⟨h1, h2⟩
      unfold AddPost addV at hA0
      generalize hadd : addL [] r.f 0 = ad at *
      obtain ⟨l9, n9, e9⟩ := ad
      go_wp2_with fail
      go_region_held3 (fun w' => w'.cell? ⟨w.heap.size, 1, none⟩ = some (.slice Af r.f.length cf) ∧ w'.frozen? ⟨w.heap.size, 1, none⟩ = false)
        (first | go_keep | with_reducible exact ⟨x1, z1⟩ | with_reducible exact X4 | with_reducible exact X5)
        (first
          | (go_at_call 75
             refine (hO _).mono ?_
             rintro e w4 ⟨⟨gf, vf, rfl, hF4⟩, L4⟩
             have N4 := stepW (Below.refl V.heap.size V).drew L4
             have X4 := HS _ N4)
          | (go_at_call 76
             refine (hA0 _ _ _ N4 hF4).mono ?_
             rintro e w5 ⟨rfl, -, hfr⟩
             have N5 : Below V.heap.size V w5 := N4.trans (hfr.toBelow N4.size (by
               intro i hi
               rcases hi with h | h
               · rw [h]; exact hF4.lo
               · exact (Own.lt hF4.own i h).1))
             have X5 := HS _ N5))
      have HFD := Lib.hid (show fdOk r.f = !(decide (n9 < r.f.length) || decide (e9 ≠ 0)) by rw [fdOk, hadd])
      have R5 := RV.belowW N5
      clear hA0 hO hadd X4 X5 N4 L4 hF4 hfr HS S0 hnil x0 x1 x2 x3 z0 z1 z2 z3 BV h3
      by_cases c1 : n9 < r.f.length
      · have HI := Lib.hid (isOne_fd r (by rw [HFD.out, decide_eq_true c1]; rfl))
        have c1' : (n9 : Int) < (r.f.length : Int) := by omega
        go_wp2_with fail
        go_ret
        exact ⟨by rw [HI.out]; rfl, stepW LV N5⟩
      · have c1' : ¬ (n9 : Int) < (r.f.length : Int) := by omega
        by_cases c2 : e9 = 0
        · have HI := Lib.hid (isOne_rest r HST.out (by rw [HFD.out, decide_eq_false c1, c2]; rfl))
          subst c2
          clear HFD HST
          obtain ⟨x0, x1, x2, x3, z0, z1, z2, z3⟩ := R5.blk.c4
          go_wp2_with fail
          go_loopw [48] (fun i wr => ∃ k : Nat, k ≤ r.f.length ∧ i = .int .i64 k ∧ Hid (ownOk r.f = ownOk (r.f.drop k)) ∧ Below V.heap.size V wr) (fun i _ => r.f.length - (intOf i).toNat)
          case atStart => exact ⟨0, Nat.zero_le _, rfl, rfl, N5⟩
          case round =>
            obtain ⟨k, hk, rfl, H, N⟩ := hrel
            have Rk := RV.belowW N
            by_cases hlt : k < r.f.length
            · obtain ⟨f, hf, hd⟩ := drop_fd hlt
              obtain ⟨s1, s2⟩ := hzs.at hf
              have hO := fun w => rep_isOurs f.1 w s1
              have H2 := Lib.hid (H.out.trans (ownOk_step hd))
              obtain ⟨b, o, rfl, hbB, y0, y1⟩ := Rd.fd (show Rd wr wr.heap.size 2 Af r.f.length (fcells r.f) from Rk.row.rf) rfl k f hf
              clear hf hd H
              go_wp2_with fail
              obtain ⟨W, hW⟩ : ∃ W, W = wr.alloc (.cells #[sv f.1, sv f.2] 58) := ⟨_, rfl⟩
              rw [← hW]
              have LW : Below wr.heap.size wr W := by rw [hW]; exact allocW (Below.refl _ _) _
              clear hW y0 y1
              refine (hO W).mono ?_
              rintro e w1 ⟨rfl, L1⟩
              have N1 := stepW (stepW N LW) L1
              cases hown : ownN f.1
              · have H3 := Lib.hid (show ownOk r.f = ownOk (r.f.drop (k + 1)) by rw [H2.out, hown]; rfl)
                clear hown
                go_wp2
                go_roundw
                case rel => exact ⟨k + 1, by omega, by go_num, H3, N1⟩
                case measure => simp [intOf]; omega
              · have H3 := Lib.hid (show ownOk r.f = false by rw [H2.out, hown]; rfl)
                clear hown
                go_wp2
                go_ret
                exact ⟨by rw [HI.out, H3.out]; rfl, stepW LV N1⟩
            · have hT := Lib.hid (show isOneL r = prtOk r.b.length r.p by rw [HI.out, H.out, List.drop_of_length_le (by omega)]; rfl)
              obtain rfl : k = r.f.length := by omega
              clear x0 x2 x3 z0 z1 z2 z3 HI H
              obtain ⟨x0, x1, x2, x3, z0, z1, z2, z3⟩ := Rk.blk.c4
              go_wp2_with fail
              go_loopw [7, 59] (fun x7 i wx => ∃ (k : Nat) (last : Int), k ≤ r.p.length ∧ i = .int .i64 k ∧ x7 = .int .i64 last ∧ Hid (prtF r.b.length 0 r.p = prtF r.b.length last (r.p.drop k)) ∧ wr = wx) (fun _ i _ => r.p.length - (intOf i).toNat)
              case atStart => exact ⟨0, 0, Nat.zero_le _, rfl, rfl, rfl, rfl⟩
              case round =>
                obtain ⟨k, last, hk, rfl, rfl, H, rfl⟩ := hrel
                by_cases hlt : k < r.p.length
                · obtain ⟨a, ha, hd⟩ := drop_list r.p k hlt
                  obtain ⟨b, o, rfl, hbB, hy⟩ := (show Rd wr wr.heap.size 1 Ap r.p.length (r.p.map fun i => Value.int .i64 i) from Rk.row.rp).2 (by omega)
                  have y := hy k (.int .i64 a) (map_get _ _ _ _ ha)
                  have H2 := Lib.hid (show prtF r.b.length 0 r.p = prtF r.b.length last (a :: r.p.drop (k + 1)) by rw [H.out, hd])
                  clear ha hd H hy
                  by_cases c3 : a ≤ last
                  · have H3 := Lib.hid (H2.out.trans (prtF_bad _ _ _ _ (.inl c3)))
                    go_wp2
                    go_ret
                    exact ⟨by rw [hT.out, prtOk, H3.out]; rfl, stepW LV N⟩
                  · by_cases c4 : (r.b.length : Int) < a
                    · have H3 := Lib.hid (H2.out.trans (prtF_bad _ _ _ _ (.inr c4)))
                      go_wp2
                      go_ret
                      exact ⟨by rw [hT.out, prtOk, H3.out]; rfl, stepW LV N⟩
                    · have H3 := Lib.hid (H2.out.trans (prtF_next _ _ _ _ (fun h => h.elim c3 c4)))
                      go_wp2
                      go_roundw
                      case rel => exact ⟨k + 1, a, by omega, by go_num, rfl, H3, trivial⟩
                      case measure => simp [intOf]; omega
                · have H3 := Lib.hid (H.out.trans (show prtF r.b.length last (r.p.drop k) = some last by rw [List.drop_of_length_le (by omega)]; rfl))
                  obtain rfl : k = r.p.length := by omega
                  have hI := Lib.hid (show isOneL r = (decide (r.p = []) || decide (last = (r.b.length : Int))) by rw [hT.out, prtOk, H3.out])
                  clear H H3 hT
                  by_cases hp0 : r.p.length = 0
                  · have hI2 := Lib.hid (show isOneL r = true by rw [hI.out, List.eq_nil_of_length_eq_zero hp0]; rfl)
                    rw [hp0] at x3
                    clear hI hp0
                    go_wp2
                    go_ret
                    exact ⟨by rw [hI2.out]; rfl, stepW LV N⟩
                  · have hI2 := Lib.hid (show isOneL r = decide (last = (r.b.length : Int)) by rw [hI.out, decide_eq_false (fun h => hp0 (by rw [h]; rfl)), Bool.false_or])
                    have hq0 : ((r.p.length : Int) == 0) = false := by rw [Bool.eq_false_iff]; intro h; exact hp0 (by have := beq_iff_eq.1 h; omega)
                    clear hI
                    by_cases c5 : last = (r.b.length : Int)
                    · have hI3 := Lib.hid (show isOneL r = true by rw [hI2.out, decide_eq_true c5])
                      rw [c5]
                      clear c5 hI2
                      go_wp2
                      go_ret
                      exact ⟨by rw [hI3.out]; rfl, stepW LV N⟩
                    · have hI3 := Lib.hid (show isOneL r = false by rw [hI2.out, decide_eq_false c5])
                      have c6 : (last == (r.b.length : Int)) = false := by simpa using c5
                      clear hI2
                      go_wp2
                      go_ret
                      exact ⟨by rw [hI3.out]; rfl, stepW LV N⟩
        · have HI := Lib.hid (isOne_fd r (by rw [HFD.out, decide_eq_true c2, Bool.or_true]; rfl))
          have c2' : (e9 == 0) = false := by simpa using c2
          go_wp2_with fail
          go_ret
          exact ⟨by rw [HI.out]; rfl, stepW LV N5⟩
  · have hst' : stOk r = false := by simpa using hst
    have HI := Lib.hid (isOne_st r hst')
    have hor : r.st < 200 ∨ (¬ r.st < 200 ∧ 599 < r.st) ∨ (¬ r.st < 200 ∧ ¬ 599 < r.st ∧ 0 < r.b.length ∧ noBody r.st = true) := by
      by_cases h1 : r.st < 200
      · exact .inl h1
      · by_cases h2 : 599 < r.st
        · exact .inr (.inl ⟨h1, h2⟩)
        · refine .inr (.inr ⟨h1, h2, ?_⟩)
          simpa [stOk, h1, h2] using hst'
    clear hst hst'
    rcases hor with h1 | ⟨h1, h2⟩ | ⟨h1, h2, h3, h4⟩
    · go_wp2_with fail
      go_ret
      exact ⟨by rw [HI.out]; rfl, LV⟩
    · go_wp2_with fail
      go_ret
      exact ⟨by rw [HI.out]; rfl, LV⟩
    · have h3' : (0:Int) < (r.b.length : Int) := by omega
      have hnb := fun w => sta_NoBody r.st w
      rw [h4] at hnb
      go_wp2_with fail
      refine (hnb _).mono ?_
      rintro e w1 ⟨rfl, rfl⟩
      go_wp2_with fail
      go_ret
      exact ⟨by rw [HI.out]; rfl, LV⟩
end Go.Proofs.YtmjekdnfkgalbaaGreatDoor
namespace Go.Proofs.YtmjekdnfkgalbaaGreatDoor
open Go.RowKit
set_option maxRecDepth 100000
set_option maxHeartbeats 4000000

/-- Rows of bytes made. -/
def CutPost (w : World) (ps : List Bs) (e : Ending) (w' : World) : Prop :=
  ∃ A c, e = .returned (.slice A ps.length c) ∧ RdS w' w'.heap.size A ps.length ps ∧ Below w.heap.size w w'
structure CtRel (w : World) (b : Bs) (p : List Int) (a k : Nat) (v : Value) (ps : List Bs) (wr : World) : Prop where
  an : a ≤ b.length
  kz : k ≤ p.length
  ok : (prtF b.length a (p.drop k)).isSome = true
  pk : ps.length = k
  eq : cutP b 0 p = ps ++ cutP b a (p.drop k)
  own : OPs wr w.heap.size v ps
  below : Below w.heap.size w wr
theorem prt_more {n : Nat} {last a : Int} {l : List Int} (h : (prtF n last (a :: l)).isSome = true) : last < a ∧ a ≤ (n : Int) ∧ (prtF n a l).isSome = true := by
  rw [prtF] at h
  split at h
  · cases h
  · rename_i h9
    exact ⟨by omega, by omega, h⟩
theorem CtRel.next {w : World} {b : Bs} {p : List Int} {a k : Nat} {v : Value} {ps : List Bs} {wr : World} (h : CtRel w b p a k v ps wr) (hk : k < p.length) :
    ∃ z : Nat, p[k]? = some (z : Int) ∧ a < z ∧ z ≤ b.length ∧ (((b.drop a).take (z - a)).length = z - a) ∧
      ∀ (v' : Value) (wr' : World), OPs wr' w.heap.size v' (ps ++ [(b.drop a).take (z - a)]) → Ext wr wr' v v' → CtRel w b p z (k + 1) v' (ps ++ [(b.drop a).take (z - a)]) wr' := by
  obtain ⟨x, hx, hd⟩ := drop_list p k hk
  have ho := h.ok
  rw [hd] at ho
  obtain ⟨h1, h2, h3⟩ := prt_more ho
  obtain ⟨z, rfl⟩ : ∃ z : Nat, x = (z : Int) := ⟨x.toNat, by omega⟩
  refine ⟨z, hx, by omega, by omega, by rw [List.length_take, List.length_drop]; omega, fun v' wr' ho' hx' => ⟨by omega, by omega, h3, by rw [List.length_append, h.pk]; rfl, ?_, ho', h.below.trans (h.own.ext hx' h.below.size)⟩⟩
  rw [h.eq, hd, cutP, List.append_assoc, Int.toNat_natCast, Int.toNat_natCast, List.drop_take]
  rfl
theorem CtRel.rd {w : World} {b : Bs} {p : List Int} {a k : Nat} {v : Value} {ps : List Bs} {wr : World} (h : CtRel w b p a k v ps wr) {A : Option Addr} (hA : Rd w w.heap.size 1 A b.length (b.map bv)) (m : Nat) (hm : m ≤ b.length - a) :
    Rd wr wr.heap.size 1 (A.map (·.add a)) m (((b.drop a).take m).map bv) ∧ (0 < m → ∀ x, A.map (·.add a) = some x → v.ownBlock ≠ some x.block) := by
  have h1 := ((hA.cutFrom (k := a) h.an).cutTo (k := m) hm)
  rw [Nat.mul_one, Nat.mul_one, ← List.map_drop, ← List.map_take] at h1
  refine ⟨(h1.below h.below).more h.below.size, fun h0 x hx hv => ?_⟩
  obtain ⟨b1, o1, e1, hlt, -⟩ := h1.2 h0
  rw [hx] at e1
  injection e1 with e1
  obtain ⟨vs, ho, -⟩ := h.own
  have := (Own.lt ho _ hv).1
  rw [e1] at this
  simp only at this
  omega
def OffB (v : Value) (n : Nat) (A : Option Addr) : Prop := 0 < n → ∀ x, A = some x → v.ownBlock ≠ some x.block
theorem rep_parts (x : RsP) (w : World) (hR : RsR w x) (hZ : RsZ x) (hok : (prtF x.r.b.length 0 x.r.p).isSome = true) :
    Calls Tryz.prog 49 #[rsW x] w (CutPost w (cutP x.r.b 0 x.r.p)) := by
  obtain ⟨r, Af, cf, Ab, cb, Ap, cp⟩ := x
  have hzb : r.b.length ≤ 1000000 := hZ.b
  have hzp : r.p.length ≤ 1000000 := hZ.p
  have hcb : r.b.length ≤ cb := hR.cb
  have hrb : Rd w w.heap.size 1 Ab r.b.length (r.b.map bv) := hR.rb
  have hrp : Rd w w.heap.size 1 Ap r.p.length (r.p.map fun i => Value.int .i64 i) := hR.rp
  show Calls Tryz.prog 49 #[.agg #[.int .i64 r.st, .slice Af r.f.length cf, .slice Ab r.b.length cb, .slice Ap r.p.length cp]] w (CutPost w (cutP r.b 0 r.p))
  have hok' : (prtF r.b.length 0 r.p).isSome = true := hok
  clear hok hR hZ
  go_enter Tryz.func49, Tryz.ntmps49
  go_upto_region 1 with (fail)
  obtain ⟨V, hV⟩ : ∃ V, V = w.alloc (.cells #[.int .i64 r.st, .slice Af r.f.length cf, .slice Ab r.b.length cb, .slice Ap r.p.length cp] 38) := ⟨_, rfl⟩
  rw [← hV]
  have LV : Below w.heap.size w V := by rw [hV]; exact allocW (Below.refl _ _) _
  have BV : Blk V w.heap.size 38 #[.int .i64 r.st, .slice Af r.f.length cf, .slice Ab r.b.length cb, .slice Ap r.p.length cp] := by rw [hV]; exact Blk.new' _ _ rfl _ _
  clear hV
  obtain ⟨x0, x1, x2, x3, z0, z1, z2, z3⟩ := BV.c4
  have hbV : Rd V V.heap.size 1 Ab r.b.length (r.b.map bv) := (hrb.below LV).more LV.size
  have hpV : Rd V V.heap.size 1 Ap r.p.length (r.p.map fun i => Value.int .i64 i) := (hrp.below LV).more LV.size
  have H0 : CtRel V r.b r.p 0 0 (.slice none 0 0) [] V := ⟨Nat.zero_le _, Nat.zero_le _, hok', rfl, rfl, OPs.nil _ _, Below.refl _ _⟩
  clear hok' hrb hrp
  go_wp2_with fail
  go_loopw [3, 4, 10] (fun x3 x4 x10 wr => ∃ (a k : Nat) (v : Value) (ps : List Bs), v = x3 ∧ x4 = .int .i64 a ∧ x10 = .int .i64 k ∧ CtRel V r.b r.p a k v ps wr) (fun _ _ x10 _ => r.p.length - (intOf x10).toNat)
  case atStart => exact ⟨0, 0, _, [], rfl, rfl, rfl, H0⟩
  case round =>
    obtain ⟨a, k, v, ps, hv, rfl, rfl, H⟩ := hrel
    subst hv
    have hk := H.kz
    have han := H.an
    have hpk := H.pk
    by_cases hlt : k < r.p.length
    · obtain ⟨z, hz, haz, hzl, hpl, hN⟩ := H.next hlt
      obtain ⟨hr, hne⟩ := H.rd hbV (z - a) (by omega)
      obtain ⟨b1, o1, rfl, hb1, hy⟩ := (hpV.below H.below).2 (by omega)
      have y1 := hy k (.int .i64 (z : Int)) (map_get _ _ _ _ hz)
      obtain ⟨b2, o2, rfl, hb2, hy2⟩ := hbV.2 (by omega)
      obtain ⟨q0, q1, q2, q3, p0, p1, p2, p3⟩ := (BV.belowW H.below).c4
      rw [Option.map_some, add_lit'] at hr hne
      obtain ⟨P, hP⟩ : ∃ P, P = (r.b.drop a).take (z - a) := ⟨_, rfl⟩
      rw [← hP] at hpl hr hN
      rw [← hpl] at hr hne
      have hof : OffB v P.length (some ⟨b2, o2 + a, none⟩) := hne
      have HPL := Lib.hid hpl
      have hsz := H.below.size
      have hzc : z ≤ cb := by omega
      clear hy hy2 hz hpl hne hP x0 x1 x2 x3 z0 z1 z2 z3
      go_upto_region 7 with (first
        | (at_builtin
           refine wp_appPs rfl _ _ rfl V.heap.size v ps rfl H.own wr.heap.size rfl (some ⟨b2, o2 + a, none⟩) (z - a) (cb - a) P HPL.out rfl hr hof (by omega) H.below.size ?_
           intro v' w' ho' hx'))
      go_wp2_with fail
      go_roundw
      case rel => exact ⟨z, k + 1, _, _, rfl, rfl, by go_num, hN _ _ ho' hx'⟩
      case measure => simp [intOf]; omega
    · have hke : k = r.p.length := by omega
      have heq := H.eq
      rw [List.drop_of_length_le (l := r.p) (i := k) (by omega), cutP, List.append_nil] at heq
      have HE := Lib.hid heq
      obtain ⟨A9, c9, rfl, hS⟩ := H.own.form
      have hb := H.below
      clear heq
      go_wp2
      go_ret
      exact ⟨A9, c9, by rw [HE.out]; rfl, by rw [HE.out]; exact hS, LV.trans (hb.mono LV.size)⟩
end Go.Proofs.YtmjekdnfkgalbaaGreatDoor
namespace Go.Proofs.YtmjekdnfkgalbaaGreatDoor
open Go.RowKit
set_option maxRecDepth 100000
set_option maxHeartbeats 4000000

theorem step_appT {ops : Array Oper} {o : Oper} {a : Act} {w : World} {K : Act → World → Prop} {Q : Exit → Act → World → Prop} {E : Prop} (hgd : o.guard = none) (s x : Operand)
    (ho : o.op = .call { callee := .builtin .append, args := #[s, x], argTypes := #[22, 9] })
    (base : Nat) (v : Value) (l : Bs) (hs : a.eval s = v) (hown : OB w base v l) (m : Bs) (hx : a.eval x = sv m)
    (hlen : l.length + m.length ≤ 140737488355328) (hbase : base ≤ w.heap.size)
    (hK : ∀ v' w', OB w' base v' (l ++ m) → Ext w w' v v' → K (a.put o.dst v') w') :
    if Region.wanted o (yielded ops a.tmps) = true then Oper.wp Tryz.prog o a w K Q else E := by
  have hwt : Region.wanted o (yielded ops a.tmps) = true := by simp [Region.wanted, hgd]
  rw [if_pos hwt]
  obtain ⟨i0, hi, hz0, hz1, hz2⟩ := info_parts info_b8
  obtain ⟨v', w', hrun, h2, h3, h4⟩ := run_append_Own (P := Tryz.prog) w base 22 9 o.type 5 i0 _ 1 1 Tryz.underlying22 (.inr Tryz.underlying9) hi hz0 hz1 hz2 rfl (by decide) v l.length _ hown (sv m) m.length _ (Src.of_string (P := Tryz.prog) (w := w) m) (by unfold maxLen; omega) (by omega) hbase
  have e : (l.map bv ++ m.map bv) = (l ++ m).map bv := by simp
  rw [e] at h2
  have key := hK v' w' (by unfold OB; rw [List.length_append]; exact h2) (ext_of (Below.refl _ _) h3 h4)
  unfold Oper.wp
  simp [execOp, ho, resolve, invoke, builtin, hs, hx, hrun, Result.andThen]
  exact key

/-- At block g stands a row of bytes of the call's own. -/
structure BA (w : World) (g base : Nat) (v : Value) (l : Bs) : Prop where
  blk : Blk w g 22 #[v]
  own : OB w base v l
  lo : base ≤ g
  ne : v.ownBlock ≠ some g
theorem BA.belowW {w w' : World} {g base : Nat} {v : Value} {l : Bs} (h : BA w g base v l) (hb : Below w.heap.size w w') : BA w' g base v l := ⟨h.blk.belowW hb, h.own.belowW hb, h.lo, h.ne⟩
theorem BA.app {w1 w3 : World} {g base : Nat} {v v' : Value} {l l' : Bs} (h : BA w1 g base v l) (hx : Ext w1 w3 v v') (ho : OB w3 base v' l') : BA (w3.setCell ⟨g, 0, none⟩ v') g base v' l' := by
  have hne : ∀ k, v'.ownBlock = some k → k ≠ g := by
    intro k hk hg
    subst hg
    rcases hx.own k hk with h1 | h1
    · exact h.ne h1
    · have := h.blk.lt; omega
  exact ⟨(h.blk.fr hx.fr h.ne).set_ 0 v', Own.far ho (p := ⟨g, 0, none⟩) hne v', h.lo, fun e => hne g e rfl⟩
theorem BA.below {w w1 w3 : World} {g base : Nat} {v v' : Value} {l : Bs} (h : BA w1 g base v l) (L : Below base w w1) (hb : base ≤ w1.heap.size) (hx : Ext w1 w3 v v') (u : Value) : Below base w (w3.setCell ⟨g, 0, none⟩ u) :=
  L.trans ((FA.app_fr hx u).toBelow hb (by
    intro i hi
    rcases hi with h1 | h1
    · rw [h1]; exact h.lo
    · exact (Own.lt h.own i h1).1))
theorem Ext.two {w1 w2 w3 : World} {v1 v2 v3 : Value} (h : Ext w1 w2 v1 v2) (k : Ext w2 w3 v2 v3) (hs : w1.heap.size ≤ w2.heap.size) : Ext w1 w3 v1 v3 :=
  ⟨h.fr.trans k.fr fun i hi => h.own i hi, fun j hj => by
    rcases k.own j hj with h1 | h1
    · exact h.own j h1
    · exact .inr (Nat.le_trans hs h1)⟩
theorem rep_line (g base n c B : Nat) (A : Option Addr) (v : Value) (l : Bs) (xs : List ByteArray) (w : World) (hF : BA w g base v l) (hA : Rd w B 1 A n (xs.map Value.string)) (hB : B ≤ w.heap.size) (hn : n ≤ 1000000) (hc : n ≤ c)
    (hb : base ≤ w.heap.size) (hl : l.length ≤ 100000000) (hm : (xs.map (·.data.toList)).flatten.length ≤ 100000000) :
    Calls Tryz.prog 43 #[.slice A n c, .pointer (some ⟨g, 0, none⟩)] w fun e w' => e = .returned (.tuple #[]) ∧ (∃ v', BA w' g base v' (l ++ (xs.map (·.data.toList)).flatten ++ crlf)) ∧ Below base w w' := by
  have hJ := fun (w1 : World) (L : Below w.heap.size w w1) => asc_Join A n c B xs w1 (Nat.le_trans hB L.size) ((hA.below (L.mono hB))) hc (by omega) (by omega)
  go_enter Tryz.func43, Tryz.ntmps43
  obtain ⟨x0, z0⟩ := hF.blk.c1
  generalize (xs.map (·.data.toList)).flatten = m at *
  obtain ⟨lx, hlx⟩ : ∃ lx, lx = l ++ m ++ crlf := ⟨_, rfl⟩
  have HL := Lib.hid hlx.symm
  clear hlx
  go_wp2_with fail
  go_region_law (first
    | (go_simp; go_at_call 44; refine (hJ _ (Below.refl _ _).drew).mono ?_; rintro e w2 ⟨rfl, L2⟩; have N2 := stepW (Below.refl w.heap.size w).drew L2; have B2 := hF.belowW N2; obtain ⟨y0, y1⟩ := B2.blk.c1; have hs2 := N2.size)
    | (refine step_appT rfl (.tmp 3) (.tmp 5) rfl base v l rfl B2.own m rfl (by omega) (by omega) ?_; intro v3 w3 ho3 hx3; have hs3 := hx3.fr.size; have hb3 := (B2.blk.fr hx3.fr B2.ne).c1; obtain ⟨q0, q1⟩ := hb3)
    | (refine step_appT rfl (.tmp 6) (.const (.string ⟨#[13, 10]⟩)) rfl base v3 (l ++ m) rfl ho3 crlf rfl (by simp [crlf]; omega) (by omega) ?_; intro v4 w4 ho4 hx4; rw [HL.out] at ho4; have hx5 := hx3.two hx4 hs3; have hb4 := (B2.blk.fr hx5.fr B2.ne).c1; obtain ⟨r0, r1⟩ := hb4; obtain ⟨A4, c4, hv4, -, -, -⟩ := ho4.form; subst hv4))
  all_goals
    go_end0
    exact ⟨rfl, ⟨_, by rw [HL.out]; exact B2.app hx5 ho4⟩, B2.below (N2.mono hb) (by omega) hx5 _⟩
end Go.Proofs.YtmjekdnfkgalbaaGreatDoor

/- usherref26.Replies. -/
import Derived.Test.YtmjekdnfkgalbaaGreatDoorRsB
namespace Go.Proofs.YtmjekdnfkgalbaaGreatDoor
open Go.RowKit
set_option maxRecDepth 100000
set_option maxHeartbeats 4000000

theorem pfxQ_take (p l : Bs) : p.isPrefixOf l = (l.take p.length == p) := by
  rw [Bool.eq_iff_iff, List.isPrefixOf_iff_prefix, beq_iff_eq]
  constructor
  · intro h
    exact (List.prefix_iff_eq_take.1 h).symm
  · intro h
    exact List.prefix_iff_eq_take.2 h.symm
theorem pfx_word (D : Bs) (h : contW.isPrefixOf D = false) : D.isPrefixOf contW = (decide (D.length < 25) && (contW.take D.length == D)) := by
  by_cases hl : D.length < 25
  · rw [decide_eq_true hl, Bool.true_and]
    exact pfxQ_take D contW
  · rw [decide_eq_false hl, Bool.false_and, Bool.eq_false_iff]
    intro h1
    have h2 := pfxQ_len _ _ h1
    have h3 : contW.length = 25 := rfl
    obtain ⟨t, ht⟩ := List.isPrefixOf_iff_prefix.1 h1
    have h4 := congrArg List.length ht
    rw [List.length_append] at h4
    obtain rfl : t = [] := List.eq_nil_of_length_eq_zero (by omega)
    rw [List.append_nil] at ht
    rw [ht] at h
    exact absurd h (by decide)
theorem RsR.put4 {w : World} {x : RsP} {g : Nat} (h : RsR w x) (hn : RsX x (fun k => k = g)) (b0 b1 b2 b3 : Value) : RsR ((((w.setCell ⟨g, 0, none⟩ b0).setCell ⟨g, 1, none⟩ b1).setCell ⟨g, 2, none⟩ b2).setCell ⟨g, 3, none⟩ b3) x :=
  h.fr hn (((((Fr.refl (fun k => k = g) w).setCell (p := ⟨g, 0, none⟩) (.inl rfl) b0).setCell (p := ⟨g, 1, none⟩) (.inl rfl) b1).setCell (p := ⟨g, 2, none⟩) (.inl rfl) b2).setCell (p := ⟨g, 3, none⟩) (.inl rfl) b3)
theorem ReadPostN.form {w w' : World} {y : Rs} {cl : Bool} {k : Nat} {er : Int} {e : Ending} (h : ReadPostN w (y, cl, k, er) e w') :
    ∃ (Af : Option Addr) (cf : Nat) (Ab : Option Addr) (cb : Nat) (Ap : Option Addr) (cp : Nat), e = .returned (.tuple #[.agg #[.int .i64 y.st, .slice Af y.f.length cf, .slice Ab y.b.length cb, .slice Ap y.p.length cp], .bool cl, .int .i64 (k : Int), .int .i64 er]) ∧ RsR w' ⟨y, Af, cf, Ab, cb, Ap, cp⟩ ∧ RsN w.heap.size ⟨y, Af, cf, Ab, cb, Ap, cp⟩ ∧ Below w.heap.size w w' := by
  obtain ⟨⟨xr, Af, cf, Ab, cb, Ap, cp⟩, h1, h2, h3, h4, h5⟩ := h
  dsimp only at h2
  subst h2
  exact ⟨Af, cf, Ab, cb, Ap, cp, h1, h3, h4, h5⟩
theorem r26_Replies (A : Option Addr) (c : Nat) (b : Bs) (Am : Option Addr) (cm : Nat) (ms : List Bs) (w : World) (hr : Rd w w.heap.size 1 A b.length (b.map bv)) (hc : b.length ≤ c) (hb : b.length ≤ 100000)
    (hm : Rd w w.heap.size 1 Am ms.length (ms.map tv)) (hml : ms.length ≤ 1000) :
    Calls Tryz.prog 8 #[.slice A b.length c, .slice Am ms.length cm] w (RepsPost w (repsL b ms 0 [])) := by
  obtain ⟨R0, hR0⟩ : ∃ R0, repsL b ms 0 [] = R0 := ⟨_, rfl⟩
  rw [hR0]
  have HR0 := Lib.hid hR0
  have h25 : contW.length = 25 := rfl
  clear hR0
  go_enter Tryz.func8, Tryz.ntmps8
  go_wp2_with fail
  refine (ref_Cont _).mono ?_
  rintro e w1 ⟨rfl, rfl⟩
  go_wp2_with fail
  go_loopw [11, 7, 9, 10] (fun i v n u wr => ∃ (k : Nat) (l : List RsP) (m : Nat), i = .int .i64 k ∧ k ≤ ms.length ∧ m ≤ b.length ∧ n = .int .i64 m ∧ u = .int .i64 m ∧ l.length ≤ k ∧ OSp wr w1.heap.size v l ∧ Below w1.heap.size w1 wr ∧ Hid (R0 = repsL b (ms.drop k) m (l.map (·.r)))) (fun i _ _ _ _ => ms.length - (intOf i).toNat)
  case atStart => exact ⟨0, [], 0, rfl, Nat.zero_le _, Nat.zero_le _, rfl, rfl, Nat.le_refl _, OSp.nil _ _, Below.refl _ _, HR0.out.symm⟩
  case round =>
    obtain ⟨k, l, m, rfl, hk, hmb, rfl, rfl, hlk, OS, LB, HF⟩ := hrel
    obtain ⟨Ar, cr, rfl, hcr, -, RR⟩ := OS.form
    by_cases hkl : k < ms.length
    · have hkl2 : (k : Int) < (ms.length : Int) := by omega
      obtain ⟨mk, hmk⟩ : ∃ mk, ms[k]? = some mk := ⟨_, List.getElem?_eq_getElem hkl⟩
      have hdk : ms.drop k = mk :: ms.drop (k + 1) := by
        obtain ⟨h3, h4⟩ := List.getElem?_eq_some_iff.1 hmk
        rw [List.drop_eq_getElem_cons h3, h4]
      rw [hdk] at HF
      have HKL := Lib.hid hkl
      have HMK := Lib.hid hmk
      clear hkl hmk hdk
      obtain ⟨W1, rfl⟩ : ∃ W1, W1 = wr := ⟨_, rfl⟩
      go_wp2_with fail
      go_loopw [10] (fun v ww => ∃ (f q : Nat), q ≤ b.length ∧ v = .int .i64 q ∧ b.length - q < f ∧ Hid (m + skipW (b.length + 1) (b.drop m) = q + skipW f (b.drop q)) ∧ W1 = ww) (fun v _ => b.length - (intOf v).toNat)
      case atStart => exact ⟨b.length + 1, m, hmb, rfl, by omega, rfl, rfl⟩
      case round =>
        obtain ⟨f, q, hqb, rfl, hqf, HQ, rfl⟩ := hrel
        have hrq := hr.below LB
        obtain ⟨D, hD⟩ : ∃ D, D = b.drop q := ⟨_, rfl⟩
        have hDl : D.length = b.length - q := by rw [hD, List.length_drop]
        rw [← hD] at HQ
        rw [← hDl] at hqf
        have HD := Lib.hid hD
        have HDL := Lib.hid hDl
        obtain ⟨T, hT⟩ : ∃ T, contW.isPrefixOf D = T := ⟨_, rfl⟩
        have HT := Lib.hid hT
        go_upto_region 7 with (fail)
        go_cut [42] (fun v42 wx => v42 = .bool T ∧ W1 = wx)
        case first =>
          have hwd : IntKind.i64.wrap ((b.length : Int) - (q : Int)) = (D.length : Int) := by rw [IntWalk.i64_in _ (by omega)]; omega
          by_cases h5 : 25 ≤ D.length
          · have h5' : (D.length : Int) ≥ 25 := by omega
            have h5'' : contW.length ≤ D.length := h5
            obtain ⟨q5, hq5⟩ : ∃ q5, q5 = q + 25 := ⟨_, rfl⟩
            have hw5 : IntKind.i64.wrap ((q : Int) + 25) = (q5 : Int) := by rw [IntWalk.i64_in _ (by omega)]; omega
            obtain ⟨A1, c1, hc1, hs1, hrd1⟩ := cut_rule c q q5 hrq (by omega) (by omega) hc
            have hX : (b.drop q).take (q5 - q) = D.take 25 := by rw [← hD, hq5, Nat.add_sub_cancel_left]
            rw [hX] at hrd1
            have hTT : (D.take 25 == contW) = T := by rw [← hT, pfxQ_take]; rfl
            generalize D.take 25 = X at *
            have HW := Lib.hid hw5
            clear hT hD hDl hX hq5 h5
            have hcv := run_str_rd (P := Tryz.prog) hrd1 c1 22 5 9 Tryz.underlying22 Tryz.underlying5 Tryz.underlying9
            go_wp2_with fail
            go_meet
            case rel => exact ⟨rfl, rfl⟩
          · have h5' : ¬ (D.length : Int) ≥ 25 := by omega
            have h5'' : ¬ contW.length ≤ D.length := h5
            have hTF : T = false := by
              rw [← hT, Bool.eq_false_iff]
              intro h
              have := pfxQ_len _ _ h
              omega
            have HTF := Lib.hid hTF
            clear hT hD hDl h5 hTF
            go_wp2_with fail
            go_meet
            case rel => exact ⟨by rw [HTF.out], rfl⟩
        case rest =>
          obtain ⟨rfl, rfl⟩ := hcut
          clear hrq
          cases T
          · have HQ2 := Lib.hid (show m + skipW (b.length + 1) (b.drop m) = q by rw [HQ.out, skip_no _ _ HT.out]; rfl)
            have hpw := pfx_word D HT.out
            clear HQ hqf hT
            obtain ⟨A1, c1, hc1, hs1, hrd1⟩ := from_rule c q (hr.below LB) hqb hc
            rw [← HD.out, ← HDL.out] at hrd1
            rw [← HDL.out] at hs1 hc1
            have hDle : D.length ≤ 100000 := by have := HDL.out; omega
            clear hD hDl
            go_upto_region 10 with (refine wpList_toString _ rfl (.tmp 49) 22 9 rfl 5 Tryz.underlying22 Tryz.underlying5 Tryz.underlying9 A1 D.length c1 _ D rfl hrd1 ?_)
            obtain ⟨pf, hpf⟩ : ∃ pf, D.isPrefixOf contW = pf := ⟨_, rfl⟩
            have HPF := Lib.hid hpf
            go_cut [63] (fun v63 wx => v63 = .bool pf ∧ W1 = wx)
            case first =>
              have hx := ext_take contW D.length
              have hzd : (⟨D.toArray⟩ : ByteArray).size = D.length := size_mk' D
              by_cases h25 : D.length < 25
              · have h6 : (D.length : Int) < 25 := by omega
                have h7 : (D.length : Int) < (contW.length : Int) := h6
                have h8 : D.length ≤ contW.length := Nat.le_of_lt h25
                have hTT : (contW.take D.length == D) = pf := by rw [← hpf, hpw, decide_eq_true h25, Bool.true_and]
                clear hpf hpw h25
                generalize contW.take D.length = X at *
                go_wp2_with fail
                go_meet
                case rel => exact ⟨rfl, rfl⟩
              · have h6 : ¬ (D.length : Int) < 25 := by omega
                have h7 : ¬ (D.length : Int) < (contW.length : Int) := h6
                have HTF := Lib.hid (show pf = false by rw [← hpf, hpw, decide_eq_false h25]; rfl)
                clear hpf hpw h25
                go_wp2_with fail
                go_meet
                case rel => exact ⟨by rw [HTF.out], rfl⟩
            case rest =>
              obtain ⟨rfl, rfl⟩ := hcut
              clear hpw hpf
              cases pf
              · obtain ⟨hd, hhd⟩ : ∃ hd, (mk == [72, 69, 65, 68]) = hd := ⟨_, rfl⟩
                have HHD := Lib.hid (show decide (mk = headM) = hd by
                  rw [← hhd]
                  by_cases h : mk = headM
                  · rw [decide_eq_true h, h]; rfl
                  · rw [decide_eq_false h]; symm; simpa [headM] using h)
                have hRd := fun (V : World) (h : Below W1.heap.size W1 V) => r18_ReadN A1 c1 D hd V ((hrd1.more LB.size).belowW (Nat.le_refl _) h |>.more h.size) hc1 (by omega)
                have HRC := Lib.hid (read_cases hd D)
                obtain ⟨R, hR⟩ : ∃ R, readR hd D = R := ⟨_, rfl⟩
                rw [hR] at hRd HRC
                obtain ⟨y, cl, kk, er⟩ := R
                obtain ⟨g0, o0, rfl, hg0, y0⟩ := (hm.below LB).tx k mk HMK.out
                clear hR
                have hRd2 := fun (V : World) (h : Below W1.heap.size W1 V) => (hRd V h).mono fun _ _ h => ReadPostN.form h
                have BV : Blk (W1.alloc (.cells #[.int .i64 0, .slice none 0 0, .slice none 0 0, .slice none 0 0] 38)).drew W1.heap.size 38 #[.int .i64 0, .slice none 0 0, .slice none 0 0, .slice none 0 0] := (Blk.new' _ _ rfl _ _).belowW ((Below.refl _ _).drew)
                have LV : Below W1.heap.size W1 (W1.alloc (.cells #[.int .i64 0, .slice none 0 0, .slice none 0 0, .slice none 0 0] 38)).drew := (allocW (Below.refl W1.heap.size W1) _).drew
                have LD : Below W1.heap.size W1 W1.drew := (Below.refl W1.heap.size W1).drew
                have hgW : g0 < W1.heap.size := Nat.lt_of_lt_of_le hg0 LB.size
                have hgn : ¬ g0 = W1.heap.size := by omega
                have hgn2 : ¬ W1.heap.size = g0 := by omega
                have hOl : ∀ k, (Value.slice Ar l.length cr).ownBlock = some k → k < W1.heap.size := fun k hk => Own.lt2 OS.o hk
                have hVs : (W1.alloc (.cells #[.int .i64 0, .slice none 0 0, .slice none 0 0, .slice none 0 0] 38)).drew.heap.size = W1.heap.size + 1 := by simp
                clear hRd
                go_upto_region 12 with (fail)
                go_cut [13, 14, 15, 16] (fun v13 v14 v15 v16 wx => ∃ tb, v13 = .pointer (some ⟨tb, 0, none⟩) ∧ v14 = .bool cl ∧ v15 = .int .i64 (kk : Int) ∧ v16 = .int .i64 er ∧ ∃ (Af : Option Addr) (cf : Nat) (Ab : Option Addr) (cb : Nat) (Ap : Option Addr) (cp : Nat), Blk wx tb 38 #[.int .i64 y.st, .slice Af y.f.length cf, .slice Ab y.b.length cb, .slice Ap y.p.length cp] ∧ RsR wx ⟨y, Af, cf, Ab, cb, Ap, cp⟩ ∧ RsX ⟨y, Af, cf, Ab, cb, Ap, cp⟩ (fun k => (Value.slice Ar l.length cr).ownBlock = some k) ∧ Below W1.heap.size W1 wx)
                case first =>
                  go_region_held3 (fun w' => w'.cell? ⟨g0, o0 + k, none⟩ = some (sv mk))
                    (first | go_keep | exact S5)
                    (first
                      | (go_at_call 16
                         refine (hRd2 (W1.alloc (.cells #[.int .i64 0, .slice none 0 0, .slice none 0 0, .slice none 0 0] 38)).drew LV).mono ?_
                         rintro e w5 ⟨Af, cf, Ab, cb, Ap, cp, rfl, RX, RN, L5⟩
                         have L5' := stepW LV L5
                         have S5 : w5.cell? ⟨g0, o0 + k, none⟩ = some (sv mk) := (L5'.cell (p := ⟨g0, o0 + k, none⟩) hgW).trans y0
                         have B5 := BV.belowW L5
                         obtain ⟨k0, k1, k2, k3, l0, l1, l2, l3⟩ := B5.c4)
                      | (go_at_call 16
                         refine (hRd2 W1.drew LD).mono ?_
                         rintro e w5 ⟨Af, cf, Ab, cb, Ap, cp, rfl, RX, RN, L5⟩
                         have L5' := stepW LD L5
                         have S5 : w5.cell? ⟨g0, o0 + k, none⟩ = some (sv mk) := (L5'.cell (p := ⟨g0, o0 + k, none⟩) hgW).trans y0))
                  all_goals go_wp2_with fail
                  all_goals go_meet
                  all_goals case rel =>
                    first
                      | (have BB5 := B5
                         exact ⟨_, rfl, rfl, rfl, rfl, Af, cf, Ab, cb, Ap, cp, Blk.put4 BB5 _ _ _ _, RX.put4 (RN.out fun k hk => by have hk : k = W1.heap.size := hk; omega) _ _ _ _, RN.out (fun k hk => by have := hOl k hk; omega), below_put4 L5' (Nat.le_refl _) _ _ _ _⟩)
                      | exact ⟨_, rfl, rfl, rfl, rfl, Af, cf, Ab, cb, Ap, cp, Blk.new' _ _ rfl _ _, RX.belowW (allocW (Below.refl _ _) _), RN.out (fun k hk => hOl k hk), allocW L5' _⟩
                case rest =>
                  obtain ⟨tb, rfl, rfl, rfl, rfl, Af, cf, Ab, cb, Ap, cp, B5, RX5, hOut, L5⟩ := hcut
                  obtain ⟨W5, rfl⟩ : ∃ W5, W5 = wc := ⟨_, rfl⟩
                  have N5 := stepW LB L5
                  have OS5 := OS.belowW L5
                  clear hRd2 hs1 hc1 hrd1 BV LV LD hVs hOl y0 OS LB RR
                  rcases HRC.out y cl kk er rfl with ⟨rfl, hx⟩ | ⟨rfl, hx⟩ | ⟨rfl, t, hx, hkk, htl⟩
                  · have HF2 := Lib.hid (HF.out.trans (reps_stop b mk _ m q _ HQ2.out (.inr (by rw [HHD.out, ← HD.out]; exact hx))))
                    clear hx HRC HF
                    go_wp2_with fail
                    exact bodyPost_ret (v := .tuple #[.slice Ar l.length cr, .int .i64 (m : Int), .int .i64 0]) (by simp [results, Tryz.results8, go_sem]) rfl ⟨Ar, cr, l, by rw [HF2.out], by rw [HF2.out], OS5.fin.1, OS5.fin.2, N5⟩
                  · have HF2 := Lib.hid (HF.out.trans (reps_bad b mk _ m q _ HQ2.out (by rw [← HD.out]; exact HPF.out) (by rw [HHD.out, ← HD.out]; exact hx)))
                    clear hx HRC HF
                    go_wp2_with fail
                    exact bodyPost_ret (v := .tuple #[.slice none 0 0, .int .i64 0, .int .i64 8]) (by simp [results, Tryz.results8, go_sem]) rfl ⟨none, 0, [], by rw [HF2.out]; rfl, by rw [HF2.out]; rfl, Nat.le_refl _, RRs.nil _, N5⟩
                  · have HF2 := Lib.hid (HF.out.trans (reps_ok b mk _ m q _ y cl t HQ2.out (by rw [← HD.out]; exact HPF.out) (by rw [HHD.out, ← HD.out]; exact hx)))
                    have hdl := HDL.out
                    have hwk : IntKind.i64.wrap ((q : Int) + (kk : Int)) = ((b.length - t.length : Nat) : Int) := by
                      rw [IntWalk.i64_in _ (by omega)]; omega
                    have htb : b.length - t.length ≤ b.length := by omega
                    obtain ⟨j0, j1, j2, j3, -, -, -, -⟩ := B5.c4
                    have hb5 : w1.heap.size ≤ W5.heap.size := N5.size
                    clear hx HRC HF hkk htl
                    go_upto_region 18 with (at_builtin; refine wp_appRs rfl (.tmp 86) (.tmp 88) rfl w1.heap.size (.slice Ar l.length cr) l rfl OS5 (allocW (Below.refl W5.heap.size W5) _) (some ⟨W5.heap.size, 0, none⟩) 1 _ ⟨y, Af, cf, Ab, cb, Ap, cp⟩ rfl (Rd.new W5 _ rfl _ _ 1 4 rfl) RX5 hOut (by omega) hb5 ?_; intro v' w7 ho7 hx7; obtain ⟨A7, c7, hv7, -, -, -⟩ := ho7.form; subst hv7)
                    have N7 := N5.trans (hx7.below OS5.o (Nat.le_refl _) hb5)
                    have hl1 : (l ++ [(⟨y, Af, cf, Ab, cb, Ap, cp⟩ : RsP)]).map (·.r) = l.map (·.r) ++ [y] := by rw [List.map_append]; rfl
                    rw [← hl1] at HF2
                    have hl2 : (l ++ [(⟨y, Af, cf, Ab, cb, Ap, cp⟩ : RsP)]).length = l.length + 1 := by rw [List.length_append]; rfl
                    generalize l ++ [(⟨y, Af, cf, Ab, cb, Ap, cp⟩ : RsP)] = l9 at *
                    clear hx7 hl1 j0 j1 j2 j3
                    have HL2 := Lib.hid hl2
                    have ho8 : OSp w7 w1.heap.size (.slice A7 (l.length + 1) c7) l9 := by rw [← hl2]; exact ho7
                    clear hl2
                    have hwi : IntKind.i64.wrap ((k : Int) + 1) = ((k + 1 : Nat) : Int) := by have := HKL.out; rw [IntWalk.i64_in _ (by omega)]; omega
                    cases cl
                    · have HF3 := Lib.hid (HF2.out.trans (if_neg (by decide)))
                      go_wp2_with fail
                      go_roundw
                      case rel => exact ⟨k + 1, l9, b.length - t.length, rfl, HKL.out, htb, rfl, rfl, by have := HL2.out; omega, ho8, N7, HF3⟩
                      case measure => simp only [intOf]; have := HKL.out; omega
                    · have HF3 := Lib.hid (HF2.out.trans (if_pos rfl))
                      go_wp2_with fail
                      exact bodyPost_ret (v := .tuple #[.slice A7 (l.length + 1) c7, .int .i64 ((b.length - t.length : Nat) : Int), .int .i64 0]) (by simp [results, Tryz.results8, go_sem]) rfl ⟨A7, c7, l9, by rw [HF3.out, HL2.out], by rw [HF3.out], ho7.fin.1, ho7.fin.2, N7⟩
              · have HF2 := Lib.hid (HF.out.trans (reps_stop b mk _ m q _ HQ2.out (.inl (by rw [← HD.out]; exact HPF.out))))
                clear HF
                go_wp2_with fail
                exact bodyPost_ret (v := .tuple #[.slice Ar l.length cr, .int .i64 (m : Int), .int .i64 0]) (by simp [results, Tryz.results8, go_sem]) rfl ⟨Ar, cr, l, by rw [HF2.out], by rw [HF2.out], hcr, RR, LB⟩
          · obtain ⟨f, rfl⟩ : ∃ f', f = f' + 1 := ⟨f - 1, by omega⟩
            have h25'' := pfxQ_len _ _ HT.out
            have HQ2 := Lib.hid (show m + skipW (b.length + 1) (b.drop m) = (q + 25) + skipW f (b.drop (q + 25)) by rw [HQ.out, skip_yes _ _ HT.out, HD.out, List.drop_drop]; omega)
            have hdl := HDL.out
            have hw25 : IntKind.i64.wrap ((q : Int) + 25) = (((q + 25 : Nat)) : Int) := by rw [IntWalk.i64_in _ (by omega)]; omega
            clear HQ hT
            go_wp2_with fail
            go_roundw
            case rel => exact ⟨f, q + 25, by omega, rfl, by omega, HQ2, trivial⟩
            case measure => simp only [intOf]; omega
    · have hkl2 : ¬ (k : Int) < (ms.length : Int) := by omega
      obtain rfl : k = ms.length := by omega
      rw [List.drop_of_length_le (Nat.le_refl _), reps_nil] at HF
      clear hkl
      go_wp2_with fail
      exact bodyPost_ret (v := .tuple #[.slice Ar l.length cr, .int .i64 (m : Int), .int .i64 0]) (by simp [results, Tryz.results8, go_sem]) rfl ⟨Ar, cr, l, by rw [HF.out], by rw [HF.out], hcr, RR, LB⟩
end Go.Proofs.YtmjekdnfkgalbaaGreatDoor

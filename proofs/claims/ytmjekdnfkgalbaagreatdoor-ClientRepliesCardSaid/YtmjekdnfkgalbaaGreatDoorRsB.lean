/- client.Replies. -/
import Derived.Test.YtmjekdnfkgalbaaGreatDoorRsP
import Derived.Test.YtmjekdnfkgalbaaGreatDoorRsA
namespace Go.Proofs.YtmjekdnfkgalbaaGreatDoor
open Go.RowKit
set_option maxRecDepth 100000
set_option maxHeartbeats 4000000

theorem rd_none {w : World} {B n : Nat} {A : Option Addr} {l : Bs} (h : Rd w B 1 A n (l.map bv)) : A = none → l = [] := by
  intro hA
  have h1 : l.length = n := by simpa using h.1
  by_cases h0 : 0 < n
  · obtain ⟨g, o, e, -⟩ := h.2 h0
    rw [hA] at e; cases e
  · exact List.eq_nil_of_length_eq_zero (by omega)
theorem bytes_in {w : World} {B n : Nat} {A : Option Addr} {l : Bs} (h : Rd w B 1 A n (l.map bv)) : Lib.BytesIn w A n (l.map fun c => (c.toNat : Int)) := by
  intro h0
  obtain ⟨g, o, e, -, hc⟩ := h.2 h0
  have h1 : l.length = n := by simpa using h.1
  refine ⟨g, o, e, fun i hi => ?_⟩
  have hi' : i < l.length := by omega
  rw [hc i (bv l[i]) (by rw [List.getElem?_map, List.getElem?_eq_getElem hi']; rfl)]
  simp [List.getD, hi', bv]
theorem bytes_of (l : Bs) : Lib.bytesOf (l.map fun c => (c.toNat : Int)) = l := by
  unfold Lib.bytesOf
  rw [List.map_map]
  refine (List.map_congr_left (g := id) fun c _ => ?_).trans (List.map_id l)
  simp
theorem lib_Pref (A1 A2 : Option Addr) (l m : Bs) (c d : Nat) (w : World) (h1 : Rd w w.heap.size 1 A1 l.length (l.map bv)) (h2 : Rd w w.heap.size 1 A2 m.length (m.map bv)) (hc : l.length ≤ c) :
    Calls Tryz.prog 22 #[.slice A1 l.length c, .slice A2 m.length d] w fun e w' => e = .returned (.bool (m.isPrefixOf l)) ∧ w = w' := by
  refine (Tryz.bytes_HasPrefix_all A1 A2 l.length c m.length d (l.map fun c => (c.toNat : Int)) (m.map fun c => (c.toNat : Int)) w (by simp) (by simp) hc (bytes_in h1) (bytes_in h2)).mono ?_
  rintro e w' ⟨rfl, rfl⟩
  rw [bytes_of, bytes_of]
  exact ⟨rfl, rfl⟩
theorem OSp.fin {w : World} {base : Nat} {A : Option Addr} {c : Nat} {l : List RsP} (h : OSp w base (.slice A l.length c) l) : l.length ≤ c ∧ RRs w A l.length l := by
  obtain ⟨A', c', e, h1, -, h2⟩ := h.form
  injection e with e1 _ e2
  subst e1; subst e2
  exact ⟨h1, h2⟩
theorem RRs.nil (w : World) : RRs w none 0 [] := ⟨Rd.nil _ _ _ _, fun _ h => (by cases h)⟩
/-- Responses that were read, in memory. -/
def RepsPost (w : World) (r : List Rs × Nat × Int) (e : Ending) (w' : World) : Prop :=
  ∃ (A : Option Addr) (c : Nat) (l : List RsP), e = .returned (.tuple #[.slice A l.length c, .int .i64 (r.2.1 : Int), .int .i64 r.2.2]) ∧ l.map (·.r) = r.1 ∧ l.length ≤ c ∧ RRs w' A l.length l ∧ Below w.heap.size w w'
theorem cl_Replies (A : Option Addr) (c : Nat) (b : Bs) (Am : Option Addr) (cm : Nat) (ms : List Bs) (w : World) (hr : Rd w w.heap.size 1 A b.length (b.map bv)) (hc : b.length ≤ c) (hb : b.length ≤ 100000)
    (hm : Rd w w.heap.size 1 Am ms.length (ms.map tv)) (_hmc : ms.length ≤ cm) (hml : ms.length ≤ 1000) :
    Calls Tryz.prog 7 #[.slice A b.length c, .slice Am ms.length cm] w (RepsPost w (repsL b ms 0 [])) := by
  obtain ⟨R0, hR0⟩ : ∃ R0, repsL b ms 0 [] = R0 := ⟨_, rfl⟩
  rw [hR0]
  have HR0 := Lib.hid hR0
  clear hR0
  go_enter Tryz.func7, Tryz.ntmps7
  go_wp2_with fail
  go_loopw [18, 7, 8] (fun i v n wr => ∃ (k : Nat) (l : List RsP) (m : Nat), i = .int .i64 k ∧ k ≤ ms.length ∧ m ≤ b.length ∧ n = .int .i64 m ∧ l.length ≤ k ∧ OSp wr w.heap.size v l ∧ Below w.heap.size w wr ∧ Hid (R0 = repsL b (ms.drop k) m (l.map (·.r)))) (fun i _ _ _ => ms.length - (intOf i).toNat)
  case atStart => exact ⟨0, [], 0, rfl, Nat.zero_le _, Nat.zero_le _, rfl, Nat.le_refl _, OSp.nil _ _, Below.refl _ _, HR0.out.symm⟩
  case round =>
    obtain ⟨k, l, m, rfl, hk, hmb, rfl, hlk, OS, LB, HF⟩ := hrel
    obtain ⟨Ar, cr, rfl, hcr, -, RR⟩ := OS.form
    by_cases hkl : k < ms.length
    · have hkl2 : (k : Int) < (ms.length : Int) := by omega
      obtain ⟨mk, hmk⟩ : ∃ mk, ms[k]? = some mk := ⟨_, List.getElem?_eq_getElem hkl⟩
      obtain ⟨g0, o0, rfl, hg0, y0⟩ := (hm.below LB).tx k mk hmk
      have hdk : ms.drop k = mk :: ms.drop (k + 1) := by
        obtain ⟨h3, h4⟩ := List.getElem?_eq_some_iff.1 hmk
        rw [List.drop_eq_getElem_cons h3, h4]
      rw [hdk] at HF
      have HKL := Lib.hid hkl
      clear hkl hmk hdk
      obtain ⟨W1, rfl⟩ : ∃ W1, W1 = wr := ⟨_, rfl⟩
      go_wp2_with fail
      go_loopw [11] (fun v ww => ∃ (f q : Nat), q ≤ b.length ∧ v = .int .i64 q ∧ b.length - q < f ∧ Hid (m + skipW (b.length + 1) (b.drop m) = q + skipW f (b.drop q)) ∧ Below W1.heap.size W1 ww) (fun v _ => b.length - (intOf v).toNat)
      case atStart => exact ⟨b.length + 1, m, hmb, rfl, by omega, rfl, Below.refl _ _⟩
      case round =>
        obtain ⟨f, q, hqb, rfl, hqf, HQ, LQ⟩ := hrel
        have N2 := stepW LB LQ
        have hrq := hr.below N2
        obtain ⟨A1, c1, hc1, hs1, hrd1⟩ := from_rule c q hrq hqb hc
        obtain ⟨D, hD⟩ : ∃ D, D = b.drop q := ⟨_, rfl⟩
        have hDl : D.length = b.length - q := by rw [hD, List.length_drop]
        rw [← hD] at HQ hrd1
        rw [← hDl] at hs1 hrd1 hc1 hqf
        have HD := Lib.hid hD
        have HDL := Lib.hid hDl
        clear hD hDl
        have hPf := fun (w3 : World) (h : Below wr.heap.size wr w3) (g c3 : Nat) (hO : Rd w3 w3.heap.size 1 (some ⟨g, 0, none⟩) 25 (contW.map bv)) => lib_Pref A1 (some ⟨g, 0, none⟩) D contW c1 c3 w3 ((hrd1.more (Nat.le_trans N2.size (Nat.le_refl _))).belowW (Nat.le_refl _) h |>.more h.size) hO hc1
        obtain ⟨T, hT⟩ : ∃ T, contW.isPrefixOf D = T := ⟨_, rfl⟩
        rw [hT] at hPf
        have HT := Lib.hid hT
        clear hT
        go_upto_region 7 with (fail)
        go_cut [27] (fun v27 wx => v27 = .bool T ∧ Below wr.heap.size wr wx)
        case first =>
          go_region_with (first
            | (go_at_call 23; refine (rep_Cont _).mono ?_; rintro e w3 ⟨c3, rfl, hc3, hO3, L3⟩; have M3 := stepW (below_drewN' (Below.refl wr.heap.size wr) _) L3)
            | (go_at_call 22; refine (hPf _ M3 _ _ (Own.rdS hO3).2.2).mono ?_; rintro e w4 ⟨rfl, rfl⟩))
          go_wp2_with fail
          go_meet
          case rel => exact ⟨rfl, M3⟩
        case rest =>
          obtain ⟨rfl, L9⟩ := hcut
          obtain ⟨W2, rfl⟩ : ∃ W2, W2 = wc := ⟨_, rfl⟩
          have M9 := stepW LQ L9
          clear hPf hs1 hrd1 hc1 hrq N2
          cases T
          · have HQ2 := Lib.hid (show m + skipW (b.length + 1) (b.drop m) = q by rw [HQ.out, skip_no _ _ HT.out]; rfl)
            clear HQ hqf
            have N9 := stepW LB M9
            have OS9 := OS.belowW M9
            obtain ⟨A1, c1, hc1, hs1, hrd1⟩ := from_rule c q (hr.below N9) hqb hc
            rw [← HD.out, ← HDL.out] at hrd1
            rw [← HDL.out] at hs1 hc1
            obtain ⟨hd, hhd⟩ : ∃ hd, (mk == [72, 69, 65, 68]) = hd := ⟨_, rfl⟩
            have HHD := Lib.hid (show decide (mk = headM) = hd by
              rw [← hhd]
              by_cases h : mk = headM
              · rw [decide_eq_true h, h]; rfl
              · rw [decide_eq_false h]; symm; simpa [headM] using h)
            have hRd := rep_ReadN A1 c1 D hd W2 ((hrd1).more N9.size) (rd_none hrd1) (by have := HDL.out; omega)
            rw [← read_same] at hRd
            have HRC := Lib.hid (read_cases hd D)
            obtain ⟨R, hR⟩ : ∃ R, readR hd D = R := ⟨_, rfl⟩
            rw [hR] at hRd HRC
            obtain ⟨y, cl, kk, er⟩ := R
            clear hR
            go_wp2_with fail
            refine hRd.mono ?_
            rintro e w3 ⟨⟨xr, Af, cf, Ab, cb, Ap, cp⟩, rfl, hxr, RX, RN, L3⟩
            dsimp only at hxr
            subst hxr
            dsimp only
            have N3 := stepW N9 L3
            have OS3 := OS9.belowW L3
            have hOut : RsX ⟨xr, Af, cf, Ab, cb, Ap, cp⟩ (fun k => (Value.slice Ar l.length cr).ownBlock = some k) := RN.out fun k hk => Own.lt2 OS9.o hk
            clear hRd OS OS9 RN L9 M9 LQ LB
            obtain ⟨V, hV⟩ : ∃ V, V = w3.alloc (.cells #[.int .i64 xr.st, .slice Af xr.f.length cf, .slice Ab xr.b.length cb, .slice Ap xr.p.length cp] 38) := ⟨_, rfl⟩
            have BV : Blk V w3.heap.size 38 #[.int .i64 xr.st, .slice Af xr.f.length cf, .slice Ab xr.b.length cb, .slice Ap xr.p.length cp] := by rw [hV]; exact Blk.new' _ _ rfl _ _
            have LV : Below w3.heap.size w3 V := by rw [hV]; exact allocW (Below.refl _ _) _
            have NV := stepW N3 LV
            have OSV := OS3.belowW LV
            have RXV := RX.belowW LV
            have hrdV := (((hrd1.more N9.size).belowW (Nat.le_refl _) L3).more L3.size |>.belowW (Nat.le_refl _) LV).more LV.size
            clear OS3 RX N3
            go_upto_region 10 with (fail)
            rw [← hV]
            clear hV
            obtain ⟨pf, hpf⟩ : ∃ pf, D.isPrefixOf contW = pf := ⟨_, rfl⟩
            have HPF := Lib.hid hpf
            have hPg := fun (w3 : World) (h : Below V.heap.size V w3) (g c3 : Nat) (hO : Rd w3 w3.heap.size 1 (some ⟨g, 0, none⟩) 25 (contW.map bv)) (hc3 : 25 ≤ c3) => lib_Pref (some ⟨g, 0, none⟩) A1 contW D c3 c1 w3 hO ((hrdV.belowW (Nat.le_refl _) h).more h.size) hc3
            rw [hpf] at hPg
            clear hpf
            go_cut [51] (fun v51 wx => v51 = .bool (decide (er = 12) || pf) ∧ Below V.heap.size V wx)
            case first =>
              by_cases h12 : er = 12
              · have q1 : (er == 12) = true := by simpa using h12
                have HV := Lib.hid (show (decide (er = 12) || pf) = true by rw [decide_eq_true h12]; rfl)
                clear hPg HRC q1
                subst h12
                first | go_quiet (fail) | go_region_with (fail) | go_region
                go_wp2_with fail
                go_meet
                case rel => first | exact ⟨by rw [HV.out], Below.refl _ _⟩ | exact ⟨by rw [HV.out], below_drewN' (Below.refl _ _) _⟩
              · have q1 : (er == 12) = false := by simpa using h12
                have HV := Lib.hid (show (decide (er = 12) || pf) = pf by rw [decide_eq_false h12]; rfl)
                have q2 : decide (er = 12) = false := decide_eq_false h12
                clear HRC
                go_region_with (first
                  | (go_at_call 23; refine (rep_Cont _).mono ?_; rintro e w4 ⟨c4, rfl, hc4, hO4, L4⟩; have M4 := stepW (below_drewN' (Below.refl V.heap.size V) _) L4)
                  | (go_at_call 22; refine (hPg _ M4 _ _ (Own.rdS hO4).2.2 hc4).mono ?_; rintro e w5 ⟨rfl, rfl⟩))
                go_wp2_with fail
                go_meet
                case rel => exact ⟨by rw [HV.out], M4⟩
            case rest =>
              obtain ⟨rfl, L5⟩ := hcut
              obtain ⟨W5, rfl⟩ : ∃ W5, W5 = wc := ⟨_, rfl⟩
              have N5 := stepW NV L5
              have OS5 := OSV.belowW L5
              have B5 := BV.belowW L5
              have RX5 := RXV.belowW L5
              clear hPg hs1 hc1 hrd1 hrdV OSV BV RXV L5 LV
              rcases HRC.out xr cl kk er rfl with ⟨rfl, hx⟩ | ⟨rfl, hx⟩ | ⟨rfl, t, hx, hkk, htl⟩
              · have HF2 := Lib.hid (HF.out.trans (reps_stop b mk _ m q _ HQ2.out (.inr (by rw [HHD.out, ← HD.out]; exact hx))))
                clear hx HRC HF
                rw [show (decide ((12 : Int) = 12) || pf) = true from rfl]
                go_wp2_with fail
                exact bodyPost_ret (v := .tuple #[.slice Ar l.length cr, .int .i64 (m : Int), .int .i64 0]) (by simp [results, Tryz.results7, go_sem]) rfl ⟨Ar, cr, l, by rw [HF2.out], by rw [HF2.out], OS5.fin.1, OS5.fin.2, N5⟩
              · rw [show (decide ((8 : Int) = 12) || pf) = pf from rfl]
                cases pf
                · have HF2 := Lib.hid (HF.out.trans (reps_bad b mk _ m q _ HQ2.out (by rw [← HD.out]; exact HPF.out) (by rw [HHD.out, ← HD.out]; exact hx)))
                  clear hx HRC HF
                  go_wp2_with fail
                  exact bodyPost_ret (v := .tuple #[.slice none 0 0, .int .i64 0, .int .i64 8]) (by simp [results, Tryz.results7, go_sem]) rfl ⟨none, 0, [], by rw [HF2.out]; rfl, by rw [HF2.out]; rfl, Nat.le_refl _, RRs.nil _, N5⟩
                · have HF2 := Lib.hid (HF.out.trans (reps_stop b mk _ m q _ HQ2.out (.inl (by rw [← HD.out]; exact HPF.out))))
                  clear hx HRC HF
                  go_wp2_with fail
                  exact bodyPost_ret (v := .tuple #[.slice Ar l.length cr, .int .i64 (m : Int), .int .i64 0]) (by simp [results, Tryz.results7, go_sem]) rfl ⟨Ar, cr, l, by rw [HF2.out], by rw [HF2.out], OS5.fin.1, OS5.fin.2, N5⟩
              · rw [show (decide ((0 : Int) = 12) || pf) = pf from rfl]
                cases pf
                · have HF2 := Lib.hid (HF.out.trans (reps_ok b mk _ m q _ xr cl t HQ2.out (by rw [← HD.out]; exact HPF.out) (by rw [HHD.out, ← HD.out]; exact hx)))
                  have hdl := HDL.out
                  have hwk : IntKind.i64.wrap ((q : Int) + (kk : Int)) = ((b.length - t.length : Nat) : Int) := by
                    rw [IntWalk.i64_in _ (by omega)]; omega
                  have htb : b.length - t.length ≤ b.length := by omega
                  obtain ⟨j0, j1, j2, j3, -, -, -, -⟩ := B5.c4
                  have hb5 : w.heap.size ≤ W5.heap.size := N5.size
                  clear hx HRC HF hkk htl
                  go_upto_region 14 with (at_builtin; refine wp_appRs rfl (.tmp 55) (.tmp 57) rfl w.heap.size (.slice Ar l.length cr) l rfl OS5 (allocW (Below.refl W5.heap.size W5) _) (some ⟨W5.heap.size, 0, none⟩) 1 _ ⟨xr, Af, cf, Ab, cb, Ap, cp⟩ rfl (Rd.new W5 _ rfl _ _ 1 4 rfl) RX5 hOut (by omega) hb5 ?_; intro v' w7 ho7 hx7; obtain ⟨A7, c7, hv7, -, -, -⟩ := ho7.form; subst hv7)
                  have N7 := N5.trans (hx7.below OS5.o (Nat.le_refl _) hb5)
                  have hl1 : (l ++ [(⟨xr, Af, cf, Ab, cb, Ap, cp⟩ : RsP)]).map (·.r) = l.map (·.r) ++ [xr] := by rw [List.map_append]; rfl
                  rw [← hl1] at HF2
                  have hl2 : (l ++ [(⟨xr, Af, cf, Ab, cb, Ap, cp⟩ : RsP)]).length = l.length + 1 := by rw [List.length_append]; rfl
                  generalize l ++ [(⟨xr, Af, cf, Ab, cb, Ap, cp⟩ : RsP)] = l9 at *
                  clear hx7 hl1 j0 j1 j2 j3
                  have HL2 := Lib.hid hl2
                  have ho8 : OSp w7 w.heap.size (.slice A7 (l.length + 1) c7) l9 := by rw [← hl2]; exact ho7
                  clear hl2
                  cases cl
                  · have HF3 := Lib.hid (HF2.out.trans (if_neg (by decide)))
                    go_wp2_with fail
                    go_roundw
                    case rel => exact ⟨k + 1, l9, b.length - t.length, by go_num, HKL.out, htb, rfl, by have := HL2.out; omega, ho8, N7, HF3⟩
                    case measure => simp only [intOf]; have := HKL.out; omega
                  · have HF3 := Lib.hid (HF2.out.trans (if_pos rfl))
                    go_wp2_with fail
                    exact bodyPost_ret (v := .tuple #[.slice A7 (l.length + 1) c7, .int .i64 ((b.length - t.length : Nat) : Int), .int .i64 0]) (by simp [results, Tryz.results7, go_sem]) rfl ⟨A7, c7, l9, by rw [HF3.out, HL2.out], by rw [HF3.out], ho7.fin.1, ho7.fin.2, N7⟩
                · have HF2 := Lib.hid (HF.out.trans (reps_stop b mk _ m q _ HQ2.out (.inl (by rw [← HD.out]; exact HPF.out))))
                  clear hx HRC HF hkk htl
                  go_wp2_with fail
                  exact bodyPost_ret (v := .tuple #[.slice Ar l.length cr, .int .i64 (m : Int), .int .i64 0]) (by simp [results, Tryz.results7, go_sem]) rfl ⟨Ar, cr, l, by rw [HF2.out], by rw [HF2.out], OS5.fin.1, OS5.fin.2, N5⟩
          · obtain ⟨f, rfl⟩ : ∃ f', f = f' + 1 := ⟨f - 1, by omega⟩
            have h25 := pfxQ_len _ _ HT.out
            have h25' : contW.length = 25 := rfl
            have HQ2 := Lib.hid (show m + skipW (b.length + 1) (b.drop m) = (q + 25) + skipW f (b.drop (q + 25)) by rw [HQ.out, skip_yes _ _ HT.out, HD.out, List.drop_drop]; omega)
            have hdl := HDL.out
            have hw25 : IntKind.i64.wrap ((q : Int) + 25) = (((q + 25 : Nat)) : Int) := by rw [IntWalk.i64_in _ (by omega)]; omega
            clear HQ
            go_wp2_with fail
            refine (rep_Cont _).mono ?_
            rintro e w3 ⟨c3, rfl, hc3, hO3, L3⟩
            go_wp2_with fail
            go_roundw
            case rel => exact ⟨f, q + 25, by omega, rfl, by omega, HQ2, stepW M9 L3⟩
            case measure => simp only [intOf]; omega
    · have hkl2 : ¬ (k : Int) < (ms.length : Int) := by omega
      obtain rfl : k = ms.length := by omega
      rw [List.drop_of_length_le (Nat.le_refl _), reps_nil] at HF
      clear hkl
      go_wp2_with fail
      exact bodyPost_ret (v := .tuple #[.slice Ar l.length cr, .int .i64 (m : Int), .int .i64 0]) (by simp [results, Tryz.results7, go_sem]) rfl ⟨Ar, cr, l, by rw [HF.out], by rw [HF.out], hcr, RR, LB⟩
end Go.Proofs.YtmjekdnfkgalbaaGreatDoor

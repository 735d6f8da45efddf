/- usherref18.may. -/
import Derived.Test.YtmjekdnfkgalbaaGreatDoorReF
import Derived.Test.YtmjekdnfkgalbaaGreatDoorRhA
import Derived.Test.YtmjekdnfkgalbaaGreatDoorRgA
import Derived.Test.YtmjekdnfkgalbaaGreatDoorIs10
namespace Go.Proofs.YtmjekdnfkgalbaaGreatDoor
open Go.RowKit
set_option maxRecDepth 100000
set_option maxHeartbeats 4000000

theorem addL_all : ∀ (l acc : List Fd) (i : Nat), (∀ f ∈ l, isF f = true) → acc.length + l.length ≤ 24 → (addL acc l i).2.1 = i + l.length ∧ (addL acc l i).2.2 = 0
  | [], acc, i, _, _ => ⟨rfl, rfl⟩
  | f :: l, acc, i, h, hl => by
    rw [List.length_cons] at hl
    rw [addL_one acc f l i (h f List.mem_cons_self) (by omega)]
    have := addL_all l (acc ++ [f]) (i + 1) (fun g hg => h g (List.mem_cons_of_mem _ hg)) (by rw [List.length_append, List.length_singleton]; omega)
    exact ⟨by rw [this.1, List.length_cons]; omega, this.2⟩
def fdsOk (l : List Fd) : Bool := l.all fun f => isF f && !ownN f.1
theorem fdsOk_bad (f : Fd) (l : List Fd) (h : isF f = false ∨ ownN f.1 = true) : fdsOk (f :: l) = false := by
  rw [fdsOk, List.all_cons]
  rcases h with h | h <;> simp [h]
theorem fdsOk_next (f : Fd) (l : List Fd) (h : isF f = true) (h2 : ownN f.1 = false) : fdsOk (f :: l) = fdsOk l := by
  rw [fdsOk, List.all_cons, h, h2]; rfl
theorem isOne_may (r : Rs) : isOneL r = (decide (200 ≤ r.st ∧ r.st ≤ 599 ∧ r.f.length ≤ 24) && (fdsOk r.f && (prtOk r.b.length r.p && (decide (r.b.length = 0) || !noBody r.st)))) := by
  rw [Bool.eq_iff_iff]
  constructor
  · intro h
    obtain ⟨⟨a1, a2⟩, a3, a4, a5, -⟩ := one_parts r h
    have hp : prtOk r.b.length r.p = true := by
      rw [isOneL, Bool.and_eq_true, Bool.and_eq_true, Bool.and_eq_true] at h; exact h.2.2.2
    have hf : fdsOk r.f = true := by
      rw [fdsOk, List.all_eq_true]
      intro f hf
      rw [(a4 f hf).1, (a4 f hf).2]; rfl
    rw [decide_eq_true ⟨a1, a2, a5⟩, hf, hp]
    cases hn : noBody r.st
    · simp
    · rw [(a3 hn).1]; rfl
  · intro h
    rw [Bool.and_eq_true, Bool.and_eq_true, Bool.and_eq_true, decide_eq_true_eq] at h
    obtain ⟨⟨b1, b2, b3⟩, h2, h3, h4⟩ := h
    rw [fdsOk, List.all_eq_true] at h2
    have hF : ∀ f ∈ r.f, isF f = true := fun f hf => by have := h2 f hf; rw [Bool.and_eq_true] at this; exact this.1
    have hO : ownOk r.f = true := by
      rw [ownOk, List.all_eq_true]
      intro f hf
      have := h2 f hf; rw [Bool.and_eq_true] at this; exact this.2
    obtain ⟨c1, c2⟩ := addL_all r.f [] 0 hF (by simpa using b3)
    have hfd : fdOk r.f = true := by
      rw [fdOk, c1, c2]; simp
    have hst : stOk r = true := by
      rw [stOk, decide_eq_false (by omega : ¬ r.st < 200), decide_eq_false (by omega : ¬ 599 < r.st)]
      rw [Bool.or_eq_true, decide_eq_true_eq] at h4
      rcases h4 with h4 | h4
      · simp [h4]
      · have : noBody r.st = false := by simpa using h4
        simp [this]
    rw [isOneL, hst, hfd, hO, h3]; rfl
theorem ref_may (x : RsP) (w : World) (hR : RsR w x) (hZ : RsZ x) :
    Calls Tryz.prog 27 #[rsW x] w fun e w' => e = .returned (.bool (isOneL x.r)) ∧ Below w.heap.size w w' := by
  obtain ⟨r, Af, cf, Ab, cb, Ap, cp⟩ := x
  have hzf : r.f.length ≤ 1000000 := hZ.f
  have hzb : r.b.length ≤ 1000000 := hZ.b
  have hzp : r.p.length ≤ 1000000 := hZ.p
  have hzs : FdSz r.f := hZ.fs
  show Calls Tryz.prog 27 #[.agg #[.int .i64 r.st, .slice Af r.f.length cf, .slice Ab r.b.length cb, .slice Ap r.p.length cp]] w fun e w' => e = .returned (.bool (isOneL r)) ∧ Below w.heap.size w w'
  have HI := Lib.hid (isOne_may r)
  go_enter Tryz.func27, Tryz.ntmps27
  go_upto_region 1 with (fail)
  obtain ⟨V, hV⟩ : ∃ V, V = w.alloc (.cells #[.int .i64 r.st, .slice Af r.f.length cf, .slice Ab r.b.length cb, .slice Ap r.p.length cp] 38) := ⟨_, rfl⟩
  rw [← hV]
  have LV : Below w.heap.size w V := by rw [hV]; exact allocW (Below.refl _ _) _
  have BV : Blk V w.heap.size 38 #[.int .i64 r.st, .slice Af r.f.length cf, .slice Ab r.b.length cb, .slice Ap r.p.length cp] := by rw [hV]; exact Blk.new' _ _ rfl _ _
  clear hV
  have RV : RB V w.heap.size ⟨r, Af, cf, Ab, cb, Ap, cp⟩ := ⟨BV, hR.belowW LV⟩
  clear hR
  obtain ⟨x0, x1, x2, x3, z0, z1, z2, z3⟩ := BV.c4
  by_cases h1 : r.st < 200
  · have HI2 := Lib.hid (show isOneL r = false by rw [HI.out, decide_eq_false (by omega)]; rfl)
    go_wp2_with fail
    go_ret
    exact ⟨by rw [HI2.out]; rfl, LV⟩
  · by_cases h2 : 599 < r.st
    · have HI2 := Lib.hid (show isOneL r = false by rw [HI.out, decide_eq_false (by omega)]; rfl)
      go_wp2_with fail
      go_ret
      exact ⟨by rw [HI2.out]; rfl, LV⟩
    · by_cases h3 : 24 < r.f.length
      · have h3' : (24 : Int) < (r.f.length : Int) := by omega
        have HI2 := Lib.hid (show isOneL r = false by rw [HI.out, decide_eq_false (by omega)]; rfl)
        go_wp2_with fail
        go_ret
        exact ⟨by rw [HI2.out]; rfl, LV⟩
      · have h3' : ¬ (24 : Int) < (r.f.length : Int) := by omega
        have HI2 := Lib.hid (show isOneL r = (fdsOk r.f && (prtOk r.b.length r.p && (decide (r.b.length = 0) || !noBody r.st))) by rw [HI.out, decide_eq_true (by omega), Bool.true_and])
        clear h3 HI
        go_wp2_with fail
        go_loopw [3] (fun i wr => ∃ k : Nat, k ≤ r.f.length ∧ i = .int .i64 k ∧ Hid (fdsOk r.f = fdsOk (r.f.drop k)) ∧ Below V.heap.size V wr) (fun i _ => r.f.length - (intOf i).toNat)
        case atStart => exact ⟨0, Nat.zero_le _, rfl, rfl, Below.refl _ _⟩
        case round =>
          obtain ⟨k, hk, rfl, H, N⟩ := hrel
          have Rk := RV.belowW N
          obtain ⟨x0, x1, x2, x3, z0, z1, z2, z3⟩ := Rk.blk.c4
          by_cases hlt : k < r.f.length
          · obtain ⟨f, hf, hd⟩ := drop_fd hlt
            obtain ⟨s1, s2⟩ := hzs.at hf
            have hIs := fun w => ref10_Is f w s1 s2
            have hOw := fun w => r18_own f.1 w s1
            have H2 := Lib.hid (show fdsOk r.f = fdsOk (f :: r.f.drop (k + 1)) by rw [H.out, hd])
            have hfd := fun (W : World) (L : Below wr.heap.size wr W) => Rd.fd (show Rd W W.heap.size 2 Af r.f.length (fcells r.f) from (Rk.belowW L).row.rf)
            obtain ⟨b, o, rfl, hbB, y0, y1⟩ := Rd.fd (show Rd wr wr.heap.size 2 Af r.f.length (fcells r.f) from Rk.row.rf) rfl k f hf
            have HY : ∀ W, Below wr.heap.size wr W → W.cell? ⟨b, o + k * 2, none⟩ = some (sv f.1) ∧ W.cell? ⟨w.heap.size, 1, none⟩ = some (.slice (some ⟨b, o, none⟩) r.f.length cf) := by
              intro W L
              refine ⟨(L.cell (p := ⟨b, o + k * 2, none⟩) hbB).trans y0, ?_⟩
              obtain ⟨-, q1, -⟩ := (Rk.belowW L).blk.c4
              exact q1
            clear hf hd H hfd
            go_wp2_with fail
            refine (hIs _).mono ?_
            rintro e w1 ⟨rfl, L1⟩
            obtain ⟨y3, y4⟩ := HY _ L1
            cases hF : isF f
            · have H3 := Lib.hid (show isOneL r = false by rw [HI2.out, H2.out, fdsOk_bad _ _ (.inl hF)]; rfl)
              clear hF
              go_wp2_with fail
              go_ret
              exact ⟨by rw [H3.out]; rfl, stepW LV (stepW N L1)⟩
            · go_wp2_with fail
              refine (hOw _).mono ?_
              rintro e w2 ⟨rfl, L2⟩
              have N2 := stepW N (stepW L1 L2)
              cases hO : ownN f.1
              · have H3 := Lib.hid (show fdsOk r.f = fdsOk (r.f.drop (k + 1)) by rw [H2.out, fdsOk_next _ _ hF hO])
                clear hF hO
                go_wp2
                go_roundw
                case rel => exact ⟨k + 1, by omega, by go_num, H3, N2⟩
                case measure => simp [intOf]; omega
              · have H3 := Lib.hid (show isOneL r = false by rw [HI2.out, H2.out, fdsOk_bad _ _ (.inr hO)]; rfl)
                clear hF hO
                go_wp2
                go_ret
                exact ⟨by rw [H3.out]; rfl, stepW LV N2⟩
          · have hT := Lib.hid (show isOneL r = (prtOk r.b.length r.p && (decide (r.b.length = 0) || !noBody r.st)) by rw [HI2.out, H.out, List.drop_of_length_le (by omega)]; rfl)
            obtain rfl : k = r.f.length := by omega
            clear HI2 H
            go_wp2_with fail
            go_loopw [4, 5] (fun x4 i wx => ∃ (k q : Nat) (last : Int), k ≤ r.p.length ∧ i = .int .i64 k ∧ x4 = .int .i64 last ∧ (-9223372036854775808 ≤ last ∧ last ≤ 9223372036854775807) ∧ Hid (prtF r.b.length 0 r.p = prtF r.b.length last (r.p.drop k)) ∧ wx = wr.drewN q) (fun _ i _ => r.p.length - (intOf i).toNat)
            case atStart => exact ⟨0, 0, 0, Nat.zero_le _, rfl, rfl, by omega, rfl, rfl⟩
            case round =>
              obtain ⟨k, q, last, hk, rfl, rfl, hlb, H, rfl⟩ := hrel
              by_cases hlt : k < r.p.length
              · obtain ⟨a, ha, hd⟩ := drop_list r.p k hlt
                obtain ⟨b, o, rfl, hbB, hy⟩ := (show Rd wr wr.heap.size 1 Ap r.p.length (r.p.map fun i => Value.int .i64 i) from Rk.row.rp).2 (by omega)
                have y := hy k (.int .i64 a) (map_get _ _ _ _ ha)
                have H2 := Lib.hid (show prtF r.b.length 0 r.p = prtF r.b.length last (a :: r.p.drop (k + 1)) by rw [H.out, hd])
                clear ha hd H hy
                by_cases c3 : a ≤ last
                · have H3 := Lib.hid (H2.out.trans (prtF_bad _ _ _ _ (.inl c3)))
                  have H4 := Lib.hid (show isOneL r = false by rw [hT.out, prtOk, H3.out]; rfl)
                  go_wp2
                  go_quiet (fail)
                  go_wp2
                  go_ret
                  exact ⟨by rw [H4.out]; rfl, stepW LV (below_drewN' (below_drewN' N _) _)⟩
                · by_cases c4 : (r.b.length : Int) < a
                  · have H3 := Lib.hid (H2.out.trans (prtF_bad _ _ _ _ (.inr c4)))
                    have H4 := Lib.hid (show isOneL r = false by rw [hT.out, prtOk, H3.out]; rfl)
                    go_wp2
                    go_quiet (fail)
                    go_wp2
                    go_ret
                    exact ⟨by rw [H4.out]; rfl, stepW LV (below_drewN' (below_drewN' N _) _)⟩
                  · have H3 := Lib.hid (H2.out.trans (prtF_next _ _ _ _ (fun h => h.elim c3 c4)))
                    go_wp2
                    go_quiet (fail)
                    go_wp2
                    go_roundw
                    case rel => exact ⟨k + 1, q + nq, a, by omega, by go_num, rfl, by omega, H3, by simp [World.drewN]⟩
                    case measure => simp [intOf]; omega
              · have H3 := Lib.hid (H.out.trans (show prtF r.b.length last (r.p.drop k) = some last by rw [List.drop_of_length_le (by omega)]; rfl))
                obtain rfl : k = r.p.length := by omega
                have hI := Lib.hid (show isOneL r = ((decide (r.p = []) || decide (last = (r.b.length : Int))) && (decide (r.b.length = 0) || !noBody r.st)) by rw [hT.out, prtOk, H3.out])
                have N2 := below_drewN' N q
                clear H H3 hT
                go_upto_region 15 with (fail)
                go_cut [83] (fun v83 wx => v83 = .bool (!(decide (r.p = []) || decide (last = (r.b.length : Int)))) ∧ wr.drewN q = wx)
                case first =>
                  by_cases hp0 : r.p.length = 0
                  · have e : r.p = [] := List.eq_nil_of_length_eq_zero hp0
                    have E := Lib.hid (show (!(decide (r.p = []) || decide (last = (r.b.length : Int)))) = false by rw [decide_eq_true e]; rfl)
                    have hp1 : ¬ (0 : Int) < (r.p.length : Int) := by omega
                    clear hp0 e
                    go_wp2_with fail
                    go_meet
                    case rel => exact ⟨by rw [E.out], rfl⟩
                  · have e : r.p ≠ [] := fun h => hp0 (by rw [h]; rfl)
                    have hp1 : (0 : Int) < (r.p.length : Int) := by omega
                    by_cases c5 : last = (r.b.length : Int)
                    · have E := Lib.hid (show (!(decide (r.p = []) || decide (last = (r.b.length : Int)))) = false by rw [decide_eq_true c5, Bool.or_true]; rfl)
                      have c6 : (last != (r.b.length : Int)) = false := by simpa using c5
                      clear hp0 e c5
                      go_wp2_with fail
                      go_meet
                      case rel => exact ⟨by rw [E.out], rfl⟩
                    · have E := Lib.hid (show (!(decide (r.p = []) || decide (last = (r.b.length : Int)))) = true by rw [decide_eq_false e, decide_eq_false c5]; rfl)
                      have c6 : (last != (r.b.length : Int)) = true := by simpa using c5
                      clear hp0 e
                      go_wp2_with fail
                      go_meet
                      case rel => exact ⟨by rw [E.out], rfl⟩
                case rest =>
                  obtain ⟨rfl, rfl⟩ := hcut
                  generalize (decide (r.p = []) || decide (last = (r.b.length : Int))) = pk at *
                  cases pk
                  · have HX := Lib.hid (show isOneL r = false by rw [hI.out]; rfl)
                    clear hI
                    go_wp2_with fail
                    go_ret
                    exact ⟨by rw [HX.out]; rfl, stepW LV N2⟩
                  · have HX := Lib.hid (show isOneL r = (decide (r.b.length = 0) || !noBody r.st) by rw [hI.out, Bool.true_and])
                    clear hI
                    by_cases hb0 : r.b.length = 0
                    · have HX2 := Lib.hid (show isOneL r = true by rw [HX.out, decide_eq_true hb0]; rfl)
                      have hb1 : ((r.b.length : Int) == 0) = true := by rw [hb0]; rfl
                      clear hb0 HX
                      go_wp2_with fail
                      go_ret
                      exact ⟨by rw [HX2.out]; rfl, stepW LV N2⟩
                    · have HX2 := Lib.hid (show isOneL r = !noBody r.st by rw [HX.out, decide_eq_false hb0, Bool.false_or])
                      have hb1 : ((r.b.length : Int) == 0) = false := by rw [Bool.eq_false_iff]; intro h; exact hb0 (by have := beq_iff_eq.1 h; omega)
                      have hnb := fun w => ref_NoBody r.st w
                      clear hb0 HX
                      go_wp2_with fail
                      refine (hnb _).mono ?_
                      rintro e w3 ⟨rfl, rfl⟩
                      go_wp2
                      go_ret
                      exact ⟨by rw [HX2.out]; rfl, stepW LV N2⟩
end Go.Proofs.YtmjekdnfkgalbaaGreatDoor

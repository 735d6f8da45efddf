/- usherref18: may a line come; may the end come. usherref18: a line as a field; a chunk's size. -/
import Derived.Test.YtmjekdnfkgalbaaGreatDoorRgA
import Derived.Test.YtmjekdnfkgalbaaGreatDoorHex
import Derived.BigRegion
namespace Go.Proofs.YtmjekdnfkgalbaaGreatDoor
open Go.RowKit
set_option maxRecDepth 100000
set_option maxHeartbeats 4000000

/-- A reader's cells. -/
abbrev xlC (x : RL) (Af : Option Addr) (cf : Nat) (B P : Value) : Array Value := #[.int .i64 x.st, .slice Af x.f.length cf, B, P, .int .i64 x.row, .bool x.close, .bool x.keep, .bool x.chunked, .int .i64 (x.len : Int)]
theorem r18_ends (x : RL) (g : Nat) (Af : Option Addr) (cf : Nat) (B P : Value) (w : World) (hX : Blk w g 70 (xlC x Af cf B P)) :
    Calls Tryz.prog 36 #[.pointer (some ⟨g, 0, none⟩)] w fun e w' => e = .returned (.bool x.ends) ∧ w = w' := by
  obtain ⟨st, F, row, close, keep, ch, len⟩ := x
  obtain ⟨x0, x1, x2, x3, x4, x5, x6, x7, x8, -⟩ := hX.c9
  have HE := Lib.hid (show (RL.mk st F row close keep ch len).ends = (decide (2 ≤ row) || (decide (row = 1) && noBody st)) from rfl)
  dsimp only at x0 x1 x4 x5 x6 x7 x8
  generalize (RL.mk st F row close keep ch len).ends = en at *
  clear hX
  by_cases h2 : (2 : Int) ≤ row
  · have HE2 := Lib.hid (show en = true by rw [HE.out, decide_eq_true h2]; rfl)
    clear HE
    go_enter Tryz.func36, Tryz.ntmps36
    go_wp2
    go_ret
    exact ⟨by rw [HE2.out]; rfl, rfl⟩
  · by_cases h1 : row = 1
    · subst h1
      have HE2 := Lib.hid (show en = noBody st by rw [HE.out]; rfl)
      have hnb := fun w => ref_NoBody st w
      clear HE h2
      go_enter Tryz.func36, Tryz.ntmps36
      go_wp2_with fail
      refine (hnb _).mono ?_
      rintro e w1 ⟨rfl, rfl⟩
      go_wp2
      go_ret
      exact ⟨by rw [HE2.out]; rfl, rfl⟩
    · have HE2 := Lib.hid (show en = false by rw [HE.out, decide_eq_false h2, decide_eq_false h1]; rfl)
      have h3 : (row == 1) = false := by simpa using h1
      clear HE
      go_enter Tryz.func36, Tryz.ntmps36
      go_wp2
      go_ret
      exact ⟨by rw [HE2.out]; rfl, rfl⟩
theorem drop_extG (s : Bs) (k : Nat) : (⟨s.toArray⟩ : ByteArray).extract k s.length = ⟨(s.drop k).toArray⟩ := str_ext (by
  rw [ext_data]
  exact List.take_of_length_le (by show (s.drop k).length ≤ _; rw [List.length_drop]; omega))
theorem r18_may (x : RL) (s : Bs) (g : Nat) (Af : Option Addr) (cf : Nat) (B P : Value) (w : World) (hX : Blk w g 70 (xlC x Af cf B P)) (hs : s.length ≤ 1000000) (hf : x.f.length ≤ 1000000) :
    Calls Tryz.prog 35 #[.pointer (some ⟨g, 0, none⟩), sv s] w fun e w' => e = .returned (.bool (mayL x s)) ∧ Below w.heap.size w w' := by
  have hEn := fun w' (h : Blk w' g 70 (xlC x Af cf B P)) => r18_ends x g Af cf B P w' h
  have HM := Lib.hid (show mayL x s = _ from rfl)
  have hz : (⟨s.toArray⟩ : ByteArray).size = s.length := size_mk' s
  have hFi := fun w => r18_first s w hs
  have hPa := fun w => r18_part s w hs
  have hB13 := fun w => r18_begins [13] s w (by decide) hs
  have hBcl := fun w => r18_begins clS s w (by decide) hs
  have hBcl2 := fun w => r18_begins s clS w hs (by decide)
  have hNu := fun w => r18_number (s.drop 16) w (by rw [List.length_drop]; omega)
  have hBte := fun w => r18_begins (teS ++ [13]) s w (by decide) hs
  have hBcc := fun w => r18_begins (ccS ++ [13]) s w (by decide) hs
  have hBck := fun w => r18_begins (ckS ++ [13]) s w (by decide) hs
  have hnb := fun w => ref_NoBody x.st w
  have hMd : mayL x s = if x.row = 0 then (firstL s).2.2
    else if s.isPrefixOf [13] then x.ends || decide (s = [])
    else if decide (x.row = 1) && decide (x.f.length < 24) && partL s then true
    else if decide (x.row = 1) && !noBody x.st && (s.isPrefixOf clS || (clS.isPrefixOf s && numbrL (s.drop 16)) || s.isPrefixOf (teS ++ [13])) then true
    else if (decide (x.row = 1) && noBody x.st) || decide (x.row = 2) then s.isPrefixOf (ccS ++ [13]) || (!x.chunked && s.isPrefixOf (ckS ++ [13]))
    else false := by rw [mayL]
  have HMD := Lib.hid hMd
  clear hMd HM
  obtain ⟨x0, x1, x2, x3, x4, x5, x6, x7, x8, -⟩ := hX.c9
  by_cases h0 : x.row = 0
  · have HM2 := Lib.hid (show mayL x s = (firstL s).2.2 by rw [HMD.out, if_pos h0])
    have x4' : w.cell? ⟨g, 4, none⟩ = some (.int .i64 0) := by rw [x4, h0]
    clear HMD x4 h0
    obtain ⟨a, b, c⟩ := firstL s
    unfold firstV at hFi
    go_enter Tryz.func35, Tryz.ntmps35
    go_wp2_with fail
    refine (hFi _).mono ?_
    rintro e w1 ⟨rfl, L1⟩
    go_wp2
    go_ret
    exact ⟨by rw [HM2.out]; rfl, L1⟩
  · have h0' : (x.row == 0) = false := by simpa using h0
    go_enter Tryz.func35, Tryz.ntmps35
    go_upto_region 4 with (fail)
    go_cut [27] (fun v27 wx => v27 = .bool (s.isPrefixOf [13]) ∧ w = wx)
    case first =>
      by_cases hse : s = []
      · subst hse
        clear HMD hFi hPa hBcl hBcl2 hNu hBte hBcc hBck hnb
        go_wp2_with fail
        go_meet
        case rel => exact ⟨rfl, rfl⟩
      · have hq : (s == []) = false := by simpa using hse
        have hq2 : ¬ (s.toArray = #[]) := by simpa using hse
        have hq3 : List.isEmpty s = false := by cases s with | nil => exact absurd rfl hse | cons c t => rfl
        clear HMD hFi hPa hBcl hBcl2 hNu hBte hBcc hBck hnb
        go_wp2_with fail
        refine (hB13 _).mono ?_
        rintro e w1 ⟨rfl, rfl⟩
        go_wp2_with fail
        go_meet
        case rel => exact ⟨rfl, rfl⟩
    case rest =>
      obtain ⟨rfl, rfl⟩ := hcut
      clear hB13
      cases h13 : s.isPrefixOf [13]
      · rw [h13] at HMD
        have HM1 := Lib.hid (HMD.out.trans (if_neg h0) |>.trans (if_neg (by decide)))
        clear h13 HMD hEn
        go_upto_region 7 with (first
          | (go_at_call 30
             refine (hnb _).mono ?_
             rintro e w1 ⟨rfl, rfl⟩))
        go_cut [57] (fun v57 wx => v57 = .bool (decide (x.row = 1) && decide (x.f.length < 24) && partL s) ∧ Below w.heap.size w wx)
        case first =>
          clear HM1 hFi hBcl hBcl2 hNu hBte hBcc hBck hnb
          by_cases h1 : x.row = 1
          · have x4' : w.cell? ⟨g, 4, none⟩ = some (.int .i64 1) := by rw [x4, h1]
            by_cases h2 : x.f.length < 24
            · have h2' : (x.f.length : Int) < 24 := by omega
              have HP := Lib.hid (show (decide (x.row = 1) && decide (x.f.length < 24) && partL s) = partL s by rw [decide_eq_true h1, decide_eq_true h2]; rfl)
              clear h1 h2 x4 h0 h0'
              go_wp2_with fail
              refine (hPa _).mono ?_
              rintro e w1 ⟨rfl, L1⟩
              go_wp2_with fail
              go_meet
              case rel => exact ⟨by rw [HP.out], L1⟩
            · have h2' : ¬ (x.f.length : Int) < 24 := by omega
              have HP := Lib.hid (show (decide (x.row = 1) && decide (x.f.length < 24) && partL s) = false by rw [decide_eq_false h2, Bool.and_false, Bool.false_and])
              clear h1 h2 x4 h0 h0' hPa
              go_wp2_with fail
              go_meet
              case rel => exact ⟨by rw [HP.out], Below.refl _ _⟩
          · have h1' : (x.row == 1) = false := by simpa using h1
            have HP := Lib.hid (show (decide (x.row = 1) && decide (x.f.length < 24) && partL s) = false by rw [decide_eq_false h1, Bool.false_and, Bool.false_and])
            clear h1 h0 h0' hPa
            go_wp2_with fail
            go_meet
            case rel => exact ⟨by rw [HP.out], Below.refl _ _⟩
        case rest =>
          obtain ⟨rfl, L1⟩ := hcut
          rename World => W1
          generalize (decide (x.row = 1) && decide (x.f.length < 24) && partL s) = P1 at *
          have hX1 := hX.belowW L1
          clear x0 x1 x2 x3 x4 x5 x6 x7 x8 hPa hFi hX
          obtain ⟨x0, x1, x2, x3, x4, x5, x6, x7, x8, -⟩ := hX1.c9
          cases P1
          · have HM2 := Lib.hid (HM1.out.trans (if_neg (by decide)))
            clear HM1
            by_cases hA : x.row = 1 ∧ noBody x.st = false
            · obtain ⟨hA1, hA2⟩ := hA
              have x4' : W1.cell? ⟨g, 4, none⟩ = some (.int .i64 1) := by rw [x4, hA1]
              obtain ⟨Q, hQ⟩ : ∃ Q, Q = (s.isPrefixOf clS || (clS.isPrefixOf s && numbrL (s.drop 16)) || s.isPrefixOf (teS ++ [13])) := ⟨_, rfl⟩
              have HM3 := Lib.hid (show mayL x s = Q by
                rw [HM2.out, hA2, decide_eq_true hA1, ← hQ]
                cases Q
                · rw [if_neg (by decide), if_neg (by rw [hA1]; decide)]
                · rw [if_pos (by decide)])
              have HQ := Lib.hid hQ
              have hx := drop_extG s 16
              rw [hA2]
              clear HM2 hA1 hA2 hQ x4 hnb hBcc hBck h0 h0'
              go_upto_region 11 with (fail)
              go_cut [85] (fun v85 wx => v85 = .bool Q ∧ W1 = wx)
              case first =>
                cases hb1 : s.isPrefixOf clS
                · rw [hb1] at hBcl
                  cases hb2 : clS.isPrefixOf s
                  · rw [hb2] at hBcl2
                    have HQ2 := Lib.hid (show Q = s.isPrefixOf (teS ++ [13]) by rw [HQ.out, hb1, hb2]; rfl)
                    clear HQ hb1 hb2 hNu hx
                    go_wp2_with fail
                    refine (hBcl _).mono ?_
                    rintro e w1 ⟨rfl, rfl⟩
                    go_wp2_with fail
                    refine (hBcl2 _).mono ?_
                    rintro e w1 ⟨rfl, rfl⟩
                    go_wp2_with fail
                    refine (hBte _).mono ?_
                    rintro e w1 ⟨rfl, rfl⟩
                    go_wp2_with fail
                    go_meet
                    case rel => exact ⟨by rw [HQ2.out], rfl⟩
                  · rw [hb2] at hBcl2
                    have hl16 : 16 ≤ s.length := by
                      have h9 := List.IsPrefix.length_le (List.isPrefixOf_iff_prefix.mp hb2)
                      exact h9
                    have hl16' : (16 : Int) ≤ (s.length : Int) := by omega
                    cases hb3 : numbrL (s.drop 16)
                    · rw [hb3] at hNu
                      have HQ2 := Lib.hid (show Q = s.isPrefixOf (teS ++ [13]) by rw [HQ.out, hb1, hb2, hb3]; rfl)
                      clear HQ hb1 hb2 hb3 hl16
                      go_wp2_with fail
                      refine (hBcl _).mono ?_
                      rintro e w1 ⟨rfl, rfl⟩
                      go_wp2_with fail
                      refine (hBcl2 _).mono ?_
                      rintro e w1 ⟨rfl, rfl⟩
                      go_wp2_with fail
                      refine (hNu _).mono ?_
                      rintro e w1 ⟨rfl, rfl⟩
                      go_wp2_with fail
                      refine (hBte _).mono ?_
                      rintro e w1 ⟨rfl, rfl⟩
                      go_wp2_with fail
                      go_meet
                      case rel => exact ⟨by rw [HQ2.out], rfl⟩
                    · rw [hb3] at hNu
                      have HQ2 := Lib.hid (show Q = true by rw [HQ.out, hb1, hb2, hb3]; rfl)
                      clear HQ hb1 hb2 hb3 hl16
                      go_wp2_with fail
                      refine (hBcl _).mono ?_
                      rintro e w1 ⟨rfl, rfl⟩
                      go_wp2_with fail
                      refine (hBcl2 _).mono ?_
                      rintro e w1 ⟨rfl, rfl⟩
                      go_wp2_with fail
                      refine (hNu _).mono ?_
                      rintro e w1 ⟨rfl, rfl⟩
                      go_wp2_with fail
                      go_meet
                      case rel => exact ⟨by rw [HQ2.out], rfl⟩
                · rw [hb1] at hBcl
                  have HQ2 := Lib.hid (show Q = true by rw [HQ.out, hb1]; rfl)
                  clear HQ hb1 hNu hBcl2 hBte hx
                  go_wp2_with fail
                  refine (hBcl _).mono ?_
                  rintro e w1 ⟨rfl, rfl⟩
                  go_wp2_with fail
                  go_meet
                  case rel => exact ⟨by rw [HQ2.out], rfl⟩
              case rest =>
                obtain ⟨rfl, rfl⟩ := hcut
                clear HQ hNu hBcl hBcl2 hBte hx
                cases Q
                · go_wp2_with fail
                  go_ret
                  exact ⟨by rw [HM3.out]; rfl, L1⟩
                · go_wp2_with fail
                  go_ret
                  exact ⟨by rw [HM3.out]; rfl, L1⟩
            · have hR : (decide (x.row = 1) && !noBody x.st) = false := by
                by_cases h1 : x.row = 1
                · cases hb : noBody x.st
                  · exact absurd ⟨h1, hb⟩ hA
                  · rw [Bool.not_true, Bool.and_false]
                · rw [decide_eq_false h1, Bool.false_and]
              obtain ⟨R, hRR⟩ : ∃ R, R = ((decide (x.row = 1) && noBody x.st) || decide (x.row = 2)) := ⟨_, rfl⟩
              have HM3 := Lib.hid (show mayL x s = if R then s.isPrefixOf (ccS ++ [13]) || (!x.chunked && s.isPrefixOf (ckS ++ [13])) else false by rw [HM2.out, hR, Bool.false_and, if_neg (by decide), ← hRR])
              have HR := Lib.hid hRR
              have HR0 := Lib.hid hR
              clear HM2 hR hRR hA hBcl hBcl2 hNu hBte hnb
              go_upto_region 9 with (fail)
              go_cut [8, 66] (fun v8 v66 wx => v8 = .bool (noBody x.st) ∧ v66 = .bool false ∧ W1 = wx)
              case first =>
                by_cases h1 : x.row = 1
                · have x4' : W1.cell? ⟨g, 4, none⟩ = some (.int .i64 1) := by rw [x4, h1]
                  have hb : noBody x.st = true := by have := HR0.out; rw [decide_eq_true h1, Bool.true_and] at this; simpa using this
                  have HB := Lib.hid hb
                  clear h1 x4 h0 h0'
                  rw [hb]
                  clear hb
                  go_wp2_with fail
                  go_meet
                  case rel => exact ⟨by rw [HB.out], rfl, rfl⟩
                · have h1' : (x.row == 1) = false := by simpa using h1
                  clear h1
                  go_wp2_with fail
                  go_meet
                  case rel => exact ⟨rfl, rfl, rfl⟩
              case rest =>
                obtain ⟨rfl, rfl, rfl⟩ := hcut
                go_upto_region 13 with (fail)
                go_cut [8, 100] (fun v8 v100 wx => v8 = .bool (noBody x.st) ∧ v100 = .bool R ∧ W1 = wx)
                case first =>
                  by_cases h1 : x.row = 1
                  · have x4' : W1.cell? ⟨g, 4, none⟩ = some (.int .i64 1) := by rw [x4, h1]
                    have hb : noBody x.st = true := by have := HR0.out; rw [decide_eq_true h1, Bool.true_and] at this; simpa using this
                    have HR2 := Lib.hid (show R = true by rw [HR.out, decide_eq_true h1, hb]; rfl)
                    have HB := Lib.hid hb
                    clear h1 x4 h0 h0' HR HR0
                    rw [hb]
                    clear hb
                    go_wp2_with fail
                    go_meet
                    case rel => exact ⟨by rw [HB.out], by rw [HR2.out], rfl⟩
                  · have h1' : (x.row == 1) = false := by simpa using h1
                    by_cases h2 : x.row = 2
                    · have x4' : W1.cell? ⟨g, 4, none⟩ = some (.int .i64 2) := by rw [x4, h2]
                      have HR2 := Lib.hid (show R = true by rw [HR.out, decide_eq_true h2, Bool.or_true])
                      clear h1 h2 x4 h0 h0' HR HR0 h1'
                      go_wp2_with fail
                      go_meet
                      case rel => exact ⟨rfl, by rw [HR2.out], rfl⟩
                    · have h2' : (x.row == 2) = false := by simpa using h2
                      have HR2 := Lib.hid (show R = false by rw [HR.out, decide_eq_false h2, decide_eq_false h1]; rfl)
                      clear h1 h2 h0 h0' HR HR0
                      go_wp2_with fail
                      go_meet
                      case rel => exact ⟨rfl, by rw [HR2.out], rfl⟩
                case rest =>
                  obtain ⟨rfl, rfl, rfl⟩ := hcut
                  clear HR HR0 h0 h0'
                  cases R
                  · have HM4 := Lib.hid (HM3.out.trans (if_neg (by decide)))
                    clear HM3
                    go_wp2_with fail
                    go_ret
                    exact ⟨by rw [HM4.out]; rfl, L1⟩
                  · have HM4 := Lib.hid (HM3.out.trans (if_pos rfl))
                    clear HM3
                    cases hc1 : s.isPrefixOf (ccS ++ [13])
                    · rw [hc1] at hBcc
                      cases hch : x.chunked
                      · rw [hch] at x7
                        have HM5 := Lib.hid (show mayL x s = s.isPrefixOf (ckS ++ [13]) by rw [HM4.out, hc1, hch]; rfl)
                        clear HM4 hc1 hch
                        go_wp2_with fail
                        refine (hBcc _).mono ?_
                        rintro e w1 ⟨rfl, rfl⟩
                        go_wp2_with fail
                        refine (hBck _).mono ?_
                        rintro e w1 ⟨rfl, rfl⟩
                        go_wp2
                        go_ret
                        exact ⟨by rw [HM5.out]; rfl, L1⟩
                      · rw [hch] at x7
                        have HM5 := Lib.hid (show mayL x s = false by rw [HM4.out, hc1, hch]; rfl)
                        clear HM4 hc1 hch hBck
                        go_wp2_with fail
                        refine (hBcc _).mono ?_
                        rintro e w1 ⟨rfl, rfl⟩
                        go_wp2
                        go_ret
                        exact ⟨by rw [HM5.out]; rfl, L1⟩
                    · rw [hc1] at hBcc
                      have HM5 := Lib.hid (show mayL x s = true by rw [HM4.out, hc1]; rfl)
                      clear HM4 hc1 hBck
                      go_wp2_with fail
                      refine (hBcc _).mono ?_
                      rintro e w1 ⟨rfl, rfl⟩
                      go_wp2
                      go_ret
                      exact ⟨by rw [HM5.out]; rfl, L1⟩
          · have HM2 := Lib.hid (HM1.out.trans (if_pos rfl))
            clear HM1
            go_wp2_with fail
            go_ret
            exact ⟨by rw [HM2.out]; rfl, L1⟩
      · have HM2 := Lib.hid (show mayL x s = (x.ends || decide (s = [])) by rw [HMD.out, if_neg h0, h13, if_pos rfl])
        have hEn2 := hEn _ hX
        clear HMD h13 hEn hFi hPa hBcl hBcl2 hNu hBte hBcc hBck hnb
        cases hen : x.ends
        · rw [hen] at hEn2 HM2
          by_cases hse : s = []
          · subst hse
            go_wp2_with fail
            refine hEn2.mono ?_
            rintro e w1 ⟨rfl, rfl⟩
            go_wp2
            go_ret
            exact ⟨by rw [HM2.out]; rfl, Below.refl _ _⟩
          · have hq : (s == []) = false := by simpa using hse
            have hq2 : ¬ (s.toArray = #[]) := by simpa using hse
            have hq3 : List.isEmpty s = false := by cases s with | nil => exact absurd rfl hse | cons c t => rfl
            have HM3 := Lib.hid (show mayL x s = false by rw [HM2.out, decide_eq_false hse]; rfl)
            clear HM2
            go_wp2_with fail
            refine hEn2.mono ?_
            rintro e w1 ⟨rfl, rfl⟩
            go_wp2
            go_ret
            exact ⟨by rw [HM3.out]; rfl, Below.refl _ _⟩
        · rw [hen] at hEn2 HM2
          go_wp2_with fail
          refine hEn2.mono ?_
          rintro e w1 ⟨rfl, rfl⟩
          go_wp2
          go_ret
          exact ⟨by rw [HM2.out]; rfl, Below.refl _ _⟩
end Go.Proofs.YtmjekdnfkgalbaaGreatDoor
namespace Go.Proofs.YtmjekdnfkgalbaaGreatDoor
open Go.RowKit
set_option maxRecDepth 100000
set_option maxHeartbeats 4000000

theorem ext_head (s : Bs) (k : Nat) : (⟨s.toArray⟩ : ByteArray).extract 0 k = ⟨(s.take k).toArray⟩ := str_ext (by rw [ext_data]; rfl)
theorem r18_field (n v s : Bs) (f : Fd) (w : World) (hs : s.length ≤ 1000000) (he : s = n ++ 58 :: 32 :: v) (hn : (58 : UInt8) ∉ n) :
    Calls Tryz.prog 73 #[sv s, .agg #[sv f.1, sv f.2]] w fun e w' => e = .returned (.agg #[sv n, sv v]) ∧ Below w.heap.size w w' := by
  have hz : (⟨s.toArray⟩ : ByteArray).size = s.length := size_mk' s
  have hbs := PlainAid.get_bt ⟨s.toArray⟩
  have hsl : s.length = n.length + 2 + v.length := by rw [he]; simp; omega
  have hx1 : (⟨s.toArray⟩ : ByteArray).extract 0 n.length = ⟨n.toArray⟩ := by rw [ext_head, he, List.take_left]
  have hx2 := drop_extG s (n.length + 2)
  rw [show s.drop (n.length + 2) = v by rw [he, ← List.drop_drop, List.drop_left]; rfl, hsl] at hx2
  have hb9 := bt_at s n.length 58 (by rw [he, List.getElem?_append_right (Nat.le_refl _)]; simp)
  have HE := Lib.hid he
  have HN := Lib.hid hn
  clear he hn
  go_enter Tryz.func73, Tryz.ntmps73
  go_wp2_with fail
  obtain ⟨V, hV⟩ : ∃ V, V = (w.alloc (.cells #[sv f.1, sv f.2] 58)).alloc (.cells #[.string ⟨#[]⟩, .string ⟨#[]⟩] 58) := ⟨_, rfl⟩
  have LV : Below w.heap.size w V := by rw [hV]; exact allocW (allocW (Below.refl _ _) _) _
  have BV : Blk V (w.heap.size + 1) 58 #[.string ⟨#[]⟩, .string ⟨#[]⟩] := by rw [hV]; exact Blk.new' _ _ (by simp) _ _
  rw [← hV]
  clear hV
  go_loopw [5] (fun i wr => ∃ k : Nat, k ≤ n.length ∧ i = .int .i64 k ∧ V = wr) (fun i _ => s.length - (intOf i).toNat)
  case atStart => exact ⟨0, Nat.zero_le _, rfl, rfl⟩
  case round =>
    obtain ⟨k, hk, rfl, rfl⟩ := hrel
    have hlt : (k : Int) < (s.length : Int) := by omega
    by_cases hkn : k < n.length
    · obtain ⟨d, hd, -⟩ := drop_list n k hkn
      have hbt := bt_at s k d (by rw [HE.out, List.getElem?_append_left hkn]; exact hd)
      have hd58 : ((d.toNat : Int) == 58) = false := by
        rw [Bool.eq_false_iff]
        intro h
        have h9 : d = 58 := UInt8.toNat_inj.1 (by have := beq_iff_eq.1 h; show d.toNat = 58; omega)
        exact HN.out (h9 ▸ List.mem_of_getElem? hd)
      have hd58' : ¬ (d.toNat : Int) = 58 := by simpa using hd58
      clear hd hb9 hx1 hx2
      go_wp2
      go_roundw
      case rel => exact ⟨k + 1, by omega, by go_num, by first | rfl | trivial⟩
      case measure => simp [intOf]; omega
    · obtain rfl : k = n.length := by omega
      have hb9' : PlainAid.bt ⟨s.toArray⟩ n.length = 58 := hb9
      obtain ⟨c0, c1, f0, f1⟩ := BV.c2
      have hle : n.length + 2 ≤ s.length := by omega
      have hsl' : (⟨s.toArray⟩ : ByteArray).size = n.length + 2 + v.length := by rw [hz, hsl]
      clear hb9
      go_wp2
      go_region
      all_goals
        have BW : Blk (((V.setCell ⟨w.heap.size + 1, 0, none⟩ (sv n)).setCell ⟨w.heap.size + 1, 1, none⟩ (sv v)).drew) (w.heap.size + 1) 58 #[sv n, sv v] := ((BV.set_ 0 (sv n)).set_ 1 (sv v)).drew
        have LW : Below w.heap.size w (((V.setCell ⟨w.heap.size + 1, 0, none⟩ (sv n)).setCell ⟨w.heap.size + 1, 1, none⟩ (sv v)).drew) := (setW (setW LV (by simp) _) (by simp) _).drew
        obtain ⟨j0, j1, -⟩ := BW.c2
        clear c0 c1 f0 f1 BV BW
        go_wp2
        refine bodyPost_ret (v := .agg #[sv n, sv v]) (by simp [results, Tryz.results73, go_sem, j0, j1]) rfl ⟨rfl, LW⟩
def cntH (b : Bs) (k : Nat) : Nat := (((b.drop k).take (12 - k)).takeWhile hxB).length
theorem cntH_yes (b : Bs) (k : Nat) (d : UInt8) (t : Bs) (h : b.drop k = d :: t) (ht : b.drop (k + 1) = t) (hk : k < 12) (hd : hxB d = true) : cntH b k = 1 + cntH b (k + 1) := by
  rw [cntH, cntH, h, ht, show 12 - k = (12 - (k + 1)) + 1 by omega, List.take_succ_cons, List.takeWhile_cons, hd, if_pos rfl, List.length_cons]
  omega
theorem cntH_no (b : Bs) (k : Nat) (h : b.length ≤ k ∨ 12 ≤ k ∨ ∃ d t, b.drop k = d :: t ∧ hxB d = false) : cntH b k = 0 := by
  rw [cntH]
  rcases h with h | h | ⟨d, t, h1, h2⟩
  · rw [List.drop_of_length_le h]; simp
  · rw [show 12 - k = 0 by omega]; simp
  · rw [h1]
    cases h : 12 - k with
    | zero => simp
    | succ m => rw [List.take_succ_cons, List.takeWhile_cons, h2]; simp
theorem hx_iff (d : UInt8) : hxB d = ((decide ((48 : Int) ≤ (d.toNat : Int)) && decide ((d.toNat : Int) ≤ 57)) || (decide ((97 : Int) ≤ (d.toNat : Int)) && decide ((d.toNat : Int) ≤ 102))) := by
  rw [hxB, dg_iff]
  congr 1
  rw [Bool.eq_iff_iff]
  simp only [decide_eq_true_eq, Bool.and_eq_true]
  omega
theorem hexV_nn (l : Bs) : (((numR 16 12 l).getD 0).toNat : Int) = (numR 16 12 l).getD 0 := by
  cases h : numR 16 12 l with
  | none => rfl
  | some v =>
    rw [numR] at h
    split at h
    · cases h
    · have := numF_nonneg 16 (by decide) l 0 v (by decide) h
      rw [Option.getD_some]; omega
theorem sz_bad (b : Bs) (h : 1 < cntH b 0 ∧ b.head? = some 48) : sizL b = (0, -2) := by
  rw [sizL]; exact if_pos h
theorem sz_go (b : Bs) (h : ¬ (1 < cntH b 0 ∧ b.head? = some 48)) : sizL b = (match b.drop (cntH b 0) with
    | [] => (0, -1)
    | c :: r => if cntH b 0 = 0 ∨ c ≠ 13 then (0, -2) else match r with
      | [] => (0, -1)
      | d :: _ => if d ≠ 10 then (0, -2) else (((cntH b 0 : Nat) : Int) + 2, hexV (b.take (cntH b 0)))) := by
  rw [sizL]; exact if_neg h
theorem r18_size (A : Option Addr) (c : Nat) (b : Bs) (w : World) (hr : Rd w w.heap.size 1 A b.length (b.map bv)) (hcl : b.length ≤ c) (hb : b.length ≤ 1000000) :
    Calls Tryz.prog 74 #[.slice A b.length c] w fun e w' => e = .returned (.tuple #[.int .i64 (sizL b).1, .int .i64 (sizL b).2]) ∧ w = w' := by
  have hat : ∀ (k : Nat) (d : UInt8), b[k]? = some d → ∃ g o, A = some ⟨g, o, none⟩ ∧ w.cell? ⟨g, o + k, none⟩ = some (.int .u8 (d.toNat : Int)) := by
    intro k d hd
    have hk := (List.getElem?_eq_some_iff.1 hd).1
    obtain ⟨g, o, h1, -, h2⟩ := hr.2 (by omega)
    exact ⟨g, o, h1, h2 k (bv d) (map_get bv _ _ _ hd)⟩
  have HAT := Lib.hid hat
  clear hat
  go_enter Tryz.func74, Tryz.ntmps74
  go_wp2_with fail
  go_loopw [4] (fun i wr => ∃ k : Nat, k ≤ b.length ∧ i = .int .i64 k ∧ Hid (cntH b 0 = k + cntH b k) ∧ w = wr) (fun i _ => b.length - (intOf i).toNat)
  case atStart => exact ⟨0, Nat.zero_le _, rfl, Lib.hid (by omega), rfl⟩
  case round =>
    obtain ⟨k, hk, rfl, H, rfl⟩ := hrel
    obtain ⟨T, hT⟩ : ∃ T : Bool, T = (decide (k < b.length) && (decide (k < 12) && decide (∃ d, b[k]? = some d ∧ hxB d = true))) := ⟨_, rfl⟩
    have HT := Lib.hid hT
    clear hT
    go_upto_region 2 with (fail)
    go_cut [42] (fun v42 wx => v42 = .bool T ∧ w = wx)
    case first =>
      by_cases h1 : k < b.length
      · have h1' : (k : Int) < (b.length : Int) := by omega
        by_cases h2 : k < 12
        · have h2' : (k : Int) < 12 := by omega
          obtain ⟨d, hd⟩ : ∃ d, b[k]? = some d := ⟨_, List.getElem?_eq_getElem h1⟩
          obtain ⟨g, o, rfl, y0⟩ := HAT.out k d hd
          have HT2 := Lib.hid (show T = hxB d by
            rw [HT.out, decide_eq_true h1, decide_eq_true h2, Bool.true_and, Bool.true_and]
            cases hh : hxB d
            · exact decide_eq_false (by rintro ⟨e, h3, h4⟩; rw [hd] at h3; injection h3 with h3; subst h3; rw [hh] at h4; cases h4)
            · exact decide_eq_true ⟨d, hd, hh⟩)
          have hi := hx_iff d
          clear hd HT h1 h2
          by_cases a1 : (48 : Int) ≤ (d.toNat : Int)
          · by_cases a2 : (d.toNat : Int) ≤ 57
            · rw [decide_eq_true a1, decide_eq_true a2, Bool.true_and, Bool.true_or] at hi
              have HI := Lib.hid hi
              clear hi
              go_wp2_with fail
              go_meet
              case rel => exact ⟨by rw [HT2.out, HI.out], rfl⟩
            · have a2' : decide ((d.toNat : Int) ≤ 57) = false := decide_eq_false a2
              rw [a2', Bool.and_false, Bool.false_or] at hi
              clear a2
              by_cases a3 : (97 : Int) ≤ (d.toNat : Int)
              · by_cases a4 : (d.toNat : Int) ≤ 102
                · rw [decide_eq_true a3, decide_eq_true a4, Bool.true_and] at hi
                  have HI := Lib.hid hi
                  clear hi
                  go_wp2_with fail
                  go_meet
                  case rel => exact ⟨by rw [HT2.out, HI.out], rfl⟩
                · have a4' : decide ((d.toNat : Int) ≤ 102) = false := decide_eq_false a4
                  rw [a4', Bool.and_false] at hi
                  have HI := Lib.hid hi
                  clear hi a4
                  go_wp2_with fail
                  go_meet
                  case rel => exact ⟨by rw [HT2.out, HI.out], rfl⟩
              · have a3' : decide ((97 : Int) ≤ (d.toNat : Int)) = false := decide_eq_false a3
                rw [a3', Bool.false_and] at hi
                have HI := Lib.hid hi
                clear hi a3
                go_wp2_with fail
                go_meet
                case rel => exact ⟨by rw [HT2.out, HI.out], rfl⟩
          · have a1' : decide ((48 : Int) ≤ (d.toNat : Int)) = false := decide_eq_false a1
            have a3' : decide ((97 : Int) ≤ (d.toNat : Int)) = false := decide_eq_false (by omega)
            rw [a1', a3', Bool.false_and, Bool.false_and, Bool.false_or] at hi
            have HI := Lib.hid hi
            clear hi a1
            go_wp2_with fail
            go_meet
            case rel => exact ⟨by rw [HT2.out, HI.out], rfl⟩
        · have h2' : ¬ (k : Int) < 12 := by omega
          have HT2 := Lib.hid (show T = false by rw [HT.out, decide_eq_false h2, Bool.false_and, Bool.and_false])
          clear HT h2 h1
          go_wp2_with fail
          go_meet
          case rel => exact ⟨by rw [HT2.out], rfl⟩
      · have h1' : ¬ (k : Int) < (b.length : Int) := by omega
        have HT2 := Lib.hid (show T = false by rw [HT.out, decide_eq_false h1, Bool.false_and])
        clear HT h1
        go_wp2_with fail
        go_meet
        case rel => exact ⟨by rw [HT2.out], rfl⟩
    case rest =>
      obtain ⟨rfl, rfl⟩ := hcut
      cases T
      · have hc0 : cntH b k = 0 := by
          have h := HT.out
          rcases Nat.lt_or_ge k b.length with h1 | h1
          · rcases Nat.lt_or_ge k 12 with h2 | h2
            · obtain ⟨d, hd1, hd2⟩ := drop_list b k h1
              rw [decide_eq_true h1, decide_eq_true h2, Bool.true_and, Bool.true_and] at h
              refine cntH_no b k (.inr (.inr ⟨d, _, hd2, ?_⟩))
              have h3 := of_decide_eq_false h.symm
              cases hh : hxB d
              · rfl
              · exact absurd ⟨d, hd1, hh⟩ h3
            · exact cntH_no b k (.inr (.inl h2))
          · exact cntH_no b k (.inl h1)
        have HN := Lib.hid (show cntH b 0 = k by rw [H.out, hc0]; rfl)
        clear hc0 H HT
        obtain ⟨Z, hZ⟩ : ∃ Z : Bool, Z = (decide (1 < k) && decide (b.head? = some 48)) := ⟨_, rfl⟩
        have HZ := Lib.hid hZ
        clear hZ
        go_upto_region 4 with (fail)
        go_cut [52] (fun v52 wx => v52 = .bool Z ∧ w = wx)
        case first =>
          by_cases h1 : 1 < k
          · have h1' : (1 : Int) < (k : Int) := by omega
            obtain ⟨d, hd⟩ : ∃ d, b[0]? = some d := ⟨_, List.getElem?_eq_getElem (by omega)⟩
            obtain ⟨g, o, rfl, y0⟩ := HAT.out 0 d hd
            have hh : b.head? = some d := by rw [List.head?_eq_getElem?]; exact hd
            have hln : (0 : Int) < (b.length : Int) := by omega
            rw [Nat.add_zero] at y0
            by_cases h48 : d = 48
            · have HZ2 := Lib.hid (show Z = true by rw [HZ.out, decide_eq_true h1, hh, h48]; rfl)
              have y0' : w.cell? ⟨g, o, none⟩ = some (.int .u8 48) := by rw [y0, h48]; rfl
              clear HZ hd hh h48 y0 h1
              go_wp2_with fail
              go_meet
              case rel => exact ⟨by rw [HZ2.out], rfl⟩
            · have hq := byte_ne' d 48 h48
              have hq' : ((d.toNat : Int) == 48) = false := hq
              have hq9 : decide (some d = some (48 : UInt8)) = false := decide_eq_false (by intro h; injection h with h; exact h48 h)
              have HZ2 := Lib.hid (show Z = false by rw [HZ.out, hh, hq9, Bool.and_false])
              clear HZ hd hh h48 h1 hq
              go_wp2_with fail
              go_meet
              case rel => exact ⟨by rw [HZ2.out], rfl⟩
          · have h1' : ¬ (1 : Int) < (k : Int) := by omega
            have HZ2 := Lib.hid (show Z = false by rw [HZ.out, decide_eq_false h1, Bool.false_and])
            clear HZ h1
            go_wp2_with fail
            go_meet
            case rel => exact ⟨by rw [HZ2.out], rfl⟩
        case rest =>
          obtain ⟨rfl, rfl⟩ := hcut
          cases Z
          · have hng : ¬ (1 < cntH b 0 ∧ b.head? = some 48) := by
              rintro ⟨q1, q2⟩
              have := HZ.out
              rw [HN.out] at q1
              rw [decide_eq_true q1, decide_eq_true q2] at this; cases this
            have HS := Lib.hid (sz_go b hng)
            clear hng HZ
            by_cases hkl : k = b.length
            · have HS2 := Lib.hid (show sizL b = (0, -1) by rw [HS.out, HN.out, hkl, List.drop_length])
              have hq : ((k : Int) == (b.length : Int)) = true := by rw [hkl]; simp
              have hkl' : (k : Int) = (b.length : Int) := by omega
              clear HS HN hkl HAT
              go_wp2
              go_ret2
              exact ⟨by rw [HS2.out]; rfl, rfl⟩
            · have hkl1 : k < b.length := by omega
              have hq : ((k : Int) == (b.length : Int)) = false := by rw [Bool.eq_false_iff]; intro h; exact hkl (by have := beq_iff_eq.1 h; omega)
              have hq2 : ¬ (k : Int) = (b.length : Int) := by omega
              have hlt : (k : Int) < (b.length : Int) := by omega
              obtain ⟨d, hd1, hd2⟩ := drop_list b k hkl1
              obtain ⟨g, o, rfl, y0⟩ := HAT.out k d hd1
              by_cases hk0 : k = 0
              · have HS2 := Lib.hid (show sizL b = (0, -2) by rw [HS.out, HN.out, hd2]; exact if_pos (.inl hk0))
                have hk0' : (k : Int) = 0 := by omega
                clear HS HN hd1 hd2 HAT hkl
                subst hk0
                go_wp2
                go_ret2
                exact ⟨by rw [HS2.out]; rfl, rfl⟩
              · have hk0' : ((k : Int) == 0) = false := by rw [Bool.eq_false_iff]; intro h; exact hk0 (by have := beq_iff_eq.1 h; omega)
                have hk0'' : ¬ (k : Int) = 0 := by omega
                by_cases h13 : d = 13
                · subst h13
                  have y0' : w.cell? ⟨g, o + k, none⟩ = some (.int .u8 13) := y0
                  by_cases hk1 : k + 1 = b.length
                  · have HS2 := Lib.hid (show sizL b = (0, -1) by
                      rw [HS.out, HN.out, hd2]
                      refine (if_neg (by rintro (h | h); exact hk0 h; exact h rfl)).trans ?_
                      rw [List.drop_of_length_le (by omega)])
                    have hk1' : (k : Int) + 1 = (b.length : Int) := by omega
                    have hk1b : ((k : Int) + 1 == (b.length : Int)) = true := by simp [hk1']
                    clear HS HN hd1 hd2 HAT hkl hk0 hk1 y0
                    go_wp2
                    go_ret2
                    exact ⟨by rw [HS2.out]; rfl, rfl⟩
                  · have hk1' : ¬ (k : Int) + 1 = (b.length : Int) := by omega
                    have hk1b : ((k : Int) + 1 == (b.length : Int)) = false := by rw [Bool.eq_false_iff]; intro h; exact hk1' (beq_iff_eq.1 h)
                    have hlt1 : (k : Int) + 1 < (b.length : Int) := by omega
                    obtain ⟨e, he1, he2⟩ := drop_list b (k + 1) (by omega)
                    obtain ⟨g2, o2, ha, z0⟩ := HAT.out (k + 1) e he1
                    injection ha with ha
                    injection ha with ha1 ha2
                    subst ha1 ha2
                    have z1 := z0
                    rw [← Nat.add_assoc] at z0
                    have HSx := Lib.hid (show sizL b = if e ≠ 10 then (0, -2) else ((k : Int) + 2, ((hexV (b.take k) : Nat) : Int)) by
                      rw [HS.out, HN.out, hd2]
                      refine (if_neg (by rintro (h | h); exact hk0 h; exact h rfl)).trans ?_
                      rw [he2])
                    by_cases h10 : e = 10
                    · subst h10
                      have z0' : w.cell? ⟨g, o + k + 1, none⟩ = some (.int .u8 10) := z0
                      have z1' : w.cell? ⟨g, o + (k + 1), none⟩ = some (.int .u8 10) := z1
                      clear z1
                      have HS2 := Lib.hid (show sizL b = ((k : Int) + 2, ((hexV (b.take k) : Nat) : Int)) by rw [HSx.out]; exact if_neg (fun h => h rfl))
                      have hH := fun w => ref_Hex ⟨(b.take k).toArray⟩ w (by show (b.take k).toArray.size ≤ _; unfold maxLen; simp; omega)
                      rw [show (⟨(b.take k).toArray⟩ : ByteArray).data.toList = b.take k from rfl] at hH
                      have hnn := hexV_nn (b.take k)
                      have HNN := Lib.hid hnn
                      unfold numV at hH
                      have hcut := hr.cutTo (k := k) (by omega)
                      rw [Nat.mul_one, ← List.map_take] at hcut
                      clear HS HSx HN hd1 hd2 he1 he2 HAT hkl hk0 hk1 y0 z0 hnn
                      go_wp2_with (first
                        | (refine wpList_toString _ rfl (.tmp 80) 22 9 rfl 5 Tryz.underlying22 Tryz.underlying5 Tryz.underlying9 (some ⟨g, o, none⟩) k c _ (b.take k) rfl hcut ?_)
                        | (go_at_call 97
                           refine (hH _).mono ?_
                           rintro e w1 ⟨rfl, rfl⟩))
                      go_ret2
                      exact ⟨by rw [HS2.out, hexV, HNN.out]; rfl, rfl⟩
                    · have hq10 := byte_ne' e 10 h10
                      have hq10' : ((e.toNat : Int) == 10) = false := hq10
                      have hq10n : ¬ (e.toNat : Int) = 10 := by simpa using hq10'
                      have HS2 := Lib.hid (show sizL b = (0, -2) by rw [HSx.out]; exact if_pos h10)
                      clear HS HSx HN hd1 hd2 he1 he2 HAT hkl hk0 hk1 y0 h10 hq10
                      go_wp2
                      go_ret2
                      exact ⟨by rw [HS2.out]; rfl, rfl⟩
                · have hq13 := byte_ne' d 13 h13
                  have hq13' : ((d.toNat : Int) == 13) = false := hq13
                  have hq13n : ¬ (d.toNat : Int) = 13 := by simpa using hq13'
                  have HS2 := Lib.hid (show sizL b = (0, -2) by rw [HS.out, HN.out, hd2]; exact if_pos (.inr h13))
                  clear HS HN hd1 hd2 HAT hkl hk0 h13 hq13
                  go_wp2
                  go_ret2
                  exact ⟨by rw [HS2.out]; rfl, rfl⟩
          · have hyes : 1 < cntH b 0 ∧ b.head? = some 48 := by
              have := HZ.out
              rw [eq_comm, Bool.and_eq_true, decide_eq_true_eq, decide_eq_true_eq] at this
              rw [HN.out]; exact this
            have HS := Lib.hid (sz_bad b hyes)
            clear hyes HZ HN HAT
            go_wp2
            go_ret2
            exact ⟨by rw [HS.out]; rfl, rfl⟩
      · have h := HT.out
        rcases Nat.lt_or_ge k b.length with h1 | h1
        · rcases Nat.lt_or_ge k 12 with h2 | h2
          · obtain ⟨d, hd1, hd2⟩ := drop_list b k h1
            rw [decide_eq_true h1, decide_eq_true h2, Bool.true_and, Bool.true_and] at h
            obtain ⟨e, he1, he2⟩ := of_decide_eq_true h.symm
            have H2 := Lib.hid (show cntH b 0 = (k + 1) + cntH b (k + 1) by
              rw [hd1] at he1; injection he1 with he1; subst he1
              rw [H.out, cntH_yes b k d _ hd2 rfl h2 he2]; omega)
            clear h H HT hd1 hd2 he1 he2
            go_wp2
            go_roundw
            case rel => exact ⟨k + 1, by omega, by go_num, H2, by first | rfl | trivial⟩
            case measure => simp [intOf]; omega
          · rw [decide_eq_false (by omega : ¬ k < 12), Bool.false_and, Bool.and_false] at h; cases h
        · rw [decide_eq_false (by omega : ¬ k < b.length), Bool.false_and] at h; cases h
end Go.Proofs.YtmjekdnfkgalbaaGreatDoor

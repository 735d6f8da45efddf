/- usherref11.Parse. -/
import Derived.Test.YtfpojnijjpojlaaGreatDoorTRef5
namespace Go.Proofs.YtfpojnijjpojlaaGreatDoor
open Go.RowKit
set_option maxRecDepth 100000
set_option maxHeartbeats 4000000

theorem pre_low (l : Bs) (_h : 7 ≤ l.length) : preB httpB (lowL l) = (lowL (l.take 7) == lowL httpB) := by
  have e : lowL (l.take 7) = (lowL l).take 7 := by simp [lowL, List.map_take]
  have e2 : lowL httpB = httpB := by decide
  rw [e, e2, Bool.eq_iff_iff, preB, List.isPrefixOf_iff_prefix, beq_iff_eq, List.prefix_iff_eq_take]
  exact eq_comm
theorem npre_low (l : Bs) (h : l.length < 7) : preB httpB (lowL l) = false := by
  cases hp : preB httpB (lowL l)
  · rfl
  · have := pre_len _ _ hp
    rw [lowL_len] at this
    have h7 : httpB.length = 7 := rfl
    omega
theorem npre0 (s : ByteArray) (h : s.size = 0) : preB [47] s.data.toList = false := by
  rw [empty_size h]; rfl
theorem ref11_Parse (m s : ByteArray) (w : World) (hs : s.size < 4294967000) :
    Calls Tryz.prog 10 #[.string m, .string s] w fun e w' => e = .returned (tgR (parseL m.data.toList s.data.toList)) ∧ Below w.heap.size w w' := by
  have eM : m.toList = m.data.toList := ByteArray.toList_eq _
  have eS : s.toList = s.data.toList := ByteArray.toList_eq _
  have hl := len_data s
  have hsm : s.size ≤ maxLen := by unfold maxLen; omega
  by_cases h200 : 200 < s.size
  · have HR := Lib.hid (show parseL m.data.toList s.data.toList = (tgt0, 9) by rw [parseL, if_pos (by omega)])
    clear eM eS hl hsm
    go_enter Tryz.func10, Tryz.ntmps10
    go_wp2
    refine bodyPost_ret (v := .tuple #[tgtV tgt0, .int .i64 9]) (by simp [results, Tryz.results10, go_sem, tgt0]) rfl ⟨by rw [HR.out]; rfl, ?_⟩
    repeat refine setW ?_ (by simp) _
    exact allocW (Below.refl _ _) _
  have hle : s.size ≤ 200 := by omega
  have e0 : ¬ (200 < s.data.toList.length) := by omega
  clear h200
  by_cases hC : m.data.toList = connB
  · have t1 : (m.toList == [67, 79, 78, 78, 69, 67, 84]) = true := by rw [eM, hC]; rfl
    cases hH : hostL s.data.toList
    · have HR := Lib.hid (show parseL m.data.toList s.data.toList = (tgt0, 8) by rw [parseL, if_neg e0, if_pos hC, hH, Bool.and_false]; rfl)
      clear e0 hC eM eS hl
      go_enter Tryz.func10, Tryz.ntmps10
      go_wp2_with fail
      refine (ref11_Host s _ hsm).mono ?_
      rw [hH]
      rintro e w1 ⟨rfl, rfl⟩
      clear hH
      go_wp2
      refine bodyPost_ret (v := .tuple #[tgtV tgt0, .int .i64 8]) (by simp [results, Tryz.results10, go_sem, tgt0]) rfl ⟨by rw [HR.out]; rfl, ?_⟩
      repeat refine setW ?_ (by simp) _
      exact allocW (Below.refl _ _) _
    · cases hI : inB s.data.toList 58
      · have HR := Lib.hid (show parseL m.data.toList s.data.toList = (tgt0, 8) by rw [parseL, if_neg e0, if_pos hC, hI]; rfl)
        clear e0 hC eM eS hl
        go_enter Tryz.func10, Tryz.ntmps10
        go_wp2_with fail
        refine (ref11_Host s _ hsm).mono ?_
        rw [hH]
        rintro e w1 ⟨rfl, rfl⟩
        go_wp2_with fail
        refine (ref_In 58 s _ hsm (by decide) (by decide)).mono ?_
        rw [show inL 58 s.data.toList = false from (inL_contains 58 _).trans hI]
        rintro e w1 ⟨rfl, rfl⟩
        clear hH hI
        go_wp2
        refine bodyPost_ret (v := .tuple #[tgtV tgt0, .int .i64 8]) (by simp [results, Tryz.results10, go_sem, tgt0]) rfl ⟨by rw [HR.out]; rfl, ?_⟩
        repeat refine setW ?_ (by simp) _
        exact allocW (Below.refl _ _) _
      · have HR := Lib.hid (show parseL m.data.toList s.data.toList = (⟨3, lowL s.data.toList, [], []⟩, 0) by rw [parseL, if_neg e0, if_pos hC, hI, hH]; rfl)
        clear e0 hC eM eS hl
        go_enter Tryz.func10, Tryz.ntmps10
        go_wp2_with fail
        refine (ref11_Host s _ hsm).mono ?_
        rw [hH]
        rintro e w1 ⟨rfl, rfl⟩
        go_wp2_with fail
        obtain ⟨W2, hW⟩ : ∃ W2, W2 = w.alloc (.cells #[.int .i64 0, .string ⟨#[]⟩, .string ⟨#[]⟩, .string ⟨#[]⟩] 23) := ⟨_, rfl⟩
        rw [← hW]
        have B1 : Blk W2 w.heap.size 23 #[.int .i64 0, .string ⟨#[]⟩, .string ⟨#[]⟩, .string ⟨#[]⟩] := by rw [hW]; exact Blk.new' _ _ rfl _ _
        have LW : Below w.heap.size w W2 := by rw [hW]; exact allocW (Below.refl _ _) _
        clear hW
        refine (ref_In 58 s _ hsm (by decide) (by decide)).mono ?_
        rw [show inL 58 s.data.toList = true from (inL_contains 58 _).trans hI]
        rintro e w1 ⟨rfl, rfl⟩
        clear hI hH
        go_wp2_with fail
        refine (ref_LowerS s _ (by omega)).mono ?_
        rintro e w2 ⟨rfl, L2⟩
        obtain ⟨j0, j1, j2, j3, i0, i1, i2, i3⟩ := (B1.belowW L2).c4
        have LL := stepW LW L2
        go_wp2
        refine bodyPost_ret (v := .tuple #[tgtV ⟨3, lowL s.data.toList, [], []⟩, .int .i64 0]) (by simp [results, Tryz.results10, go_sem, j0, j1, j2, j3]) rfl ⟨by rw [HR.out]; rfl, ?_⟩
        repeat refine setW ?_ (by simp) _
        exact LL
  have t1 : (m.toList == [67, 79, 78, 78, 69, 67, 84]) = false := by rw [eM]; simpa [connB] using hC
  by_cases hO : m.data.toList = optB ∧ s.data.toList = [42]
  · have t2 : m.toList = [79, 80, 84, 73, 79, 78, 83] := by rw [eM, hO.1]; rfl
    have t3 : (s.toList == [42]) = true := by rw [eS, hO.2]; rfl
    have HR := Lib.hid (show parseL m.data.toList s.data.toList = (⟨4, [], [], []⟩, 0) by rw [parseL, if_neg e0, if_neg hC, if_pos hO])
    have t2' : (m.toList == [79, 80, 84, 73, 79, 78, 83]) = true := by rw [t2]; rfl
    clear e0 hC eM eS hsm hO t1 hl
    have t1 : (m.toList == [67, 79, 78, 78, 69, 67, 84]) = false := by rw [t2]; rfl
    go_enter Tryz.func10, Tryz.ntmps10
    go_wp2
    refine bodyPost_ret (v := .tuple #[tgtV ⟨4, [], [], []⟩, .int .i64 0]) (by simp [results, Tryz.results10, go_sem]) rfl ⟨by rw [HR.out]; rfl, ?_⟩
    repeat refine setW ?_ (by simp) _
    exact allocW (Below.refl _ _) _
  have t2 : m.toList = [79, 80, 84, 73, 79, 78, 83] → (s.toList == [42]) = false := by
    rw [eM, eS]; intro h; rw [Bool.eq_false_iff]; intro h2; exact hO ⟨h, by simpa using h2⟩
  have LW : Below w.heap.size w (w.alloc (.cells #[.int .i64 0, .string ⟨#[]⟩, .string ⟨#[]⟩, .string ⟨#[]⟩] 23)) := allocW (Below.refl _ _) _
  have B1 : Blk (w.alloc (.cells #[.int .i64 0, .string ⟨#[]⟩, .string ⟨#[]⟩, .string ⟨#[]⟩] 23)) w.heap.size 23 #[.int .i64 0, .string ⟨#[]⟩, .string ⟨#[]⟩, .string ⟨#[]⟩] := Blk.new' _ _ rfl _ _
  have HO := Lib.hid hO
  have HC := Lib.hid hC
  have E0 := Lib.hid e0
  have HL := Lib.hid hl
  clear hO hC e0 eM eS hl
  go_enter Tryz.func10, Tryz.ntmps10
  go_upto_region 7 with (fail)
  go_cut [26] (fun v wx => v = .bool false ∧ wx = w.alloc (.cells #[.int .i64 0, .string ⟨#[]⟩, .string ⟨#[]⟩, .string ⟨#[]⟩] 23))
  case first =>
    by_cases hm7 : m.toList = [79, 80, 84, 73, 79, 78, 83]
    · have t4 := t2 hm7
      go_wp2_with fail
      go_meet
      case rel => exact ⟨rfl, rfl⟩
    · go_wp2_with fail
      go_meet
      case rel => exact ⟨rfl, rfl⟩
  case rest =>
    obtain ⟨rfl, rfl⟩ := hcut
    clear t2 t1
    obtain ⟨W2, hW⟩ : ∃ W2, W2 = w.alloc (.cells #[.int .i64 0, .string ⟨#[]⟩, .string ⟨#[]⟩, .string ⟨#[]⟩] 23) := ⟨_, rfl⟩
    rw [← hW] at B1 LW ⊢
    clear hW
    have hbs := PlainAid.get_bt s
    cases hP : preB [47] s.data.toList
    · have hz : s.size = 0 ∨ (0 < s.size ∧ (PlainAid.bt s 0 == 47) = false) := by
        rcases Nat.eq_zero_or_pos s.size with h | h
        · exact .inl h
        · refine .inr ⟨h, ?_⟩
          have := npre_bt s h hP
          rw [bne_iff_ne] at this
          simpa using this
      by_cases h7 : 7 ≤ s.size
      · obtain ⟨P, hPx⟩ : ∃ P, P = s.extract 0 7 := ⟨_, rfl⟩
        obtain ⟨X, hX⟩ : ∃ X, X = s.extract 7 s.size := ⟨_, rfl⟩
        have hPl : P.data.toList = s.data.toList.take 7 := by rw [hPx, ext_to]
        have hPs : P.size = 7 := by rw [hPx, ext_size _ _ _ (Nat.zero_le _) h7]
        have hXl : X.data.toList = s.data.toList.drop 7 := by rw [hX, ext_from]
        have hXs : X.size ≤ 193 := by rw [hX, ext_size _ _ _ h7 (Nat.le_refl _)]; omega
        have hQe := pre_low s.data.toList (by have := HL.out; omega)
        rw [← hPl] at hQe
        have ePx := hPx.symm
        have eX := hX.symm
        rcases hz with hz | ⟨hz, hz1⟩
        · omega
        cases hQ : preB httpB (lowL s.data.toList)
        · have HR := Lib.hid (show parseL m.data.toList s.data.toList = (tgt0, 8) by rw [parseL, if_neg E0.out, if_neg HC.out, if_neg HO.out, hP, hQ]; rfl)
          rw [hQ] at hQe
          have HQ := Lib.hid hQe.symm
          clear hP hQ hQe hPx hX hPl hXl
          go_wp2_with fail
          refine (rSame P _ _ (by omega) (by decide)).mono ?_
          rw [show (⟨#[104, 116, 116, 112, 58, 47, 47]⟩ : ByteArray).data.toList = httpB from rfl, HQ.out]
          rintro e w2 ⟨rfl, L1⟩
          obtain ⟨j0, j1, j2, j3, i0, i1, i2, i3⟩ := (B1.belowW L1).c4
          have LL := stepW LW L1
          go_wp2
          refine bodyPost_ret (v := .tuple #[tgtV tgt0, .int .i64 8]) (by simp [results, Tryz.results10, go_sem, tgt0, j0, j1, j2, j3]) rfl ⟨by rw [HR.out]; rfl, ?_⟩
          repeat refine setW ?_ (by simp) _
          exact LL
        · have HR := Lib.hid (show parseL m.data.toList s.data.toList = absL X.data.toList by rw [parseL, if_neg E0.out, if_neg HC.out, if_neg HO.out, hP, hQ, hXl]; rfl)
          rw [hQ] at hQe
          have HQ := Lib.hid hQe.symm
          clear hP hQ hQe hPx hX hPl hXl
          go_wp2_with fail
          refine (rSame P _ _ (by omega) (by decide)).mono ?_
          rw [show (⟨#[104, 116, 116, 112, 58, 47, 47]⟩ : ByteArray).data.toList = httpB from rfl, HQ.out]
          rintro e w2 ⟨rfl, L1⟩
          go_wp2_with fail
          refine (ref11_absolute X _ (by omega)).mono ?_
          generalize absL X.data.toList = r at HR
          obtain ⟨t, er⟩ := r
          rw [tgR_mk]
          rintro e w3 ⟨rfl, L2⟩
          obtain ⟨j0, j1, j2, j3, i0, i1, i2, i3⟩ := ((B1.belowW L1).belowW L2).c4
          have LL := stepW (stepW LW L1) L2
          go_wp2
          refine bodyPost_ret (v := .tuple #[tgtV t, .int .i64 er]) (by simp [results, Tryz.results10, go_sem, j0, j1, j2, j3]) rfl ⟨by rw [HR.out]; rfl, ?_⟩
          repeat refine setW ?_ (by simp) _
          exact LL
      · have hQ := npre_low s.data.toList (by have := HL.out; omega)
        have HR := Lib.hid (show parseL m.data.toList s.data.toList = (tgt0, 8) by rw [parseL, if_neg E0.out, if_neg HC.out, if_neg HO.out, hP, hQ]; rfl)
        clear hP hQ
        obtain ⟨j0, j1, j2, j3, i0, i1, i2, i3⟩ := B1.c4
        rcases hz with hz | ⟨hz, hz1⟩
        · go_wp2
          refine bodyPost_ret (v := .tuple #[tgtV tgt0, .int .i64 8]) (by simp [results, Tryz.results10, go_sem, tgt0, j0, j1, j2, j3]) rfl ⟨by rw [HR.out]; rfl, ?_⟩
          repeat refine setW ?_ (by simp) _
          exact LW
        · go_wp2
          refine bodyPost_ret (v := .tuple #[tgtV tgt0, .int .i64 8]) (by simp [results, Tryz.results10, go_sem, tgt0, j0, j1, j2, j3]) rfl ⟨by rw [HR.out]; rfl, ?_⟩
          repeat refine setW ?_ (by simp) _
          exact LW
    · have hpos : 0 < s.size := by
        rcases Nat.eq_zero_or_pos s.size with h | h
        · rw [npre0 s h] at hP; cases hP
        · exact h
      have h47 := pre_bt s hpos hP
      have HR0 := Lib.hid (show parseL m.data.toList s.data.toList = orgR ⟨1, [], [], []⟩ s.data.toList by rw [parseL, if_neg E0.out, if_neg HC.out, if_neg HO.out, if_pos hP])
      clear hP
      go_wp2_with fail
      refine (ref11_origin s W2 (by omega)).mono ?_
      cases hQ : originL s.data.toList with
      | none =>
        have HV := Lib.hid (show parseL m.data.toList s.data.toList = (tgt0, 8) by rw [HR0.out, orgR, hQ])
        have HQ := Lib.hid hQ
        clear hQ
        rintro e w3 ⟨h0, -, L3⟩
        obtain ⟨x, y, rfl⟩ := h0 HQ.out
        obtain ⟨j0, j1, j2, j3, i0, i1, i2, i3⟩ := (B1.belowW L3).c4
        have LL := stepW LW L3
        go_wp2
        refine bodyPost_ret (v := .tuple #[tgtV tgt0, .int .i64 8]) (by simp [results, Tryz.results10, go_sem, tgt0, j0, j1, j2, j3]) rfl ⟨by rw [HV.out]; rfl, ?_⟩
        repeat refine setW ?_ (by simp) _
        exact LL
      | some p =>
        have HV := Lib.hid (show parseL m.data.toList s.data.toList = (⟨1, [], p, sndB 63 s.data.toList⟩, 0) by rw [HR0.out, orgR, hQ])
        have HQ := Lib.hid hQ
        clear hQ
        rintro e w3 ⟨-, h1, L3⟩
        obtain rfl := h1 p HQ.out
        obtain ⟨j0, j1, j2, j3, i0, i1, i2, i3⟩ := (B1.belowW L3).c4
        have LL := stepW LW L3
        go_wp2
        refine bodyPost_ret (v := .tuple #[tgtV ⟨1, [], p, sndB 63 s.data.toList⟩, .int .i64 0]) (by simp [results, Tryz.results10, go_sem, j0, j1, j2, j3]) rfl ⟨by rw [HV.out]; rfl, ?_⟩
        repeat refine setW ?_ (by simp) _
        exact LL
end Go.Proofs.YtfpojnijjpojlaaGreatDoor

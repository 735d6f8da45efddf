/- usherref11: absolute. -/
import Derived.Test.YtfpojnijjpojlaaGreatDoorTRef4
import Derived.Test.YtfpojnijjpojlaaGreatDoorTgt5
namespace Go.Proofs.YtfpojnijjpojlaaGreatDoor
open Go.RowKit
set_option maxRecDepth 100000
set_option maxHeartbeats 2000000

def notSl (b : UInt8) : Bool := b != 47 && b != 63
theorem absH_tw (l : Bs) : absH l = l.takeWhile notSl := by
  unfold absH fstB
  induction l with
  | nil => rfl
  | cons b l ih =>
    by_cases h1 : b = 47
    · subst h1; simp [notSl]
    · by_cases h2 : b = 63
      · subst h2; simp [notSl]
      · have e1 : (b != 47) = true := by simpa using h1
        have e2 : (b != 63) = true := by simpa using h2
        have e3 : notSl b = true := by simp [notSl, h1, h2]
        simp only [List.takeWhile_cons, e1, e2, e3, if_true, ih]
theorem absH_step (l : Bs) (k : Nat) (b : UInt8) (hb : l.drop k = b :: l.drop (k + 1)) (hk : k < l.length) (h : notSl b = true) (h1 : absH l = l.take k ++ absH (l.drop k)) : absH l = l.take (k + 1) ++ absH (l.drop (k + 1)) := by
  have e1 : l[k] = b := by
    have := List.drop_eq_getElem_cons hk
    rw [hb] at this
    exact (List.cons.inj this).1.symm
  rw [h1, hb, List.take_succ_eq_append_getElem hk, e1, absH_tw (b :: _), List.takeWhile_cons, h, if_pos rfl, ← absH_tw]
  simp
theorem absH_stop (l : Bs) (k : Nat) (h : l.drop k = [] ∨ ∃ b r, l.drop k = b :: r ∧ notSl b = false) (h1 : absH l = l.take k ++ absH (l.drop k)) : absH l = l.take k := by
  rw [h1]
  rcases h with h | ⟨b, r, h, hn⟩
  · rw [h]; simp [absH_tw]
  · rw [h, absH_tw, List.takeWhile_cons, hn]; simp
theorem notSl_cases (b : UInt8) : (notSl b = false ∧ (((b.toNat : Int) != 47) = false ∨ (((b.toNat : Int) != 47) = true ∧ ((b.toNat : Int) != 63) = false))) ∨ (notSl b = true ∧ ((b.toNat : Int) != 47) = true ∧ ((b.toNat : Int) != 63) = true) := by
  unfold notSl
  by_cases h1 : b = 47
  · subst h1; exact .inl ⟨rfl, .inl rfl⟩
  · have e1 : ((b.toNat : Int) != 47) = true := by rw [bne_iff_ne]; intro h; exact h1 (u8inj (by simp; omega))
    by_cases h2 : b = 63
    · subst h2; exact .inl ⟨rfl, .inr ⟨e1, rfl⟩⟩
    · have e2 : ((b.toNat : Int) != 63) = true := by rw [bne_iff_ne]; intro h; exact h2 (u8inj (by simp; omega))
      exact .inr ⟨by simp [h1, h2], e1, e2⟩
theorem pre_bt (R : ByteArray) (h : 0 < R.size) (hp : preB [47] R.data.toList = true) : PlainAid.bt R 0 = 47 := by
  obtain ⟨b, hb, hbt⟩ := drop_bt R 0 h
  rw [List.drop_zero] at hb
  rw [hb] at hp
  have : (47 : UInt8) = b := by
    have h1 : ((47 : UInt8) == b && ([] : Bs).isPrefixOf (R.data.toList.drop (0 + 1))) = true := hp
    rw [Bool.and_eq_true] at h1
    exact beq_iff_eq.1 h1.1
  rw [hbt, ← this]; rfl
theorem npre_bt (R : ByteArray) (h : 0 < R.size) (hp : preB [47] R.data.toList = false) : (PlainAid.bt R 0 != 47) = true := by
  obtain ⟨b, hb, hbt⟩ := drop_bt R 0 h
  rw [List.drop_zero] at hb
  rw [hb] at hp
  rw [hbt, bne_iff_ne]
  intro e
  have : b = 47 := u8inj (by simp; omega)
  subst this
  exact absurd hp (by show ¬ (((47 : UInt8) == 47 && ([] : Bs).isPrefixOf (R.data.toList.drop (0 + 1))) = false); simp)
theorem ref11_absolute (s : ByteArray) (w : World) (hs : s.size ≤ 4294967000) :
    Calls Tryz.prog 32 #[.string s] w fun e w' => e = .returned (tgR (absL s.data.toList)) ∧ Below w.heap.size w w' := by
  have LW : Below w.heap.size w (w.alloc (.cells #[.int .i64 0, .string ⟨#[]⟩, .string ⟨#[]⟩, .string ⟨#[]⟩] 23)) := allocW (Below.refl _ _) _
  have B1 : Blk (w.alloc (.cells #[.int .i64 0, .string ⟨#[]⟩, .string ⟨#[]⟩, .string ⟨#[]⟩] 23)) w.heap.size 23 #[.int .i64 0, .string ⟨#[]⟩, .string ⟨#[]⟩, .string ⟨#[]⟩] := Blk.new' _ _ rfl _ _
  go_enter Tryz.func32, Tryz.ntmps32
  go_wp2
  obtain ⟨W2, hW⟩ : ∃ W2, W2 = w.alloc (.cells #[.int .i64 0, .string ⟨#[]⟩, .string ⟨#[]⟩, .string ⟨#[]⟩] 23) := ⟨_, rfl⟩
  rw [← hW] at B1 LW ⊢
  clear hW
  go_loop [4] (fun i => ∃ k : Nat, k ≤ s.size ∧ i = .int .i64 k ∧ Hid (absH s.data.toList = s.data.toList.take k ++ absH (s.data.toList.drop k))) (fun i => s.size - (intOf i).toNat)
  case atStart => exact ⟨0, Nat.zero_le _, rfl, by show absH s.data.toList = _; simp⟩
  case round =>
    obtain ⟨k, hk, rfl, H⟩ := hrel
    by_cases hgo : ∃ b, s.data.toList.drop k = b :: s.data.toList.drop (k + 1) ∧ k < s.size ∧ PlainAid.bt s k = (b.toNat : Int) ∧ notSl b = true
    · obtain ⟨b, hb, hlt, hbt, hh⟩ := hgo
      have hbs := PlainAid.get_bt s
      have hb8 := u8lt b
      have H2 := Lib.hid (absH_step _ k b hb (by rw [len_data]; exact hlt) hh H.out)
      rcases notSl_cases b with ⟨h1, _⟩ | ⟨_, c1, c2⟩
      · rw [hh] at h1; cases h1
      clear hb hh H
      go_wp2
      go_round
      case rel => exact ⟨k + 1, by omega, by go_num, H2⟩
      case measure => simp [intOf]; omega
    · have hst : k = s.size ∨ ∃ b, k < s.size ∧ PlainAid.bt s k = (b.toNat : Int) ∧ s.data.toList.drop k = b :: s.data.toList.drop (k + 1) ∧ notSl b = false := by
        by_cases h : k < s.size
        · obtain ⟨b, hb, hbt⟩ := drop_bt s k h
          refine .inr ⟨b, h, hbt, hb, ?_⟩
          cases hh : notSl b
          · rfl
          · exact absurd ⟨b, hb, h, hbt, hh⟩ hgo
        · exact .inl (by omega)
      have hA := absH_stop _ k (hst.imp (fun h => drop_end s k (by omega)) fun ⟨b, _, _, h3, h4⟩ => ⟨b, _, h3, h4⟩) H.out
      clear hgo H
      obtain ⟨Z, hZ⟩ : ∃ Z, Z = s.extract 0 k := ⟨_, rfl⟩
      obtain ⟨R, hR⟩ : ∃ R, R = s.extract k s.size := ⟨_, rfl⟩
      have hZl : Z.data.toList = absH s.data.toList := by rw [hZ, ext_to, hA]
      have hZs : Z.size = k := by rw [hZ, ext_size _ _ _ (Nat.zero_le _) hk]; omega
      have hRl : R.data.toList = s.data.toList.drop (absH s.data.toList).length := by
        rw [hR, ext_from, ← hZl, len_data, hZs]
      have hRs : R.size = s.size - k := by rw [hR, ext_size _ _ _ hk (Nat.le_refl _)]
      have hRk : R.data.toList = s.data.toList.drop k := by rw [hR, ext_from]
      have HZ := Lib.hid hZl
      have HR := Lib.hid hRl
      have eZ := hZ.symm
      have eR := hR.symm
      have hR2 : ∃ R2 : ByteArray, R2.data.toList = absR s.data.toList ∧ R2.size ≤ s.size + 1 ∧ ((R = ⟨#[]⟩ ∧ R2 = ⟨#[47]⟩) ∨ (0 < R.size ∧ preB [47] R.data.toList = true ∧ R2 = R) ∨ (0 < R.size ∧ preB [47] R.data.toList = false ∧ R2 = ⟨#[47]⟩ ++ R)) := by
        unfold absR
        rw [← HR.out]
        rcases Nat.eq_zero_or_pos R.size with h | h
        · have := empty_size h
          subst this
          exact ⟨⟨#[47]⟩, rfl, by show 1 ≤ _; omega, .inl ⟨rfl, rfl⟩⟩
        · cases hp : preB [47] R.data.toList
          · exact ⟨⟨#[47]⟩ ++ R, by rw [app_data]; simp only [hp]; rfl, by rw [ByteArray.size_append]; show 1 + R.size ≤ _; omega, .inr (.inr ⟨h, rfl, rfl⟩)⟩
          · exact ⟨R, by simp only [hp]; rfl, by omega, .inr (.inl ⟨h, rfl, rfl⟩)⟩
      obtain ⟨R2, hR2l, hR2s, hR2c⟩ := hR2
      have HR2 := Lib.hid hR2l
      have HA := Lib.hid hA
      clear hZ hR hZl hRl hR2l hA
      have hsm : Z.size ≤ 140737488355328 := by omega
      have stopfacts : (k = s.size) ∨ ∃ b : UInt8, k < s.size ∧ PlainAid.bt s k = (b.toNat : Int) ∧ (((b.toNat : Int) != 47) = false ∨ (((b.toNat : Int) != 47) = true ∧ ((b.toNat : Int) != 63) = false)) := by
        rcases hst with h | ⟨b, h, hbt, _, hn⟩
        · exact .inl h
        · refine .inr ⟨b, h, hbt, ?_⟩
          rcases notSl_cases b with ⟨_, h2⟩ | ⟨h1, _⟩
          · exact h2
          · rw [hn] at h1; cases h1
      clear hst
      have hbs := PlainAid.get_bt s
      have orgC := fun (hR2z : R2.size < 4294967281) => ref11_origin R2 W2 hR2z
      rw [HR2.out] at orgC
      clear hRk
      rcases stopfacts with hks | ⟨b, hlt, hbt, hbf⟩
      · subst hks
        go_wp2_with fail
        refine (ref11_Host Z _ (by unfold maxLen; omega)).mono ?_
        rw [HZ.out]
        cases hH : hostL (absH s.data.toList)
        · have HV := Lib.hid (show absL s.data.toList = (tgt0, 8) by rw [absL, hH]; rfl)
          obtain ⟨j0, j1, j2, j3, i0, i1, i2, i3⟩ := B1.c4
          clear hH
          rintro e w1 ⟨rfl, rfl⟩
          go_wp2
          refine bodyPost_ret (v := .tuple #[tgtV tgt0, .int .i64 8]) (by simp [results, Tryz.results32, go_sem, tgt0, j0, j1, j2, j3]) rfl ⟨by rw [HV.out]; rfl, ?_⟩
          repeat refine setW ?_ (by simp) _
          exact LW
        · have HV0 := Lib.hid (show absL s.data.toList = orgR ⟨2, lowL Z.data.toList, [], []⟩ (absR s.data.toList) by rw [absL, hH, if_pos rfl, HZ.out])
          clear hH
          rintro e w1 ⟨rfl, rfl⟩
          rcases hR2c with ⟨hr, hr2⟩ | ⟨h, -, -⟩ | ⟨h, -, -⟩
          · subst hr2
            go_wp2_with fail
            refine (orgC (by omega)).mono ?_
            cases hO : originL (absR s.data.toList) with
            | none =>
              have HV := Lib.hid (show absL s.data.toList = (tgt0, 8) by rw [HV0.out, orgR, hO])
              have HO := Lib.hid hO
              clear hO
              rintro e w3 ⟨h0, -, L3⟩
              obtain ⟨x, y, rfl⟩ := h0 HO.out
              obtain ⟨j0, j1, j2, j3, i0, i1, i2, i3⟩ := (B1.belowW L3).c4
              have LL := stepW LW L3
              go_wp2
              refine bodyPost_ret (v := .tuple #[tgtV tgt0, .int .i64 8]) (by simp [results, Tryz.results32, go_sem, tgt0, j0, j1, j2, j3]) rfl ⟨by rw [HV.out]; rfl, ?_⟩
              repeat refine setW ?_ (by simp) _
              exact LL
            | some p =>
              have HV := Lib.hid (show absL s.data.toList = (⟨2, lowL Z.data.toList, p, sndB 63 (absR s.data.toList)⟩, 0) by rw [HV0.out, orgR, hO])
              have HO := Lib.hid hO
              clear hO
              rintro e w3 ⟨-, h1, L3⟩
              obtain rfl := h1 p HO.out
              go_wp2_with fail
              refine (ref_LowerS Z _ hsm).mono ?_
              rintro e w4 ⟨rfl, L4⟩
              obtain ⟨j0, j1, j2, j3, i0, i1, i2, i3⟩ := ((B1.belowW L3).belowW L4).c4
              have LL := stepW (stepW LW L3) L4
              go_wp2
              refine bodyPost_ret (v := .tuple #[tgtV ⟨2, lowL Z.data.toList, p, sndB 63 (absR s.data.toList)⟩, .int .i64 0]) (by simp [results, Tryz.results32, go_sem, j0, j1, j2, j3]) rfl ⟨by rw [HV.out]; rfl, ?_⟩
              repeat refine setW ?_ (by simp) _
              exact LL
          · omega
          · omega
      · have hb8 := u8lt b
        rcases hbf with c1 | ⟨c1, c2⟩
        · go_wp2_with fail
          refine (ref11_Host Z _ (by unfold maxLen; omega)).mono ?_
          rw [HZ.out]
          cases hH : hostL (absH s.data.toList)
          · have HV := Lib.hid (show absL s.data.toList = (tgt0, 8) by rw [absL, hH]; rfl)
            obtain ⟨j0, j1, j2, j3, i0, i1, i2, i3⟩ := B1.c4
            clear hH
            rintro e w1 ⟨rfl, rfl⟩
            go_wp2
            refine bodyPost_ret (v := .tuple #[tgtV tgt0, .int .i64 8]) (by simp [results, Tryz.results32, go_sem, tgt0, j0, j1, j2, j3]) rfl ⟨by rw [HV.out]; rfl, ?_⟩
            repeat refine setW ?_ (by simp) _
            exact LW
          · have HV0 := Lib.hid (show absL s.data.toList = orgR ⟨2, lowL Z.data.toList, [], []⟩ (absR s.data.toList) by rw [absL, hH, if_pos rfl, HZ.out])
            clear hH
            rintro e w1 ⟨rfl, rfl⟩
            rcases hR2c with ⟨hr, hr2⟩ | ⟨h, hp, hr2⟩ | ⟨h, hp, hr2⟩
            · exfalso
              have : R.size = 0 := by rw [hr]; rfl
              omega
            · subst hr2
              have hne := ne_isEmpty h
              have hRb := PlainAid.get_bt R2
              have hR0 : PlainAid.bt R2 0 = 47 := pre_bt R2 h hp
              go_wp2_with fail
              refine (orgC (by omega)).mono ?_
              cases hO : originL (absR s.data.toList) with
              | none =>
                have HV := Lib.hid (show absL s.data.toList = (tgt0, 8) by rw [HV0.out, orgR, hO])
                have HO := Lib.hid hO
                clear hO
                rintro e w3 ⟨h0, -, L3⟩
                obtain ⟨x, y, rfl⟩ := h0 HO.out
                obtain ⟨j0, j1, j2, j3, i0, i1, i2, i3⟩ := (B1.belowW L3).c4
                have LL := stepW LW L3
                go_wp2
                refine bodyPost_ret (v := .tuple #[tgtV tgt0, .int .i64 8]) (by simp [results, Tryz.results32, go_sem, tgt0, j0, j1, j2, j3]) rfl ⟨by rw [HV.out]; rfl, ?_⟩
                repeat refine setW ?_ (by simp) _
                exact LL
              | some p =>
                have HV := Lib.hid (show absL s.data.toList = (⟨2, lowL Z.data.toList, p, sndB 63 (absR s.data.toList)⟩, 0) by rw [HV0.out, orgR, hO])
                have HO := Lib.hid hO
                clear hO
                rintro e w3 ⟨-, h1, L3⟩
                obtain rfl := h1 p HO.out
                go_wp2_with fail
                refine (ref_LowerS Z _ hsm).mono ?_
                rintro e w4 ⟨rfl, L4⟩
                obtain ⟨j0, j1, j2, j3, i0, i1, i2, i3⟩ := ((B1.belowW L3).belowW L4).c4
                have LL := stepW (stepW LW L3) L4
                go_wp2
                refine bodyPost_ret (v := .tuple #[tgtV ⟨2, lowL Z.data.toList, p, sndB 63 (absR s.data.toList)⟩, .int .i64 0]) (by simp [results, Tryz.results32, go_sem, j0, j1, j2, j3]) rfl ⟨by rw [HV.out]; rfl, ?_⟩
                repeat refine setW ?_ (by simp) _
                exact LL
            · have hne := ne_isEmpty h
              have hRb := PlainAid.get_bt R
              have hR0 := npre_bt R h hp
              have eR2 := hr2.symm
              clear hr2
              go_wp2_with fail
              refine (orgC (by omega)).mono ?_
              cases hO : originL (absR s.data.toList) with
              | none =>
                have HV := Lib.hid (show absL s.data.toList = (tgt0, 8) by rw [HV0.out, orgR, hO])
                have HO := Lib.hid hO
                clear hO
                rintro e w3 ⟨h0, -, L3⟩
                obtain ⟨x, y, rfl⟩ := h0 HO.out
                obtain ⟨j0, j1, j2, j3, i0, i1, i2, i3⟩ := (B1.belowW L3).c4
                have LL := stepW LW L3
                go_wp2
                refine bodyPost_ret (v := .tuple #[tgtV tgt0, .int .i64 8]) (by simp [results, Tryz.results32, go_sem, tgt0, j0, j1, j2, j3]) rfl ⟨by rw [HV.out]; rfl, ?_⟩
                repeat refine setW ?_ (by simp) _
                exact LL
              | some p =>
                have HV := Lib.hid (show absL s.data.toList = (⟨2, lowL Z.data.toList, p, sndB 63 (absR s.data.toList)⟩, 0) by rw [HV0.out, orgR, hO])
                have HO := Lib.hid hO
                clear hO
                rintro e w3 ⟨-, h1, L3⟩
                obtain rfl := h1 p HO.out
                go_wp2_with fail
                refine (ref_LowerS Z _ hsm).mono ?_
                rintro e w4 ⟨rfl, L4⟩
                obtain ⟨j0, j1, j2, j3, i0, i1, i2, i3⟩ := ((B1.belowW L3).belowW L4).c4
                have LL := stepW (stepW LW L3) L4
                go_wp2
                refine bodyPost_ret (v := .tuple #[tgtV ⟨2, lowL Z.data.toList, p, sndB 63 (absR s.data.toList)⟩, .int .i64 0]) (by simp [results, Tryz.results32, go_sem, j0, j1, j2, j3]) rfl ⟨by rw [HV.out]; rfl, ?_⟩
                repeat refine setW ?_ (by simp) _
                exact LL
        · go_wp2_with fail
          refine (ref11_Host Z _ (by unfold maxLen; omega)).mono ?_
          rw [HZ.out]
          cases hH : hostL (absH s.data.toList)
          · have HV := Lib.hid (show absL s.data.toList = (tgt0, 8) by rw [absL, hH]; rfl)
            obtain ⟨j0, j1, j2, j3, i0, i1, i2, i3⟩ := B1.c4
            clear hH
            rintro e w1 ⟨rfl, rfl⟩
            go_wp2
            refine bodyPost_ret (v := .tuple #[tgtV tgt0, .int .i64 8]) (by simp [results, Tryz.results32, go_sem, tgt0, j0, j1, j2, j3]) rfl ⟨by rw [HV.out]; rfl, ?_⟩
            repeat refine setW ?_ (by simp) _
            exact LW
          · have HV0 := Lib.hid (show absL s.data.toList = orgR ⟨2, lowL Z.data.toList, [], []⟩ (absR s.data.toList) by rw [absL, hH, if_pos rfl, HZ.out])
            clear hH
            rintro e w1 ⟨rfl, rfl⟩
            rcases hR2c with ⟨hr, hr2⟩ | ⟨h, hp, hr2⟩ | ⟨h, hp, hr2⟩
            · exfalso
              have : R.size = 0 := by rw [hr]; rfl
              omega
            · subst hr2
              have hne := ne_isEmpty h
              have hRb := PlainAid.get_bt R2
              have hR0 : PlainAid.bt R2 0 = 47 := pre_bt R2 h hp
              go_wp2_with fail
              refine (orgC (by omega)).mono ?_
              cases hO : originL (absR s.data.toList) with
              | none =>
                have HV := Lib.hid (show absL s.data.toList = (tgt0, 8) by rw [HV0.out, orgR, hO])
                have HO := Lib.hid hO
                clear hO
                rintro e w3 ⟨h0, -, L3⟩
                obtain ⟨x, y, rfl⟩ := h0 HO.out
                obtain ⟨j0, j1, j2, j3, i0, i1, i2, i3⟩ := (B1.belowW L3).c4
                have LL := stepW LW L3
                go_wp2
                refine bodyPost_ret (v := .tuple #[tgtV tgt0, .int .i64 8]) (by simp [results, Tryz.results32, go_sem, tgt0, j0, j1, j2, j3]) rfl ⟨by rw [HV.out]; rfl, ?_⟩
                repeat refine setW ?_ (by simp) _
                exact LL
              | some p =>
                have HV := Lib.hid (show absL s.data.toList = (⟨2, lowL Z.data.toList, p, sndB 63 (absR s.data.toList)⟩, 0) by rw [HV0.out, orgR, hO])
                have HO := Lib.hid hO
                clear hO
                rintro e w3 ⟨-, h1, L3⟩
                obtain rfl := h1 p HO.out
                go_wp2_with fail
                refine (ref_LowerS Z _ hsm).mono ?_
                rintro e w4 ⟨rfl, L4⟩
                obtain ⟨j0, j1, j2, j3, i0, i1, i2, i3⟩ := ((B1.belowW L3).belowW L4).c4
                have LL := stepW (stepW LW L3) L4
                go_wp2
                refine bodyPost_ret (v := .tuple #[tgtV ⟨2, lowL Z.data.toList, p, sndB 63 (absR s.data.toList)⟩, .int .i64 0]) (by simp [results, Tryz.results32, go_sem, j0, j1, j2, j3]) rfl ⟨by rw [HV.out]; rfl, ?_⟩
                repeat refine setW ?_ (by simp) _
                exact LL
            · have hne := ne_isEmpty h
              have hRb := PlainAid.get_bt R
              have hR0 := npre_bt R h hp
              have eR2 := hr2.symm
              clear hr2
              go_wp2_with fail
              refine (orgC (by omega)).mono ?_
              cases hO : originL (absR s.data.toList) with
              | none =>
                have HV := Lib.hid (show absL s.data.toList = (tgt0, 8) by rw [HV0.out, orgR, hO])
                have HO := Lib.hid hO
                clear hO
                rintro e w3 ⟨h0, -, L3⟩
                obtain ⟨x, y, rfl⟩ := h0 HO.out
                obtain ⟨j0, j1, j2, j3, i0, i1, i2, i3⟩ := (B1.belowW L3).c4
                have LL := stepW LW L3
                go_wp2
                refine bodyPost_ret (v := .tuple #[tgtV tgt0, .int .i64 8]) (by simp [results, Tryz.results32, go_sem, tgt0, j0, j1, j2, j3]) rfl ⟨by rw [HV.out]; rfl, ?_⟩
                repeat refine setW ?_ (by simp) _
                exact LL
              | some p =>
                have HV := Lib.hid (show absL s.data.toList = (⟨2, lowL Z.data.toList, p, sndB 63 (absR s.data.toList)⟩, 0) by rw [HV0.out, orgR, hO])
                have HO := Lib.hid hO
                clear hO
                rintro e w3 ⟨-, h1, L3⟩
                obtain rfl := h1 p HO.out
                go_wp2_with fail
                refine (ref_LowerS Z _ hsm).mono ?_
                rintro e w4 ⟨rfl, L4⟩
                obtain ⟨j0, j1, j2, j3, i0, i1, i2, i3⟩ := ((B1.belowW L3).belowW L4).c4
                have LL := stepW (stepW LW L3) L4
                go_wp2
                refine bodyPost_ret (v := .tuple #[tgtV ⟨2, lowL Z.data.toList, p, sndB 63 (absR s.data.toList)⟩, .int .i64 0]) (by simp [results, Tryz.results32, go_sem, j0, j1, j2, j3]) rfl ⟨by rw [HV.out]; rfl, ?_⟩
                repeat refine setW ?_ (by simp) _
                exact LL
end Go.Proofs.YtfpojnijjpojlaaGreatDoor

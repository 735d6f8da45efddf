/- usherref11: absolute. usherref11.Parse. usherref11.path. usherref11.Print. -/
import Derived.Test.YtlambdccmfnloaaGreatDoorTRef
import Derived.Test.YtlambdccmfnloaaGreatDoorTgt5
import Derived.Test.YtlambdccmfnloaaGreatDoorBuild
import Derived.Deep.RegionLaw
import Derived.Test.YtlambdccmfnloaaGreatDoorTEq
import Derived.Deep.CutBlock
namespace Go.Proofs.YtlambdccmfnloaaGreatDoor
open Go.RowKit
set_option maxRecDepth 100000
set_option maxHeartbeats 2000000

def notSl (b : UInt8) : Bool := b != 47 && b != 63
theorem absH_tw (l : Bs) : absH l = l.takeWhile notSl := by
  unfold absH fstB
  induction l with
  | nil => rfl
  | cons b l ih =>
    by_cases h1 : b = 47
    · subst h1; simp [notSl]
    · by_cases h2 : b = 63
      · subst h2; simp [notSl]
      · have e1 : (b != 47) = true := by simpa using h1
        have e2 : (b != 63) = true := by simpa using h2
        have e3 : notSl b = true := by simp [notSl, h1, h2]
        simp only [List.takeWhile_cons, e1, e2, e3, if_true, ih]
theorem absH_step (l : Bs) (k : Nat) (b : UInt8) (hb : l.drop k = b :: l.drop (k + 1)) (hk : k < l.length) (h : notSl b = true) (h1 : absH l = l.take k ++ absH (l.drop k)) : absH l = l.take (k + 1) ++ absH (l.drop (k + 1)) := by
  have e1 : l[k] = b := by
    have := List.drop_eq_getElem_cons hk
    rw [hb] at this
    exact (List.cons.inj this).1.symm
  rw [h1, hb, List.take_succ_eq_append_getElem hk, e1, absH_tw (b :: _), List.takeWhile_cons, h, if_pos rfl, ← absH_tw]
  simp
theorem absH_stop (l : Bs) (k : Nat) (h : l.drop k = [] ∨ ∃ b r, l.drop k = b :: r ∧ notSl b = false) (h1 : absH l = l.take k ++ absH (l.drop k)) : absH l = l.take k := by
  rw [h1]
  rcases h with h | ⟨b, r, h, hn⟩
  · rw [h]; simp [absH_tw]
  · rw [h, absH_tw, List.takeWhile_cons, hn]; simp
theorem notSl_cases (b : UInt8) : (notSl b = false ∧ (((b.toNat : Int) != 47) = false ∨ (((b.toNat : Int) != 47) = true ∧ ((b.toNat : Int) != 63) = false))) ∨ (notSl b = true ∧ ((b.toNat : Int) != 47) = true ∧ ((b.toNat : Int) != 63) = true) := by
  unfold notSl
  by_cases h1 : b = 47
  · subst h1; exact .inl ⟨rfl, .inl rfl⟩
  · have e1 : ((b.toNat : Int) != 47) = true := by rw [bne_iff_ne]; intro h; exact h1 (u8inj (by simp; omega))
    by_cases h2 : b = 63
    · subst h2; exact .inl ⟨rfl, .inr ⟨e1, rfl⟩⟩
    · have e2 : ((b.toNat : Int) != 63) = true := by rw [bne_iff_ne]; intro h; exact h2 (u8inj (by simp; omega))
      exact .inr ⟨by simp [h1, h2], e1, e2⟩
theorem pre_bt (R : ByteArray) (h : 0 < R.size) (hp : preB [47] R.data.toList = true) : PlainAid.bt R 0 = 47 := by
  obtain ⟨b, hb, hbt⟩ := drop_bt R 0 h
  rw [List.drop_zero] at hb
  rw [hb] at hp
  have : (47 : UInt8) = b := by
    have h1 : ((47 : UInt8) == b && ([] : Bs).isPrefixOf (R.data.toList.drop (0 + 1))) = true := hp
    rw [Bool.and_eq_true] at h1
    exact beq_iff_eq.1 h1.1
  rw [hbt, ← this]; rfl
theorem npre_bt (R : ByteArray) (h : 0 < R.size) (hp : preB [47] R.data.toList = false) : (PlainAid.bt R 0 != 47) = true := by
  obtain ⟨b, hb, hbt⟩ := drop_bt R 0 h
  rw [List.drop_zero] at hb
  rw [hb] at hp
  rw [hbt, bne_iff_ne]
  intro e
  have : b = 47 := u8inj (by simp; omega)
  subst this
  exact absurd hp (by show ¬ (((47 : UInt8) == 47 && ([] : Bs).isPrefixOf (R.data.toList.drop (0 + 1))) = false); simp)
theorem ref11_absolute (s : ByteArray) (w : World) (hs : s.size ≤ 4294967000) :
    Calls Tryz.prog 136 #[.string s] w fun e w' => e = .returned (tgR (absL s.data.toList)) ∧ Below w.heap.size w w' := by
  have LW : Below w.heap.size w (w.alloc (.cells #[.int .i64 0, .string ⟨#[]⟩, .string ⟨#[]⟩, .string ⟨#[]⟩] 23)) := allocW (Below.refl _ _) _
  have B1 : Blk (w.alloc (.cells #[.int .i64 0, .string ⟨#[]⟩, .string ⟨#[]⟩, .string ⟨#[]⟩] 23)) w.heap.size 23 #[.int .i64 0, .string ⟨#[]⟩, .string ⟨#[]⟩, .string ⟨#[]⟩] := Blk.new' _ _ rfl _ _
  go_enter Tryz.func136, Tryz.ntmps136
  go_wp2
  obtain ⟨W2, hW⟩ : ∃ W2, W2 = w.alloc (.cells #[.int .i64 0, .string ⟨#[]⟩, .string ⟨#[]⟩, .string ⟨#[]⟩] 23) := ⟨_, rfl⟩
  rw [← hW] at B1 LW ⊢
  clear hW
  go_loop [4] (fun i => ∃ k : Nat, k ≤ s.size ∧ i = .int .i64 k ∧ Hid (absH s.data.toList = s.data.toList.take k ++ absH (s.data.toList.drop k))) (fun i => s.size - (intOf i).toNat)
  case atStart => exact ⟨0, Nat.zero_le _, rfl, by show absH s.data.toList = _; simp⟩
  case round =>
    obtain ⟨k, hk, rfl, H⟩ := hrel
    by_cases hgo : ∃ b, s.data.toList.drop k = b :: s.data.toList.drop (k + 1) ∧ k < s.size ∧ PlainAid.bt s k = (b.toNat : Int) ∧ notSl b = true
    · obtain ⟨b, hb, hlt, hbt, hh⟩ := hgo
      have hbs := PlainAid.get_bt s
      have hb8 := u8lt b
      have H2 := Lib.hid (absH_step _ k b hb (by rw [len_data]; exact hlt) hh H.out)
      rcases notSl_cases b with ⟨h1, _⟩ | ⟨_, c1, c2⟩
      · rw [hh] at h1; cases h1
      clear hb hh H
      go_wp2
      go_round
      case rel => exact ⟨k + 1, by omega, by go_num, H2⟩
      case measure => simp [intOf]; omega
    · have hst : k = s.size ∨ ∃ b, k < s.size ∧ PlainAid.bt s k = (b.toNat : Int) ∧ s.data.toList.drop k = b :: s.data.toList.drop (k + 1) ∧ notSl b = false := by
        by_cases h : k < s.size
        · obtain ⟨b, hb, hbt⟩ := drop_bt s k h
          refine .inr ⟨b, h, hbt, hb, ?_⟩
          cases hh : notSl b
          · rfl
          · exact absurd ⟨b, hb, h, hbt, hh⟩ hgo
        · exact .inl (by omega)
      have hA := absH_stop _ k (hst.imp (fun h => drop_end s k (by omega)) fun ⟨b, _, _, h3, h4⟩ => ⟨b, _, h3, h4⟩) H.out
      clear hgo H
      obtain ⟨Z, hZ⟩ : ∃ Z, Z = s.extract 0 k := ⟨_, rfl⟩
      obtain ⟨R, hR⟩ : ∃ R, R = s.extract k s.size := ⟨_, rfl⟩
      have hZl : Z.data.toList = absH s.data.toList := by rw [hZ, ext_to, hA]
      have hZs : Z.size = k := by rw [hZ, ext_size _ _ _ (Nat.zero_le _) hk]; omega
      have hRl : R.data.toList = s.data.toList.drop (absH s.data.toList).length := by
        rw [hR, ext_from, ← hZl, len_data, hZs]
      have hRs : R.size = s.size - k := by rw [hR, ext_size _ _ _ hk (Nat.le_refl _)]
      have hRk : R.data.toList = s.data.toList.drop k := by rw [hR, ext_from]
      have HZ := Lib.hid hZl
      have HR := Lib.hid hRl
      have eZ := hZ.symm
      have eR := hR.symm
      have hR2 : ∃ R2 : ByteArray, R2.data.toList = absR s.data.toList ∧ R2.size ≤ s.size + 1 ∧ ((R = ⟨#[]⟩ ∧ R2 = ⟨#[47]⟩) ∨ (0 < R.size ∧ preB [47] R.data.toList = true ∧ R2 = R) ∨ (0 < R.size ∧ preB [47] R.data.toList = false ∧ R2 = ⟨#[47]⟩ ++ R)) := by
        unfold absR
        rw [← HR.out]
        rcases Nat.eq_zero_or_pos R.size with h | h
        · have := empty_size h
          subst this
          exact ⟨⟨#[47]⟩, rfl, by show 1 ≤ _; omega, .inl ⟨rfl, rfl⟩⟩
        · cases hp : preB [47] R.data.toList
          · exact ⟨⟨#[47]⟩ ++ R, by rw [app_data]; simp only [hp]; rfl, by rw [ByteArray.size_append]; show 1 + R.size ≤ _; omega, .inr (.inr ⟨h, rfl, rfl⟩)⟩
          · exact ⟨R, by simp only [hp]; rfl, by omega, .inr (.inl ⟨h, rfl, rfl⟩)⟩
      obtain ⟨R2, hR2l, hR2s, hR2c⟩ := hR2
      have HR2 := Lib.hid hR2l
      have HA := Lib.hid hA
      clear hZ hR hZl hRl hR2l hA
      have hsm : Z.size ≤ 140737488355328 := by omega
      have stopfacts : (k = s.size) ∨ ∃ b : UInt8, k < s.size ∧ PlainAid.bt s k = (b.toNat : Int) ∧ (((b.toNat : Int) != 47) = false ∨ (((b.toNat : Int) != 47) = true ∧ ((b.toNat : Int) != 63) = false)) := by
        rcases hst with h | ⟨b, h, hbt, _, hn⟩
        · exact .inl h
        · refine .inr ⟨b, h, hbt, ?_⟩
          rcases notSl_cases b with ⟨_, h2⟩ | ⟨h1, _⟩
          · exact h2
          · rw [hn] at h1; cases h1
      clear hst
      have hbs := PlainAid.get_bt s
      have orgC := fun (hR2z : R2.size < 4294967281) => ref11_origin R2 W2 hR2z
      rw [HR2.out] at orgC
      clear hRk
      rcases stopfacts with hks | ⟨b, hlt, hbt, hbf⟩
      · subst hks
        go_wp2_with fail
        refine (ref11_Host Z _ (by unfold maxLen; omega)).mono ?_
        rw [HZ.out]
        cases hH : hostL (absH s.data.toList)
        · have HV := Lib.hid (show absL s.data.toList = (tgt0, 8) by rw [absL, hH]; rfl)
          obtain ⟨j0, j1, j2, j3, i0, i1, i2, i3⟩ := B1.c4
          clear hH
          rintro e w1 ⟨rfl, rfl⟩
          go_wp2
          refine bodyPost_ret (v := .tuple #[tgtV tgt0, .int .i64 8]) (by simp [results, Tryz.results136, go_sem, tgt0, j0, j1, j2, j3]) rfl ⟨by rw [HV.out]; rfl, ?_⟩
          repeat refine setW ?_ (by simp) _
          exact LW
        · have HV0 := Lib.hid (show absL s.data.toList = orgR ⟨2, lowL Z.data.toList, [], []⟩ (absR s.data.toList) by rw [absL, hH, if_pos rfl, HZ.out])
          clear hH
          rintro e w1 ⟨rfl, rfl⟩
          rcases hR2c with ⟨hr, hr2⟩ | ⟨h, -, -⟩ | ⟨h, -, -⟩
          · subst hr2
            go_wp2_with fail
            refine (orgC (by omega)).mono ?_
            cases hO : originL (absR s.data.toList) with
            | none =>
              have HV := Lib.hid (show absL s.data.toList = (tgt0, 8) by rw [HV0.out, orgR, hO])
              have HO := Lib.hid hO
              clear hO
              rintro e w3 ⟨h0, -, L3⟩
              obtain ⟨x, y, rfl⟩ := h0 HO.out
              obtain ⟨j0, j1, j2, j3, i0, i1, i2, i3⟩ := (B1.belowW L3).c4
              have LL := stepW LW L3
              go_wp2
              refine bodyPost_ret (v := .tuple #[tgtV tgt0, .int .i64 8]) (by simp [results, Tryz.results136, go_sem, tgt0, j0, j1, j2, j3]) rfl ⟨by rw [HV.out]; rfl, ?_⟩
              repeat refine setW ?_ (by simp) _
              exact LL
            | some p =>
              have HV := Lib.hid (show absL s.data.toList = (⟨2, lowL Z.data.toList, p, sndB 63 (absR s.data.toList)⟩, 0) by rw [HV0.out, orgR, hO])
              have HO := Lib.hid hO
              clear hO
              rintro e w3 ⟨-, h1, L3⟩
              obtain rfl := h1 p HO.out
              go_wp2_with fail
              refine (ref_LowerS Z _ hsm).mono ?_
              rintro e w4 ⟨rfl, L4⟩
              obtain ⟨j0, j1, j2, j3, i0, i1, i2, i3⟩ := ((B1.belowW L3).belowW L4).c4
              have LL := stepW (stepW LW L3) L4
              go_wp2
              refine bodyPost_ret (v := .tuple #[tgtV ⟨2, lowL Z.data.toList, p, sndB 63 (absR s.data.toList)⟩, .int .i64 0]) (by simp [results, Tryz.results136, go_sem, j0, j1, j2, j3]) rfl ⟨by rw [HV.out]; rfl, ?_⟩
              repeat refine setW ?_ (by simp) _
              exact LL
          · omega
          · omega
      · have hb8 := u8lt b
        rcases hbf with c1 | ⟨c1, c2⟩
        · go_wp2_with fail
          refine (ref11_Host Z _ (by unfold maxLen; omega)).mono ?_
          rw [HZ.out]
          cases hH : hostL (absH s.data.toList)
          · have HV := Lib.hid (show absL s.data.toList = (tgt0, 8) by rw [absL, hH]; rfl)
            obtain ⟨j0, j1, j2, j3, i0, i1, i2, i3⟩ := B1.c4
            clear hH
            rintro e w1 ⟨rfl, rfl⟩
            go_wp2
            refine bodyPost_ret (v := .tuple #[tgtV tgt0, .int .i64 8]) (by simp [results, Tryz.results136, go_sem, tgt0, j0, j1, j2, j3]) rfl ⟨by rw [HV.out]; rfl, ?_⟩
            repeat refine setW ?_ (by simp) _
            exact LW
          · have HV0 := Lib.hid (show absL s.data.toList = orgR ⟨2, lowL Z.data.toList, [], []⟩ (absR s.data.toList) by rw [absL, hH, if_pos rfl, HZ.out])
            clear hH
            rintro e w1 ⟨rfl, rfl⟩
            rcases hR2c with ⟨hr, hr2⟩ | ⟨h, hp, hr2⟩ | ⟨h, hp, hr2⟩
            · exfalso
              have : R.size = 0 := by rw [hr]; rfl
              omega
            · subst hr2
              have hne := ne_isEmpty h
              have hRb := PlainAid.get_bt R2
              have hR0 : PlainAid.bt R2 0 = 47 := pre_bt R2 h hp
              go_wp2_with fail
              refine (orgC (by omega)).mono ?_
              cases hO : originL (absR s.data.toList) with
              | none =>
                have HV := Lib.hid (show absL s.data.toList = (tgt0, 8) by rw [HV0.out, orgR, hO])
                have HO := Lib.hid hO
                clear hO
                rintro e w3 ⟨h0, -, L3⟩
                obtain ⟨x, y, rfl⟩ := h0 HO.out
                obtain ⟨j0, j1, j2, j3, i0, i1, i2, i3⟩ := (B1.belowW L3).c4
                have LL := stepW LW L3
                go_wp2
                refine bodyPost_ret (v := .tuple #[tgtV tgt0, .int .i64 8]) (by simp [results, Tryz.results136, go_sem, tgt0, j0, j1, j2, j3]) rfl ⟨by rw [HV.out]; rfl, ?_⟩
                repeat refine setW ?_ (by simp) _
                exact LL
              | some p =>
                have HV := Lib.hid (show absL s.data.toList = (⟨2, lowL Z.data.toList, p, sndB 63 (absR s.data.toList)⟩, 0) by rw [HV0.out, orgR, hO])
                have HO := Lib.hid hO
                clear hO
                rintro e w3 ⟨-, h1, L3⟩
                obtain rfl := h1 p HO.out
                go_wp2_with fail
                refine (ref_LowerS Z _ hsm).mono ?_
                rintro e w4 ⟨rfl, L4⟩
                obtain ⟨j0, j1, j2, j3, i0, i1, i2, i3⟩ := ((B1.belowW L3).belowW L4).c4
                have LL := stepW (stepW LW L3) L4
                go_wp2
                refine bodyPost_ret (v := .tuple #[tgtV ⟨2, lowL Z.data.toList, p, sndB 63 (absR s.data.toList)⟩, .int .i64 0]) (by simp [results, Tryz.results136, go_sem, j0, j1, j2, j3]) rfl ⟨by rw [HV.out]; rfl, ?_⟩
                repeat refine setW ?_ (by simp) _
                exact LL
            · have hne := ne_isEmpty h
              have hRb := PlainAid.get_bt R
              have hR0 := npre_bt R h hp
              have eR2 := hr2.symm
              clear hr2
              go_wp2_with fail
              refine (orgC (by omega)).mono ?_
              cases hO : originL (absR s.data.toList) with
              | none =>
                have HV := Lib.hid (show absL s.data.toList = (tgt0, 8) by rw [HV0.out, orgR, hO])
                have HO := Lib.hid hO
                clear hO
                rintro e w3 ⟨h0, -, L3⟩
                obtain ⟨x, y, rfl⟩ := h0 HO.out
                obtain ⟨j0, j1, j2, j3, i0, i1, i2, i3⟩ := (B1.belowW L3).c4
                have LL := stepW LW L3
                go_wp2
                refine bodyPost_ret (v := .tuple #[tgtV tgt0, .int .i64 8]) (by simp [results, Tryz.results136, go_sem, tgt0, j0, j1, j2, j3]) rfl ⟨by rw [HV.out]; rfl, ?_⟩
                repeat refine setW ?_ (by simp) _
                exact LL
              | some p =>
                have HV := Lib.hid (show absL s.data.toList = (⟨2, lowL Z.data.toList, p, sndB 63 (absR s.data.toList)⟩, 0) by rw [HV0.out, orgR, hO])
                have HO := Lib.hid hO
                clear hO
                rintro e w3 ⟨-, h1, L3⟩
                obtain rfl := h1 p HO.out
                go_wp2_with fail
                refine (ref_LowerS Z _ hsm).mono ?_
                rintro e w4 ⟨rfl, L4⟩
                obtain ⟨j0, j1, j2, j3, i0, i1, i2, i3⟩ := ((B1.belowW L3).belowW L4).c4
                have LL := stepW (stepW LW L3) L4
                go_wp2
                refine bodyPost_ret (v := .tuple #[tgtV ⟨2, lowL Z.data.toList, p, sndB 63 (absR s.data.toList)⟩, .int .i64 0]) (by simp [results, Tryz.results136, go_sem, j0, j1, j2, j3]) rfl ⟨by rw [HV.out]; rfl, ?_⟩
                repeat refine setW ?_ (by simp) _
                exact LL
        · go_wp2_with fail
          refine (ref11_Host Z _ (by unfold maxLen; omega)).mono ?_
          rw [HZ.out]
          cases hH : hostL (absH s.data.toList)
          · have HV := Lib.hid (show absL s.data.toList = (tgt0, 8) by rw [absL, hH]; rfl)
            obtain ⟨j0, j1, j2, j3, i0, i1, i2, i3⟩ := B1.c4
            clear hH
            rintro e w1 ⟨rfl, rfl⟩
            go_wp2
            refine bodyPost_ret (v := .tuple #[tgtV tgt0, .int .i64 8]) (by simp [results, Tryz.results136, go_sem, tgt0, j0, j1, j2, j3]) rfl ⟨by rw [HV.out]; rfl, ?_⟩
            repeat refine setW ?_ (by simp) _
            exact LW
          · have HV0 := Lib.hid (show absL s.data.toList = orgR ⟨2, lowL Z.data.toList, [], []⟩ (absR s.data.toList) by rw [absL, hH, if_pos rfl, HZ.out])
            clear hH
            rintro e w1 ⟨rfl, rfl⟩
            rcases hR2c with ⟨hr, hr2⟩ | ⟨h, hp, hr2⟩ | ⟨h, hp, hr2⟩
            · exfalso
              have : R.size = 0 := by rw [hr]; rfl
              omega
            · subst hr2
              have hne := ne_isEmpty h
              have hRb := PlainAid.get_bt R2
              have hR0 : PlainAid.bt R2 0 = 47 := pre_bt R2 h hp
              go_wp2_with fail
              refine (orgC (by omega)).mono ?_
              cases hO : originL (absR s.data.toList) with
              | none =>
                have HV := Lib.hid (show absL s.data.toList = (tgt0, 8) by rw [HV0.out, orgR, hO])
                have HO := Lib.hid hO
                clear hO
                rintro e w3 ⟨h0, -, L3⟩
                obtain ⟨x, y, rfl⟩ := h0 HO.out
                obtain ⟨j0, j1, j2, j3, i0, i1, i2, i3⟩ := (B1.belowW L3).c4
                have LL := stepW LW L3
                go_wp2
                refine bodyPost_ret (v := .tuple #[tgtV tgt0, .int .i64 8]) (by simp [results, Tryz.results136, go_sem, tgt0, j0, j1, j2, j3]) rfl ⟨by rw [HV.out]; rfl, ?_⟩
                repeat refine setW ?_ (by simp) _
                exact LL
              | some p =>
                have HV := Lib.hid (show absL s.data.toList = (⟨2, lowL Z.data.toList, p, sndB 63 (absR s.data.toList)⟩, 0) by rw [HV0.out, orgR, hO])
                have HO := Lib.hid hO
                clear hO
                rintro e w3 ⟨-, h1, L3⟩
                obtain rfl := h1 p HO.out
                go_wp2_with fail
                refine (ref_LowerS Z _ hsm).mono ?_
                rintro e w4 ⟨rfl, L4⟩
                obtain ⟨j0, j1, j2, j3, i0, i1, i2, i3⟩ := ((B1.belowW L3).belowW L4).c4
                have LL := stepW (stepW LW L3) L4
                go_wp2
                refine bodyPost_ret (v := .tuple #[tgtV ⟨2, lowL Z.data.toList, p, sndB 63 (absR s.data.toList)⟩, .int .i64 0]) (by simp [results, Tryz.results136, go_sem, j0, j1, j2, j3]) rfl ⟨by rw [HV.out]; rfl, ?_⟩
                repeat refine setW ?_ (by simp) _
                exact LL
            · have hne := ne_isEmpty h
              have hRb := PlainAid.get_bt R
              have hR0 := npre_bt R h hp
              have eR2 := hr2.symm
              clear hr2
              go_wp2_with fail
              refine (orgC (by omega)).mono ?_
              cases hO : originL (absR s.data.toList) with
              | none =>
                have HV := Lib.hid (show absL s.data.toList = (tgt0, 8) by rw [HV0.out, orgR, hO])
                have HO := Lib.hid hO
                clear hO
                rintro e w3 ⟨h0, -, L3⟩
                obtain ⟨x, y, rfl⟩ := h0 HO.out
                obtain ⟨j0, j1, j2, j3, i0, i1, i2, i3⟩ := (B1.belowW L3).c4
                have LL := stepW LW L3
                go_wp2
                refine bodyPost_ret (v := .tuple #[tgtV tgt0, .int .i64 8]) (by simp [results, Tryz.results136, go_sem, tgt0, j0, j1, j2, j3]) rfl ⟨by rw [HV.out]; rfl, ?_⟩
                repeat refine setW ?_ (by simp) _
                exact LL
              | some p =>
                have HV := Lib.hid (show absL s.data.toList = (⟨2, lowL Z.data.toList, p, sndB 63 (absR s.data.toList)⟩, 0) by rw [HV0.out, orgR, hO])
                have HO := Lib.hid hO
                clear hO
                rintro e w3 ⟨-, h1, L3⟩
                obtain rfl := h1 p HO.out
                go_wp2_with fail
                refine (ref_LowerS Z _ hsm).mono ?_
                rintro e w4 ⟨rfl, L4⟩
                obtain ⟨j0, j1, j2, j3, i0, i1, i2, i3⟩ := ((B1.belowW L3).belowW L4).c4
                have LL := stepW (stepW LW L3) L4
                go_wp2
                refine bodyPost_ret (v := .tuple #[tgtV ⟨2, lowL Z.data.toList, p, sndB 63 (absR s.data.toList)⟩, .int .i64 0]) (by simp [results, Tryz.results136, go_sem, j0, j1, j2, j3]) rfl ⟨by rw [HV.out]; rfl, ?_⟩
                repeat refine setW ?_ (by simp) _
                exact LL
end Go.Proofs.YtlambdccmfnloaaGreatDoor
namespace Go.Proofs.YtlambdccmfnloaaGreatDoor
open Go.RowKit
set_option maxRecDepth 100000
set_option maxHeartbeats 4000000

theorem pre_low (l : Bs) (_h : 7 ≤ l.length) : preB httpB (lowL l) = (lowL (l.take 7) == lowL httpB) := by
  have e : lowL (l.take 7) = (lowL l).take 7 := by simp [lowL, List.map_take]
  have e2 : lowL httpB = httpB := by decide
  rw [e, e2, Bool.eq_iff_iff, preB, List.isPrefixOf_iff_prefix, beq_iff_eq, List.prefix_iff_eq_take]
  exact eq_comm
theorem npre_low (l : Bs) (h : l.length < 7) : preB httpB (lowL l) = false := by
  cases hp : preB httpB (lowL l)
  · rfl
  · have := pre_len _ _ hp
    rw [lowL_len] at this
    have h7 : httpB.length = 7 := rfl
    omega
theorem npre0 (s : ByteArray) (h : s.size = 0) : preB [47] s.data.toList = false := by
  rw [empty_size h]; rfl
theorem ref11_Parse (m s : ByteArray) (w : World) (hs : s.size < 4294967000) :
    Calls Tryz.prog 84 #[.string m, .string s] w fun e w' => e = .returned (tgR (parseL m.data.toList s.data.toList)) ∧ Below w.heap.size w w' := by
  have eM : m.toList = m.data.toList := ByteArray.toList_eq _
  have eS : s.toList = s.data.toList := ByteArray.toList_eq _
  have hl := len_data s
  have hsm : s.size ≤ maxLen := by unfold maxLen; omega
  by_cases h200 : 200 < s.size
  · have HR := Lib.hid (show parseL m.data.toList s.data.toList = (tgt0, 9) by rw [parseL, if_pos (by omega)])
    clear eM eS hl hsm
    go_enter Tryz.func84, Tryz.ntmps84
    go_wp2
    refine bodyPost_ret (v := .tuple #[tgtV tgt0, .int .i64 9]) (by simp [results, Tryz.results84, go_sem, tgt0]) rfl ⟨by rw [HR.out]; rfl, ?_⟩
    repeat refine setW ?_ (by simp) _
    exact allocW (Below.refl _ _) _
  have hle : s.size ≤ 200 := by omega
  have e0 : ¬ (200 < s.data.toList.length) := by omega
  clear h200
  by_cases hC : m.data.toList = connB
  · have t1 : (m.toList == [67, 79, 78, 78, 69, 67, 84]) = true := by rw [eM, hC]; rfl
    cases hH : hostL s.data.toList
    · have HR := Lib.hid (show parseL m.data.toList s.data.toList = (tgt0, 8) by rw [parseL, if_neg e0, if_pos hC, hH, Bool.and_false]; rfl)
      clear e0 hC eM eS hl
      go_enter Tryz.func84, Tryz.ntmps84
      go_wp2_with fail
      refine (ref11_Host s _ hsm).mono ?_
      rw [hH]
      rintro e w1 ⟨rfl, rfl⟩
      clear hH
      go_wp2
      refine bodyPost_ret (v := .tuple #[tgtV tgt0, .int .i64 8]) (by simp [results, Tryz.results84, go_sem, tgt0]) rfl ⟨by rw [HR.out]; rfl, ?_⟩
      repeat refine setW ?_ (by simp) _
      exact allocW (Below.refl _ _) _
    · cases hI : inB s.data.toList 58
      · have HR := Lib.hid (show parseL m.data.toList s.data.toList = (tgt0, 8) by rw [parseL, if_neg e0, if_pos hC, hI]; rfl)
        clear e0 hC eM eS hl
        go_enter Tryz.func84, Tryz.ntmps84
        go_wp2_with fail
        refine (ref11_Host s _ hsm).mono ?_
        rw [hH]
        rintro e w1 ⟨rfl, rfl⟩
        go_wp2_with fail
        refine (ref_In 58 s _ hsm (by decide) (by decide)).mono ?_
        rw [show inL 58 s.data.toList = false from (inL_contains 58 _).trans hI]
        rintro e w1 ⟨rfl, rfl⟩
        clear hH hI
        go_wp2
        refine bodyPost_ret (v := .tuple #[tgtV tgt0, .int .i64 8]) (by simp [results, Tryz.results84, go_sem, tgt0]) rfl ⟨by rw [HR.out]; rfl, ?_⟩
        repeat refine setW ?_ (by simp) _
        exact allocW (Below.refl _ _) _
      · have HR := Lib.hid (show parseL m.data.toList s.data.toList = (⟨3, lowL s.data.toList, [], []⟩, 0) by rw [parseL, if_neg e0, if_pos hC, hI, hH]; rfl)
        clear e0 hC eM eS hl
        go_enter Tryz.func84, Tryz.ntmps84
        go_wp2_with fail
        refine (ref11_Host s _ hsm).mono ?_
        rw [hH]
        rintro e w1 ⟨rfl, rfl⟩
        go_wp2_with fail
        obtain ⟨W2, hW⟩ : ∃ W2, W2 = w.alloc (.cells #[.int .i64 0, .string ⟨#[]⟩, .string ⟨#[]⟩, .string ⟨#[]⟩] 23) := ⟨_, rfl⟩
        rw [← hW]
        have B1 : Blk W2 w.heap.size 23 #[.int .i64 0, .string ⟨#[]⟩, .string ⟨#[]⟩, .string ⟨#[]⟩] := by rw [hW]; exact Blk.new' _ _ rfl _ _
        have LW : Below w.heap.size w W2 := by rw [hW]; exact allocW (Below.refl _ _) _
        clear hW
        refine (ref_In 58 s _ hsm (by decide) (by decide)).mono ?_
        rw [show inL 58 s.data.toList = true from (inL_contains 58 _).trans hI]
        rintro e w1 ⟨rfl, rfl⟩
        clear hI hH
        go_wp2_with fail
        refine (ref_LowerS s _ (by omega)).mono ?_
        rintro e w2 ⟨rfl, L2⟩
        obtain ⟨j0, j1, j2, j3, i0, i1, i2, i3⟩ := (B1.belowW L2).c4
        have LL := stepW LW L2
        go_wp2
        refine bodyPost_ret (v := .tuple #[tgtV ⟨3, lowL s.data.toList, [], []⟩, .int .i64 0]) (by simp [results, Tryz.results84, go_sem, j0, j1, j2, j3]) rfl ⟨by rw [HR.out]; rfl, ?_⟩
        repeat refine setW ?_ (by simp) _
        exact LL
  have t1 : (m.toList == [67, 79, 78, 78, 69, 67, 84]) = false := by rw [eM]; simpa [connB] using hC
  by_cases hO : m.data.toList = optB ∧ s.data.toList = [42]
  · have t2 : m.toList = [79, 80, 84, 73, 79, 78, 83] := by rw [eM, hO.1]; rfl
    have t3 : (s.toList == [42]) = true := by rw [eS, hO.2]; rfl
    have HR := Lib.hid (show parseL m.data.toList s.data.toList = (⟨4, [], [], []⟩, 0) by rw [parseL, if_neg e0, if_neg hC, if_pos hO])
    have t2' : (m.toList == [79, 80, 84, 73, 79, 78, 83]) = true := by rw [t2]; rfl
    clear e0 hC eM eS hsm hO t1 hl
    have t1 : (m.toList == [67, 79, 78, 78, 69, 67, 84]) = false := by rw [t2]; rfl
    go_enter Tryz.func84, Tryz.ntmps84
    go_wp2
    refine bodyPost_ret (v := .tuple #[tgtV ⟨4, [], [], []⟩, .int .i64 0]) (by simp [results, Tryz.results84, go_sem]) rfl ⟨by rw [HR.out]; rfl, ?_⟩
    repeat refine setW ?_ (by simp) _
    exact allocW (Below.refl _ _) _
  have t2 : m.toList = [79, 80, 84, 73, 79, 78, 83] → (s.toList == [42]) = false := by
    rw [eM, eS]; intro h; rw [Bool.eq_false_iff]; intro h2; exact hO ⟨h, by simpa using h2⟩
  have LW : Below w.heap.size w (w.alloc (.cells #[.int .i64 0, .string ⟨#[]⟩, .string ⟨#[]⟩, .string ⟨#[]⟩] 23)) := allocW (Below.refl _ _) _
  have B1 : Blk (w.alloc (.cells #[.int .i64 0, .string ⟨#[]⟩, .string ⟨#[]⟩, .string ⟨#[]⟩] 23)) w.heap.size 23 #[.int .i64 0, .string ⟨#[]⟩, .string ⟨#[]⟩, .string ⟨#[]⟩] := Blk.new' _ _ rfl _ _
  have HO := Lib.hid hO
  have HC := Lib.hid hC
  have E0 := Lib.hid e0
  have HL := Lib.hid hl
  clear hO hC e0 eM eS hl
  go_enter Tryz.func84, Tryz.ntmps84
  go_upto_region 7 with (fail)
  go_cut [26] (fun v wx => v = .bool false ∧ wx = w.alloc (.cells #[.int .i64 0, .string ⟨#[]⟩, .string ⟨#[]⟩, .string ⟨#[]⟩] 23))
  case first =>
    by_cases hm7 : m.toList = [79, 80, 84, 73, 79, 78, 83]
    · have t4 := t2 hm7
      go_wp2_with fail
      go_meet
      case rel => exact ⟨rfl, rfl⟩
    · go_wp2_with fail
      go_meet
      case rel => exact ⟨rfl, rfl⟩
  case rest =>
    obtain ⟨rfl, rfl⟩ := hcut
    clear t2 t1
    obtain ⟨W2, hW⟩ : ∃ W2, W2 = w.alloc (.cells #[.int .i64 0, .string ⟨#[]⟩, .string ⟨#[]⟩, .string ⟨#[]⟩] 23) := ⟨_, rfl⟩
    rw [← hW] at B1 LW ⊢
    clear hW
    have hbs := PlainAid.get_bt s
    cases hP : preB [47] s.data.toList
    · have hz : s.size = 0 ∨ (0 < s.size ∧ (PlainAid.bt s 0 == 47) = false) := by
        rcases Nat.eq_zero_or_pos s.size with h | h
        · exact .inl h
        · refine .inr ⟨h, ?_⟩
          have := npre_bt s h hP
          rw [bne_iff_ne] at this
          simpa using this
      by_cases h7 : 7 ≤ s.size
      · obtain ⟨P, hPx⟩ : ∃ P, P = s.extract 0 7 := ⟨_, rfl⟩
        obtain ⟨X, hX⟩ : ∃ X, X = s.extract 7 s.size := ⟨_, rfl⟩
        have hPl : P.data.toList = s.data.toList.take 7 := by rw [hPx, ext_to]
        have hPs : P.size = 7 := by rw [hPx, ext_size _ _ _ (Nat.zero_le _) h7]
        have hXl : X.data.toList = s.data.toList.drop 7 := by rw [hX, ext_from]
        have hXs : X.size ≤ 193 := by rw [hX, ext_size _ _ _ h7 (Nat.le_refl _)]; omega
        have hQe := pre_low s.data.toList (by have := HL.out; omega)
        rw [← hPl] at hQe
        have ePx := hPx.symm
        have eX := hX.symm
        rcases hz with hz | ⟨hz, hz1⟩
        · omega
        cases hQ : preB httpB (lowL s.data.toList)
        · have HR := Lib.hid (show parseL m.data.toList s.data.toList = (tgt0, 8) by rw [parseL, if_neg E0.out, if_neg HC.out, if_neg HO.out, hP, hQ]; rfl)
          rw [hQ] at hQe
          have HQ := Lib.hid hQe.symm
          clear hP hQ hQe hPx hX hPl hXl
          go_wp2_with fail
          refine (rSame P _ _ (by omega) (by decide)).mono ?_
          rw [show (⟨#[104, 116, 116, 112, 58, 47, 47]⟩ : ByteArray).data.toList = httpB from rfl, HQ.out]
          rintro e w2 ⟨rfl, L1⟩
          obtain ⟨j0, j1, j2, j3, i0, i1, i2, i3⟩ := (B1.belowW L1).c4
          have LL := stepW LW L1
          go_wp2
          refine bodyPost_ret (v := .tuple #[tgtV tgt0, .int .i64 8]) (by simp [results, Tryz.results84, go_sem, tgt0, j0, j1, j2, j3]) rfl ⟨by rw [HR.out]; rfl, ?_⟩
          repeat refine setW ?_ (by simp) _
          exact LL
        · have HR := Lib.hid (show parseL m.data.toList s.data.toList = absL X.data.toList by rw [parseL, if_neg E0.out, if_neg HC.out, if_neg HO.out, hP, hQ, hXl]; rfl)
          rw [hQ] at hQe
          have HQ := Lib.hid hQe.symm
          clear hP hQ hQe hPx hX hPl hXl
          go_wp2_with fail
          refine (rSame P _ _ (by omega) (by decide)).mono ?_
          rw [show (⟨#[104, 116, 116, 112, 58, 47, 47]⟩ : ByteArray).data.toList = httpB from rfl, HQ.out]
          rintro e w2 ⟨rfl, L1⟩
          go_wp2_with fail
          refine (ref11_absolute X _ (by omega)).mono ?_
          generalize absL X.data.toList = r at HR
          obtain ⟨t, er⟩ := r
          rw [tgR_mk]
          rintro e w3 ⟨rfl, L2⟩
          obtain ⟨j0, j1, j2, j3, i0, i1, i2, i3⟩ := ((B1.belowW L1).belowW L2).c4
          have LL := stepW (stepW LW L1) L2
          go_wp2
          refine bodyPost_ret (v := .tuple #[tgtV t, .int .i64 er]) (by simp [results, Tryz.results84, go_sem, j0, j1, j2, j3]) rfl ⟨by rw [HR.out]; rfl, ?_⟩
          repeat refine setW ?_ (by simp) _
          exact LL
      · have hQ := npre_low s.data.toList (by have := HL.out; omega)
        have HR := Lib.hid (show parseL m.data.toList s.data.toList = (tgt0, 8) by rw [parseL, if_neg E0.out, if_neg HC.out, if_neg HO.out, hP, hQ]; rfl)
        clear hP hQ
        obtain ⟨j0, j1, j2, j3, i0, i1, i2, i3⟩ := B1.c4
        rcases hz with hz | ⟨hz, hz1⟩
        · go_wp2
          refine bodyPost_ret (v := .tuple #[tgtV tgt0, .int .i64 8]) (by simp [results, Tryz.results84, go_sem, tgt0, j0, j1, j2, j3]) rfl ⟨by rw [HR.out]; rfl, ?_⟩
          repeat refine setW ?_ (by simp) _
          exact LW
        · go_wp2
          refine bodyPost_ret (v := .tuple #[tgtV tgt0, .int .i64 8]) (by simp [results, Tryz.results84, go_sem, tgt0, j0, j1, j2, j3]) rfl ⟨by rw [HR.out]; rfl, ?_⟩
          repeat refine setW ?_ (by simp) _
          exact LW
    · have hpos : 0 < s.size := by
        rcases Nat.eq_zero_or_pos s.size with h | h
        · rw [npre0 s h] at hP; cases hP
        · exact h
      have h47 := pre_bt s hpos hP
      have HR0 := Lib.hid (show parseL m.data.toList s.data.toList = orgR ⟨1, [], [], []⟩ s.data.toList by rw [parseL, if_neg E0.out, if_neg HC.out, if_neg HO.out, if_pos hP])
      clear hP
      go_wp2_with fail
      refine (ref11_origin s W2 (by omega)).mono ?_
      cases hQ : originL s.data.toList with
      | none =>
        have HV := Lib.hid (show parseL m.data.toList s.data.toList = (tgt0, 8) by rw [HR0.out, orgR, hQ])
        have HQ := Lib.hid hQ
        clear hQ
        rintro e w3 ⟨h0, -, L3⟩
        obtain ⟨x, y, rfl⟩ := h0 HQ.out
        obtain ⟨j0, j1, j2, j3, i0, i1, i2, i3⟩ := (B1.belowW L3).c4
        have LL := stepW LW L3
        go_wp2
        refine bodyPost_ret (v := .tuple #[tgtV tgt0, .int .i64 8]) (by simp [results, Tryz.results84, go_sem, tgt0, j0, j1, j2, j3]) rfl ⟨by rw [HV.out]; rfl, ?_⟩
        repeat refine setW ?_ (by simp) _
        exact LL
      | some p =>
        have HV := Lib.hid (show parseL m.data.toList s.data.toList = (⟨1, [], p, sndB 63 s.data.toList⟩, 0) by rw [HR0.out, orgR, hQ])
        have HQ := Lib.hid hQ
        clear hQ
        rintro e w3 ⟨-, h1, L3⟩
        obtain rfl := h1 p HQ.out
        obtain ⟨j0, j1, j2, j3, i0, i1, i2, i3⟩ := (B1.belowW L3).c4
        have LL := stepW LW L3
        go_wp2
        refine bodyPost_ret (v := .tuple #[tgtV ⟨1, [], p, sndB 63 s.data.toList⟩, .int .i64 0]) (by simp [results, Tryz.results84, go_sem, j0, j1, j2, j3]) rfl ⟨by rw [HV.out]; rfl, ?_⟩
        repeat refine setW ?_ (by simp) _
        exact LL
end Go.Proofs.YtlambdccmfnloaaGreatDoor
namespace Go.Proofs.YtlambdccmfnloaaGreatDoor
open Go.RowKit
set_option maxRecDepth 100000
set_option maxHeartbeats 2000000

theorem step_appRd {ops : Array Oper} {o : Oper} {a : Act} {w0 w : World} {K : Act → World → Prop} {Q : Exit → Act → World → Prop} {E : Prop} (hgd : o.guard = none) (s x : Operand)
    (ho : o.op = .call { callee := .builtin .append, args := #[s, x], argTypes := #[25, 25] })
    (base : Nat) (v : Value) (l : Bs) (hs : a.eval s = v) (hown : OB w0 base v l) (hw : Below w0.heap.size w0 w) (A : Option Addr) (n c B : Nat) (hx : a.eval x = .slice A n c) (m : Bs) (hr : Rd w B 1 A n (m.map bv))
    (hlen : l.length + m.length ≤ 140737488355328) (hbase : base ≤ w0.heap.size)
    (hK : ∀ v' w', OB w' base v' (l ++ m) → Below base w0 w' → K (a.put o.dst v') w') :
    if Region.wanted o (yielded ops a.tmps) = true then Oper.wp Tryz.prog o a w K Q else E := by
  have hwt : Region.wanted o (yielded ops a.tmps) = true := by simp [Region.wanted, hgd]
  rw [if_pos hwt]
  have hn : m.length = n := by simpa using hr.1
  subst hn
  obtain ⟨i0, hi, hz0, hz1, hz2⟩ := info_parts info_b8
  obtain ⟨v', w', hrun, h2, h3, h4⟩ := run_append_Own (P := Tryz.prog) w base 25 25 o.type 5 i0 _ 1 1 Tryz.underlying25 (.inl Tryz.underlying25) hi hz0 hz1 hz2 rfl (by decide) v l.length _ (hown.belowW hw) (.slice A m.length c) m.length _ (Src.of_rd hr (bv_one m)) (by unfold maxLen; omega) (by omega) (Nat.le_trans hbase hw.size)
  have e : (l.map bv ++ m.map bv) = (l ++ m).map bv := by simp
  rw [e] at h2
  have key := hK v' w' (by unfold OB; rw [List.length_append]; exact h2) ((ext_of hw h3 h4).below hown (Nat.le_refl _) hbase)
  unfold Oper.wp
  simp [execOp, ho, resolve, invoke, builtin, hs, hx, hrun, Result.andThen]
  exact key
theorem ref11_path (s : ByteArray) (w : World) (hs : s.size ≤ 4294967281) :
    Calls Tryz.prog 83 #[.string s] w fun e w' => e = .returned (sv (pathL s.data.toList)) ∧ Below w.heap.size w w' := by
  go_enter Tryz.func83, Tryz.ntmps83
  go_wp2
  go_loopw [3, 4] (fun v i wr => ∃ k : Nat, k ≤ s.size ∧ i = .int .i64 k ∧ OB wr w.heap.size v (pathL (s.data.toList.take k)) ∧ Below w.heap.size w wr) (fun _ i _ => s.size - (intOf i).toNat)
  case atStart => exact ⟨0, Nat.zero_le _, rfl, OB.nil _ _, Below.refl _ _⟩
  case round =>
    obtain ⟨k, hk, rfl, ho, L⟩ := hrel
    have hlen : (pathL (s.data.toList.take k)).length ≤ 3 * 4294967281 := Nat.le_trans (pathL_len _) (Nat.mul_le_mul_left _ (Nat.le_trans (List.length_take_le _ _) (by omega)))
    have hS := L.size
    by_cases hlt : k < s.size
    · obtain ⟨b, hb, hbt⟩ := drop_bt s k hlt
      have hbs := PlainAid.get_bt s
      have hb8 := u8lt b
      have hkb : s.data.toList[k]? = some b := by rw [← List.head?_drop, hb]; rfl
      have hP := Lib.hid (pathL_one _ k b hkb)
      have hof := Lib.hid (show ofB plainS b = (alnumB b.toNat || inL b.toNat plainS) by rw [inL_contains b plainS]; rfl)
      clear hb hkb
      cases hA : alnumB b.toNat
      · cases hI : inL b.toNat plainS
        · have HE := Lib.hid (encB_no b (by rw [hof.out, hA, hI]; rfl))
          go_wp2_with fail
          refine (ref_Alnum _ _ (by omega) hb8).mono ?_
          rw [hA]
          rintro e w1 ⟨rfl, rfl⟩
          go_wp2_with fail
          refine (ref_In _ _ _ (by decide) (by omega) hb8).mono ?_
          rw [show (⟨#[45, 46, 95, 126, 33, 36, 38, 39, 40, 41, 42, 43, 44, 59, 61, 58, 64, 47]⟩ : ByteArray).data.toList = plainS from rfl, hI]
          rintro e w1 ⟨rfl, rfl⟩
          clear hA hI hof
          have f1 := uD_hi b
          have f2 := uD_lo b
          have f3 : bits BinOp.and IntKind.u8 (b.toNat : Int) 15 = ((b.toNat % 16 : Nat) : Int) := by rw [u8_and15 (x := (b.toNat : Int)) (by omega) (by omega)]; omega
          have q1 : ((b.toNat : Int) % 16).toNat = b.toNat % 16 := by omega
          have q2 : (0 : Int) ≤ (b.toNat : Int) % 16 := by omega
          have q3 : (b.toNat : Int) % 16 < 16 := by omega
          have q4 : ((b.toNat : Int) / 16).toNat = b.toNat / 16 := by omega
          have q5 : (0 : Int) ≤ (b.toNat : Int) / 16 := by omega
          have q6 : (b.toNat : Int) / 16 < 16 := by omega
          have q7 : b.toNat % 16 < 16 := by omega
          have q8 : b.toNat / 16 < 16 := by omega
          have g2 := PlainAid.get_bt ⟨#[48, 49, 50, 51, 52, 53, 54, 55, 56, 57, 65, 66, 67, 68, 69, 70]⟩
          go_wp2
          go_region_law (refine step_appRd rfl (.tmp 25) (.tmp 32) rfl w.heap.size _ _ rfl ho (allocW ((Below.refl _ _).drew) _) _ 3 3 (wr.heap.size + 1) rfl [37, uD (b.toNat / 16), uD (b.toNat % 16)] (Rd.new wr.drew _ rfl [bv 37, bv (uD (b.toNat / 16)), bv (uD (b.toNat % 16))] _ 3 1 rfl) (by simp; omega) hS ?_; intro v' w3 ho3 hx3)
          all_goals
            go_wp2
            refine ⟨⟨k + 1, by omega, by go_num, by rw [hP.out, HE.out]; assumption, L.trans (by assumption)⟩, ?_⟩
            simp [intOf]; omega
        · have HE := Lib.hid (encB_yes b (by rw [hof.out, hA, hI]; rfl))
          go_wp2_with fail
          refine (ref_Alnum _ _ (by omega) hb8).mono ?_
          rw [hA]
          rintro e w1 ⟨rfl, rfl⟩
          go_wp2_with fail
          refine (ref_In _ _ _ (by decide) (by omega) hb8).mono ?_
          rw [show (⟨#[45, 46, 95, 126, 33, 36, 38, 39, 40, 41, 42, 43, 44, 59, 61, 58, 64, 47]⟩ : ByteArray).data.toList = plainS from rfl, hI]
          rintro e w1 ⟨rfl, rfl⟩
          clear hA hI hof
          go_wp2_with (at_builtin; refine wp_app1 rfl _ _ rfl w.heap.size _ _ rfl ho _ rfl _ rfl b rfl (by omega) hS ?_; intro v' w2 ho2 hx)
          go_roundw
          case rel => exact ⟨k + 1, by omega, by go_num, by rw [hP.out, HE.out]; exact ho2, L.trans (hx.below ho (Nat.le_refl _) hS)⟩
          case measure => simp [intOf]; omega
      · have HE := Lib.hid (encB_yes b (by rw [hof.out, hA]; rfl))
        go_wp2_with fail
        refine (ref_Alnum _ _ (by omega) hb8).mono ?_
        rw [hA]
        rintro e w1 ⟨rfl, rfl⟩
        clear hA hof
        go_wp2_with (at_builtin; refine wp_app1 rfl _ _ rfl w.heap.size _ _ rfl ho _ rfl _ rfl b rfl (by omega) hS ?_; intro v' w2 ho2 hx)
        go_roundw
        case rel => exact ⟨k + 1, by omega, by go_num, by rw [hP.out, HE.out]; exact ho2, L.trans (hx.below ho (Nat.le_refl _) hS)⟩
        case measure => simp [intOf]; omega
    · have e : s.data.toList.take k = s.data.toList := List.take_of_length_le (by rw [len_data]; omega)
      rw [e] at ho
      clear e
      
      go_wp2_with (refine wp_strOB rfl (.tmp 34) rfl _ _ _ rfl ho ?_)
      go_ret
      exact ⟨rfl, L⟩
end Go.Proofs.YtlambdccmfnloaaGreatDoor
namespace Go.Proofs.YtlambdccmfnloaaGreatDoor
open Go.RowKit
set_option maxRecDepth 100000
set_option maxHeartbeats 2000000

theorem print_of (t : Tgt) (M S : Bs) (h : okT t → prS t = (M, S)) : printL t = if parseL M S = (t, 0) then (S, 0) else ([], 1) := by
  by_cases hp : parseL M S = (t, 0)
  · have := h (parse_ok _ _ t hp)
    rw [printL, this]
  · rw [if_neg hp]
    by_cases hk : okT t
    · rw [printL, h hk, if_neg hp]
    · exact print_bad t hk
/-- What the walk knows where the text is made. -/
structure PrAt (t : Tgt) (S M : ByteArray) : Prop where
  eq : printL t = if parseL M.data.toList S.data.toList = (t, 0) then (S.data.toList, 0) else ([], 1)
  size : S.size < 4294967000
theorem prAt_3 (f : Int) (h p q : Bs) (hf : f = 3) : prS ⟨f, h, p, q⟩ = (connB, h) := by subst hf; rfl
theorem prAt_4 (f : Int) (h p q : Bs) (hf : f = 4) : prS ⟨f, h, p, q⟩ = (optB, [42]) := by subst hf; rfl
theorem prAt_2 (f : Int) (h p q : Bs) (hf : f = 2) : prS ⟨f, h, p, q⟩ = ([71, 69, 84], httpB ++ h ++ baseL ⟨f, h, p, q⟩) := by subst hf; rfl
theorem prAt_1 (f : Int) (h p q : Bs) (hf : f = 1) : prS ⟨f, h, p, q⟩ = ([71, 69, 84], baseL ⟨f, h, p, q⟩) := by subst hf; rfl
theorem size_mk (l : Bs) : (⟨l.toArray⟩ : ByteArray).size = l.length := (len_data _).symm
theorem ref11_Print (f : Int) (h p q : ByteArray) (w : World) :
    Calls Tryz.prog 41 #[.agg #[.int .i64 f, .string h, .string p, .string q]] w fun e w' => e = .returned (printV (printL ⟨f, h.data.toList, p.data.toList, q.data.toList⟩)) ∧ Below w.heap.size w w' := by
  have LW : Below w.heap.size w (w.alloc (.cells #[.int .i64 f, .string h, .string p, .string q] 23)) := allocW (Below.refl _ _) _
  have B1 : Blk (w.alloc (.cells #[.int .i64 f, .string h, .string p, .string q] 23)) w.heap.size 23 #[.int .i64 f, .string h, .string p, .string q] := Blk.new' _ _ rfl _ _
  have hh := len_data h
  have hp := len_data p
  have hq := len_data q
  by_cases hbig : 200 < p.size ∨ 200 < q.size ∨ 200 < h.size
  · have HV := Lib.hid (print_bad ⟨f, h.data.toList, p.data.toList, q.data.toList⟩ (by
      rintro ⟨-, h1, h2, h3⟩
      have h1 : h.data.toList.length ≤ 200 := h1
      have h2 : p.data.toList.length ≤ 200 := h2
      have h3 : q.data.toList.length ≤ 200 := h3
      omega))
    obtain ⟨j0, j1, j2, j3, i0, i1, i2, i3⟩ := B1.c4
    clear hh hp hq B1
    go_enter Tryz.func41, Tryz.ntmps41
    by_cases c1 : 200 < p.size
    · clear hbig
      go_wp2
      go_ret2
      exact ⟨by rw [HV.out]; rfl, LW⟩
    · by_cases c2 : 200 < q.size
      · clear hbig
        go_wp2
        go_ret2
        exact ⟨by rw [HV.out]; rfl, LW⟩
      · have c3 : 200 < h.size := by omega
        clear hbig
        go_wp2
        go_ret2
        exact ⟨by rw [HV.out]; rfl, LW⟩
  have b1 : p.size ≤ 200 := by omega
  have b2 : q.size ≤ 200 := by omega
  have b3 : h.size ≤ 200 := by omega
  clear hbig hh hp hq
  go_enter Tryz.func41, Tryz.ntmps41
  obtain ⟨j0, j1, j2, j3, i0, i1, i2, i3⟩ := B1.c4
  go_upto_block 0 with (fail)
  go_cut [4, 5] (fun u v wx => ∃ S M : ByteArray, u = .string S ∧ v = .string M ∧ Hid (PrAt ⟨f, h.data.toList, p.data.toList, q.data.toList⟩ S M) ∧ Blk wx w.heap.size 23 #[.int .i64 f, .string h, .string p, .string q] ∧ Below w.heap.size w wx)
  case first =>
    obtain ⟨V, hV⟩ : ∃ V, V = w.alloc (.cells #[.int .i64 f, .string h, .string p, .string q] 23) := ⟨_, rfl⟩
    rw [← hV] at B1 LW
    by_cases h4 : f = 4
    · have HP : Hid (PrAt ⟨f, h.data.toList, p.data.toList, q.data.toList⟩ ⟨#[42]⟩ ⟨#[79, 80, 84, 73, 79, 78, 83]⟩) := Lib.hid ⟨print_of _ _ _ fun _ => prAt_4 _ _ _ _ h4, by show 1 < _; omega⟩
      subst h4
      go_wp2_with fail
      go_meet
      case rel => rw [← hV]; exact ⟨_, _, rfl, rfl, HP, B1, LW⟩
    by_cases h3 : f = 3
    · have HP : Hid (PrAt ⟨f, h.data.toList, p.data.toList, q.data.toList⟩ h ⟨#[67, 79, 78, 78, 69, 67, 84]⟩) := Lib.hid ⟨print_of _ _ _ fun _ => prAt_3 _ _ _ _ h3, by omega⟩
      subst h3
      go_wp2_with fail
      go_meet
      case rel => rw [← hV]; exact ⟨_, _, rfl, rfl, HP, B1, LW⟩
    have e4 : (f == 4) = false := by simpa using h4
    have e3 : (f == 3) = false := by simpa using h3
    by_cases h12 : f = 1 ∨ f = 2
    · have hb : baseL ⟨f, h.data.toList, p.data.toList, q.data.toList⟩ = pathL p.data.toList ++ if q.data.toList = [] then [] else 63 :: q.data.toList := rfl
      have hpl := pathL_len p.data.toList
      rw [len_data] at hpl
      obtain ⟨X, hX⟩ : ∃ X : ByteArray, X = ⟨(pathL p.data.toList).toArray⟩ := ⟨_, rfl⟩
      have hXl : X.data.toList = pathL p.data.toList := by rw [hX]
      have hXs : X.size ≤ 600 := by rw [← len_data, hXl]; omega
      have hXe := hX.symm
      rw [← hXl] at hb
      clear hXl hpl hX
      by_cases hq0 : q = ⟨#[]⟩
      · subst hq0
        have hb2 : baseL ⟨f, h.data.toList, p.data.toList, []⟩ = X.data.toList := by
          have h0 : baseL ⟨f, h.data.toList, p.data.toList, []⟩ = X.data.toList ++ [] := hb
          rw [h0, List.append_nil]
        clear hb
        by_cases h2 : f = 2
        · have HP : Hid (PrAt ⟨f, h.data.toList, p.data.toList, []⟩ (⟨#[104, 116, 116, 112, 58, 47, 47]⟩ ++ h ++ X) ⟨#[71, 69, 84]⟩) := Lib.hid ⟨print_of _ _ _ fun _ => by rw [prAt_2 _ _ _ _ h2, hb2, app_data, app_data]; rfl, by
            rw [ByteArray.size_append, ByteArray.size_append]; show 7 + h.size + X.size < _; omega⟩
          subst h2
          clear hb2 h12
          go_wp2_with fail
          rw [← hV]
          refine (ref11_path p V (by omega)).mono ?_
          rintro e w2 ⟨rfl, L2⟩
          have B2 := B1.belowW L2
          obtain ⟨a0, a1, a2, a3, -, -, -, -⟩ := B2.c4
          have L3 := stepW LW L2
          clear j0 j1 j2 j3 i0 i1 i2 i3 B1
          unfold sv
          rw [hXe]
          go_wp2_with fail
          go_meet
          case rel => exact ⟨_, _, rfl, rfl, HP, B2, L3⟩
        · have h1 : f = 1 := by omega
          have HP : Hid (PrAt ⟨f, h.data.toList, p.data.toList, []⟩ X ⟨#[71, 69, 84]⟩) := Lib.hid ⟨print_of _ _ _ fun _ => by rw [prAt_1 _ _ _ _ h1, hb2], by omega⟩
          subst h1
          clear hb2 h12
          go_wp2_with fail
          rw [← hV]
          refine (ref11_path p V (by omega)).mono ?_
          rintro e w2 ⟨rfl, L2⟩
          have B2 := B1.belowW L2
          obtain ⟨a0, a1, a2, a3, -, -, -, -⟩ := B2.c4
          have L3 := stepW LW L2
          clear j0 j1 j2 j3 i0 i1 i2 i3 B1
          unfold sv
          rw [hXe]
          go_wp2_with fail
          go_meet
          case rel => exact ⟨_, _, rfl, rfl, HP, B2, L3⟩
      · have hqn : q.data.toList ≠ [] := fun hh => hq0 (by
          have : q = ⟨q.data.toList.toArray⟩ := rfl
          rw [this, hh])
        have hqe : q.toList.isEmpty = false := by rw [ByteArray.toList_eq]; simpa using hqn
        rw [if_neg hqn] at hb
        by_cases h2 : f = 2
        · have HP : Hid (PrAt ⟨f, h.data.toList, p.data.toList, q.data.toList⟩ (⟨#[104, 116, 116, 112, 58, 47, 47]⟩ ++ h ++ (X ++ ⟨#[63]⟩ ++ q)) ⟨#[71, 69, 84]⟩) := Lib.hid ⟨print_of _ _ _ fun _ => by rw [prAt_2 _ _ _ _ h2, hb]; simp only [app_data, List.append_assoc]; rfl, by
            simp only [ByteArray.size_append]; show 7 + h.size + (X.size + 1 + q.size) < _; omega⟩
          subst h2
          clear hb h12 hqn
          go_wp2_with fail
          rw [← hV]
          refine (ref11_path p V (by omega)).mono ?_
          rintro e w2 ⟨rfl, L2⟩
          have B2 := B1.belowW L2
          obtain ⟨a0, a1, a2, a3, -, -, -, -⟩ := B2.c4
          have L3 := stepW LW L2
          clear j0 j1 j2 j3 i0 i1 i2 i3 B1
          unfold sv
          rw [hXe]
          go_wp2_with fail
          go_meet
          case rel => exact ⟨_, _, rfl, rfl, HP, B2, L3⟩
        · have h1 : f = 1 := by omega
          have HP : Hid (PrAt ⟨f, h.data.toList, p.data.toList, q.data.toList⟩ (X ++ ⟨#[63]⟩ ++ q) ⟨#[71, 69, 84]⟩) := Lib.hid ⟨print_of _ _ _ fun _ => by rw [prAt_1 _ _ _ _ h1, hb]; simp only [app_data, List.append_assoc]; rfl, by
            simp only [ByteArray.size_append]; show (X.size + 1 + q.size) < _; omega⟩
          subst h1
          clear hb h12 hqn
          go_wp2_with fail
          rw [← hV]
          refine (ref11_path p V (by omega)).mono ?_
          rintro e w2 ⟨rfl, L2⟩
          have B2 := B1.belowW L2
          obtain ⟨a0, a1, a2, a3, -, -, -, -⟩ := B2.c4
          have L3 := stepW LW L2
          clear j0 j1 j2 j3 i0 i1 i2 i3 B1
          unfold sv
          rw [hXe]
          go_wp2_with fail
          go_meet
          case rel => exact ⟨_, _, rfl, rfl, HP, B2, L3⟩
    · have e1 : (f == 1) = false := by simp; omega
      have e2 : (f == 2) = false := by simp; omega
      have HP : Hid (PrAt ⟨f, h.data.toList, p.data.toList, q.data.toList⟩ ⟨#[]⟩ ⟨#[71, 69, 84]⟩) := Lib.hid ⟨print_of _ _ _ fun hk => by
        have := hk.1
        simp only at this
        omega, by show 0 < _; omega⟩
      go_wp2_with fail
      go_meet
      case rel => rw [← hV]; exact ⟨_, _, rfl, rfl, HP, B1, LW⟩
  case rest =>
    obtain ⟨S, M, rfl, rfl, HP, B2, L2⟩ := hcut
    clear B1 LW j0 j1 j2 j3 i0 i1 i2 i3
    go_wp2_with fail
    refine (ref11_Parse M S _ HP.out.size).mono ?_
    have he := HP.out.eq
    generalize parseL M.data.toList S.data.toList = r at he
    obtain ⟨u, er⟩ := r
    rw [tgR_mk]
    rintro e w3 ⟨rfl, L3⟩
    have B3 := B2.belowW L3
    have K3 := stepW L2 L3
    clear B2 L2
    obtain ⟨j0, j1, j2, j3, i0, i1, i2, i3⟩ := B3.c4
    have hlt := B3.lt
    have LL := K3
    clear B3 K3
    by_cases h0 : er = 0
    · subst h0
      have kq : ∀ w : World, (binOp .neq 23 (tgtV u) (.agg #[.int .i64 f, .string h, .string p, .string q])).run Tryz.prog w = .ok (.bool (!tgEq u ⟨f, h.data.toList, p.data.toList, q.data.toList⟩)) w := fun w => run_neq_tg u ⟨f, h.data.toList, p.data.toList, q.data.toList⟩ w
      have kg := fun (o : Operand) (o' : Operand) (xs ys : Array Value) (w : World) => run_guard_tg .neq o o' xs ys w
      by_cases hu : u = ⟨f, h.data.toList, p.data.toList, q.data.toList⟩
      · rw [show tgEq u ⟨f, h.data.toList, p.data.toList, q.data.toList⟩ = true by simp [tgEq, hu]] at kq
        rw [if_pos (by rw [hu])] at he
        have HE := Lib.hid he
        clear he hu
        go_wp2
        go_ret2
        exact ⟨by rw [HE.out]; rfl, allocW LL _⟩
      · rw [show tgEq u ⟨f, h.data.toList, p.data.toList, q.data.toList⟩ = false by simp [tgEq, hu]] at kq
        rw [if_neg (fun hh => hu (congrArg Prod.fst hh))] at he
        have HE := Lib.hid he
        clear he hu
        go_wp2
        go_ret2
        exact ⟨by rw [HE.out]; rfl, allocW LL _⟩
    · have hne : (er != 0) = true := by simpa using h0
      rw [if_neg (fun hh => h0 (congrArg Prod.snd hh))] at he
      have HE := Lib.hid he
      clear he
      go_wp2
      go_ret2
      exact ⟨by rw [HE.out]; rfl, allocW LL _⟩
end Go.Proofs.YtlambdccmfnloaaGreatDoor

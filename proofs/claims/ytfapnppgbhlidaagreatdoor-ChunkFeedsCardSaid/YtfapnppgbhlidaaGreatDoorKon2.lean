/- chunk: isHex, size. -/
import Derived.Test.YtfapnppgbhlidaaGreatDoorKon
import Derived.Test.YtfapnppgbhlidaaGreatDoorLst3
import Derived.Test.YtfapnppgbhlidaaGreatDoorHex
namespace Go.Proofs.YtfapnppgbhlidaaGreatDoor
open Go.RowKit
set_option maxRecDepth 100000
set_option maxHeartbeats 4000000

theorem hexN_cons (b : UInt8) (r : Bs) : hexN (b :: r) = if 0 ≤ digB b.toNat then hexN r + 1 else 0 := by
  unfold hexN
  rw [List.takeWhile_cons]
  by_cases h : 0 ≤ digB b.toNat <;> simp [h]
theorem hexN_le (l : Bs) : hexN l ≤ l.length := (List.takeWhile_sublist _).length_le
theorem hexN_get : ∀ (l : Bs) (k : Nat), k < hexN l → ∃ b, l.drop k = b :: l.drop (k + 1) ∧ 0 ≤ digB b.toNat
  | [], k, h => by simp [hexN] at h
  | b :: l, 0, h => by
    rw [hexN_cons] at h
    split at h
    · exact ⟨b, rfl, by assumption⟩
    · omega
  | b :: l, k + 1, h => by
    rw [hexN_cons] at h
    split at h
    · obtain ⟨c, h1, h2⟩ := hexN_get l k (by omega)
      exact ⟨c, by simpa using h1, h2⟩
    · omega
theorem par_dig (b : UInt8) (r : Bs) (h : 0 ≤ digB b.toNat) : parOk (b :: r) = false := by
  have key : ∀ x : Fin 256, 0 ≤ digB (UInt8.ofNat x.val).toNat → isB (UInt8.ofNat x.val) = false ∧ UInt8.ofNat x.val ≠ 59 := by decide +kernel
  have := key ⟨b.toNat, b.toNat_lt⟩ (by simpa using h)
  rw [show UInt8.ofNat b.toNat = b by simp] at this
  have ht : trimF (b :: r) = b :: r := by rw [trimF, List.dropWhile_cons, this.1]; rfl
  show parG (b :: r) 0 = false
  refine parG_bad _ 0 (by rw [ht]; simp) ?_
  rw [ht, parS, if_neg this.2]
theorem size_eq (l : Bs) (m : Nat) (hm : m = min (hexN l) 6) : sizeL l = if parOk (l.drop m) then numR 16 12 (l.take m) else none := by
  rw [sizeL]
  by_cases h1 : hexN l < 1
  · have h0 : m = 0 := by omega
    rw [if_pos (.inl h1), h0, List.take_zero]
    split <;> rfl
  · by_cases h6 : 6 < hexN l
    · have h0 : m = 6 := by omega
      obtain ⟨b, hb, hd⟩ := hexN_get l 6 h6
      rw [if_pos (.inr h6), h0, hb, par_dig _ _ hd]
      rfl
    · have h0 : m = hexN l := by omega
      rw [if_neg (by omega), h0]
theorem hex_one (b : UInt8) : (numR 16 12 [b]).isSome = decide (0 ≤ digB b.toNat) := by
  have h1 := digB_le b.toNat (by omega) (u8lt b)
  rw [numR, if_neg (by simp), numF]
  by_cases h : digB b.toNat < 0
  · rw [if_pos (.inl h)]; simp; omega
  · rw [if_neg (by omega)]; simp [numF]; omega
theorem chk_isHex (b : UInt8) (w : World) :
    Calls Tryz.prog 109 #[.int .u8 (b.toNat : Int)] w fun e w' => e = .returned (.bool (decide (0 ≤ digB b.toNat))) ∧ Below w.heap.size w w' := by
  have hcv := run_byte_str (P := Tryz.prog) 22 5 9 Tryz.underlying22 Tryz.underlying5 Tryz.underlying9
  have LW := allocW (Below.refl w.heap.size w) (.cells #[.int .u8 (b.toNat : Int)] 5)
  go_enter Tryz.func109, Tryz.ntmps109
  go_wp2_with fail
  refine (asc_Hex ⟨#[b]⟩ _ (by show 1 ≤ _; decide)).mono ?_
  rw [show (⟨#[b]⟩ : ByteArray).data.toList = [b] from rfl, numV, hex_one]
  rintro e w1 ⟨rfl, L1⟩
  go_wp2
  go_ret
  exact ⟨rfl, stepW LW L1⟩
theorem cSize_none (r : CS) (s : Bs) (h : sizeL s = none) : cSize r s = { r with status := 400 } := by rw [cSize, h]
theorem cSize_big (r : CS) (s : Bs) (v : Int) (h : sizeL s = some v) (h2 : 2048 - (r.body.length : Int) < v) : cSize r s = { r with status := 413 } := by rw [cSize, h]; simp only; rw [if_pos h2]
theorem cSize_zero (r : CS) (s : Bs) (h : sizeL s = some 0) (h2 : r.body.length ≤ 2048) : cSize r s = { r with place := 3 } := by rw [cSize, h]; simp only; rw [if_neg (by omega)]; rfl
theorem cSize_some (r : CS) (s : Bs) (v : Int) (h : sizeL s = some v) (h2 : ¬ 2048 - (r.body.length : Int) < v) (h3 : v ≠ 0) : cSize r s = { r with place := 1, left := v.toNat } := by rw [cSize, h]; simp only; rw [if_neg h2, if_neg h3]
theorem chk_size (g : Nat) (vl vb vt : Value) (r : CS) (s : ByteArray) (w : World) (h : KA w g vl vb vt r) (hs : s.size ≤ 1000000) (hb : r.body.length ≤ 2048) :
    Calls Tryz.prog 78 #[.pointer (some ⟨g, 0, none⟩), .string s] w (KPost w g vl vb vt (cSize r s.data.toList)) := by
  obtain ⟨Ab, cb, rfl, hb1, hb2, hb3⟩ := h.ob.form
  have hK := KW.refl h
  go_enter Tryz.func78, Tryz.ntmps78
  go_wp2
  go_loopw [4] (fun i wr => ∃ k : Nat, k ≤ s.size ∧ k ≤ 6 ∧ i = .int .i64 k ∧ Hid (hexN s.data.toList = k + hexN (s.data.toList.drop k)) ∧ Below w.heap.size w wr) (fun i _ => s.size - (intOf i).toNat)
  case atStart => exact ⟨0, Nat.zero_le _, by omega, rfl, Lib.hid (by simp), Below.refl _ _⟩
  case round =>
    obtain ⟨k, hk, hk6, rfl, H, L⟩ := hrel
    by_cases hgo : ∃ b, s.data.toList.drop k = b :: s.data.toList.drop (k + 1) ∧ k < s.size ∧ k < 6 ∧ PlainAid.bt s k = (b.toNat : Int) ∧ 0 ≤ digB b.toNat
    · obtain ⟨b, hb, hlt, hlt6, hbt, hd⟩ := hgo
      have HR := Lib.hid (show hexN s.data.toList = (k + 1) + hexN (s.data.toList.drop (k + 1)) by rw [H.out, hb, hexN_cons, if_pos hd]; omega)
      have hbs := PlainAid.get_bt s
      clear hb H
      go_wp2_with fail
      refine (chk_isHex b _).mono ?_
      rw [show decide (0 ≤ digB b.toNat) = true by simpa using hd]
      rintro e w1 ⟨rfl, L1⟩
      go_wp2_with fail
      go_roundw
      case rel => exact ⟨k + 1, by omega, by omega, by go_num, HR, stepW L L1⟩
      case measure => simp [intOf]; omega
    · have hm : k = min (hexN s.data.toList) 6 := by
        rcases Nat.lt_or_ge k s.size with hlt | hge
        · rcases Nat.lt_or_ge k 6 with hlt6 | hge6
          · obtain ⟨b, hb, hbt⟩ := drop_bt s k hlt
            have : ¬ 0 ≤ digB b.toNat := fun hd => hgo ⟨b, hb, hlt, hlt6, hbt, hd⟩
            rw [H.out, hb, hexN_cons, if_neg this]; omega
          · have := H.out; omega
        · rw [H.out, drop_end s k hge]; show k = min (k + 0) 6; omega
      have hst : (k < s.size ∧ k < 6 ∧ ∃ b : UInt8, PlainAid.bt s k = (b.toNat : Int) ∧ ¬ 0 ≤ digB b.toNat) ∨ (k = s.size ∨ k = 6) := by
        rcases Nat.lt_or_ge k s.size with hlt | hge
        · rcases Nat.lt_or_ge k 6 with hlt6 | hge6
          · obtain ⟨b, hb, hbt⟩ := drop_bt s k hlt
            exact .inl ⟨hlt, hlt6, b, hbt, fun hd => hgo ⟨b, hb, hlt, hlt6, hbt, hd⟩⟩
          · exact .inr (.inr (by omega))
        · exact .inr (.inl (by omega))
      have HS := Lib.hid (size_eq s.data.toList k hm)
      obtain ⟨X, hX⟩ : ∃ X, X = s.extract 0 k := ⟨_, rfl⟩
      obtain ⟨Y, hY⟩ : ∃ Y, Y = s.extract k s.size := ⟨_, rfl⟩
      have HX := Lib.hid (show X.data.toList = s.data.toList.take k by rw [hX, ext_to])
      have HY := Lib.hid (show Y.data.toList = s.data.toList.drop k by rw [hY, ext_from])
      have hXs : X.size ≤ 6 := by rw [hX, ext_size _ _ _ (Nat.zero_le _) hk]; omega
      have hYs : Y.size ≤ 1000000 := by rw [hY, ext_size _ _ _ hk (Nat.le_refl _)]; omega
      have hXe := hX.symm
      have hYe := hY.symm
      clear hX hY hgo H hm
      have hend : ∃ w1, w1 = wr ∧ Below w.heap.size w w1 := ⟨wr, rfl, L⟩
      rcases hst with ⟨hlt, hlt6, b, hbt, hd⟩ | hst
      · have hbs := PlainAid.get_bt s
        clear hend
        go_wp2_with fail
        refine (chk_isHex b _).mono ?_
        rw [show decide (0 ≤ digB b.toNat) = false by simpa using hd]
        rintro e w1 ⟨rfl, L1⟩
        have L2 := stepW L L1
        clear hbt hd hbs L1
        go_wp2_with fail
        refine (asc_Hex X _ (by unfold maxLen; omega)).mono ?_
        rw [HX.out]
        generalize ho : numR 16 12 (s.data.toList.take k) = o
        rintro e w2 ⟨rfl, L3⟩
        unfold numV
        go_wp2_with fail
        refine (lst_Params Y w2 hYs).mono ?_
        rw [HY.out]
        rintro e w3 ⟨⟨v, rfl⟩, L4⟩
        have L5 := stepW (stepW L2 L3) L4
        have hK5 := hK.belowW L5
        obtain ⟨j0, j1, j2, j3, j4, j5, j6, j7, i0, i1, i2, i3, i4, i5, i6, i7⟩ := Blk.c8 hK5.o.blk
        have hS2 := HS.out
        rw [ho] at hS2
        clear L3 L4 HX HY HS hXe hYe
        cases o with
        | none =>
          have HR := Lib.hid (cSize_none r s.data.toList (by rw [hS2]; split <;> rfl))
          clear hS2 ho
          go_wp2
          go_end0
          exact kpost hK5.set_ rfl (by rw [HR.out]; rfl) (by rw [HR.out]) (by rw [HR.out]) (by rw [HR.out])
        | some n =>
          cases hp : parOk (s.data.toList.drop k)
          · have HR := Lib.hid (cSize_none r s.data.toList (by rw [hS2, hp]; rfl))
            clear hS2 ho hp
            go_wp2
            go_end0
            exact kpost hK5.set_ rfl (by rw [HR.out]; rfl) (by rw [HR.out]) (by rw [HR.out]) (by rw [HR.out])
          · have h3 : sizeL s.data.toList = some n := by rw [hS2, hp]; rfl
            have hn := sizeL_nonneg _ _ h3
            clear hS2 ho hp
            by_cases hbig : 2048 - (r.body.length : Int) < n
            · have HR := Lib.hid (cSize_big r s.data.toList n h3 hbig)
              clear h3
              go_wp2
              go_end0
              exact kpost hK5.set_ rfl (by rw [HR.out]; rfl) (by rw [HR.out]) (by rw [HR.out]) (by rw [HR.out])
            · by_cases h0 : n = 0
              · subst h0
                have HR := Lib.hid (cSize_zero r s.data.toList h3 hb)
                clear h3
                go_wp2
                go_end0
                exact kpost hK5.set_ rfl (by rw [HR.out]; rfl) (by rw [HR.out]) (by rw [HR.out]) (by rw [HR.out])
              · have HR := Lib.hid (cSize_some r s.data.toList n h3 hbig h0)
                have hbig2 : n ≤ 2048 - (r.body.length : Int) := by omega
                have hne : (n == 0) = false := by simpa using h0
                clear h3 hbig h0
                obtain ⟨u, rfl⟩ : ∃ u : Nat, n = u := ⟨n.toNat, by omega⟩
                go_wp2
                go_end0
                exact kpost (hK5.set_.set_) rfl (by rw [HR.out]; rfl) (by rw [HR.out]) (by rw [HR.out]) (by rw [HR.out])
      · obtain ⟨w1, rfl, L2⟩ := hend
        rcases hst with hst | hst
        · have hge : s.size ≤ k := by omega
          clear hst
          go_wp2_with fail
          refine (asc_Hex X _ (by unfold maxLen; omega)).mono ?_
          rw [HX.out]
          generalize ho : numR 16 12 (s.data.toList.take k) = o
          rintro e w2 ⟨rfl, L3⟩
          unfold numV
          go_wp2_with fail
          refine (lst_Params Y w2 hYs).mono ?_
          rw [HY.out]
          rintro e w3 ⟨⟨v, rfl⟩, L4⟩
          have L5 := stepW (stepW L2 L3) L4
          have hK5 := hK.belowW L5
          obtain ⟨j0, j1, j2, j3, j4, j5, j6, j7, i0, i1, i2, i3, i4, i5, i6, i7⟩ := Blk.c8 hK5.o.blk
          have hS2 := HS.out
          rw [ho] at hS2
          clear L3 L4 HX HY HS hXe hYe
          cases o with
          | none =>
            have HR := Lib.hid (cSize_none r s.data.toList (by rw [hS2]; split <;> rfl))
            clear hS2 ho
            go_wp2
            go_end0
            exact kpost hK5.set_ rfl (by rw [HR.out]; rfl) (by rw [HR.out]) (by rw [HR.out]) (by rw [HR.out])
          | some n =>
            cases hp : parOk (s.data.toList.drop k)
            · have HR := Lib.hid (cSize_none r s.data.toList (by rw [hS2, hp]; rfl))
              clear hS2 ho hp
              go_wp2
              go_end0
              exact kpost hK5.set_ rfl (by rw [HR.out]; rfl) (by rw [HR.out]) (by rw [HR.out]) (by rw [HR.out])
            · have h3 : sizeL s.data.toList = some n := by rw [hS2, hp]; rfl
              have hn := sizeL_nonneg _ _ h3
              clear hS2 ho hp
              by_cases hbig : 2048 - (r.body.length : Int) < n
              · have HR := Lib.hid (cSize_big r s.data.toList n h3 hbig)
                clear h3
                go_wp2
                go_end0
                exact kpost hK5.set_ rfl (by rw [HR.out]; rfl) (by rw [HR.out]) (by rw [HR.out]) (by rw [HR.out])
              · by_cases h0 : n = 0
                · subst h0
                  have HR := Lib.hid (cSize_zero r s.data.toList h3 hb)
                  clear h3
                  go_wp2
                  go_end0
                  exact kpost hK5.set_ rfl (by rw [HR.out]; rfl) (by rw [HR.out]) (by rw [HR.out]) (by rw [HR.out])
                · have HR := Lib.hid (cSize_some r s.data.toList n h3 hbig h0)
                  have hbig2 : n ≤ 2048 - (r.body.length : Int) := by omega
                  have hne : (n == 0) = false := by simpa using h0
                  clear h3 hbig h0
                  obtain ⟨u, rfl⟩ : ∃ u : Nat, n = u := ⟨n.toNat, by omega⟩
                  go_wp2
                  go_end0
                  exact kpost (hK5.set_.set_) rfl (by rw [HR.out]; rfl) (by rw [HR.out]) (by rw [HR.out]) (by rw [HR.out])
        · have hge : 6 ≤ k := by omega
          clear hst
          go_wp2_with fail
          refine (asc_Hex X _ (by unfold maxLen; omega)).mono ?_
          rw [HX.out]
          generalize ho : numR 16 12 (s.data.toList.take k) = o
          rintro e w2 ⟨rfl, L3⟩
          unfold numV
          go_wp2_with fail
          refine (lst_Params Y w2 hYs).mono ?_
          rw [HY.out]
          rintro e w3 ⟨⟨v, rfl⟩, L4⟩
          have L5 := stepW (stepW L2 L3) L4
          have hK5 := hK.belowW L5
          obtain ⟨j0, j1, j2, j3, j4, j5, j6, j7, i0, i1, i2, i3, i4, i5, i6, i7⟩ := Blk.c8 hK5.o.blk
          have hS2 := HS.out
          rw [ho] at hS2
          clear L3 L4 HX HY HS hXe hYe
          cases o with
          | none =>
            have HR := Lib.hid (cSize_none r s.data.toList (by rw [hS2]; split <;> rfl))
            clear hS2 ho
            go_wp2
            go_end0
            exact kpost hK5.set_ rfl (by rw [HR.out]; rfl) (by rw [HR.out]) (by rw [HR.out]) (by rw [HR.out])
          | some n =>
            cases hp : parOk (s.data.toList.drop k)
            · have HR := Lib.hid (cSize_none r s.data.toList (by rw [hS2, hp]; rfl))
              clear hS2 ho hp
              go_wp2
              go_end0
              exact kpost hK5.set_ rfl (by rw [HR.out]; rfl) (by rw [HR.out]) (by rw [HR.out]) (by rw [HR.out])
            · have h3 : sizeL s.data.toList = some n := by rw [hS2, hp]; rfl
              have hn := sizeL_nonneg _ _ h3
              clear hS2 ho hp
              by_cases hbig : 2048 - (r.body.length : Int) < n
              · have HR := Lib.hid (cSize_big r s.data.toList n h3 hbig)
                clear h3
                go_wp2
                go_end0
                exact kpost hK5.set_ rfl (by rw [HR.out]; rfl) (by rw [HR.out]) (by rw [HR.out]) (by rw [HR.out])
              · by_cases h0 : n = 0
                · subst h0
                  have HR := Lib.hid (cSize_zero r s.data.toList h3 hb)
                  clear h3
                  go_wp2
                  go_end0
                  exact kpost hK5.set_ rfl (by rw [HR.out]; rfl) (by rw [HR.out]) (by rw [HR.out]) (by rw [HR.out])
                · have HR := Lib.hid (cSize_some r s.data.toList n h3 hbig h0)
                  have hbig2 : n ≤ 2048 - (r.body.length : Int) := by omega
                  have hne : (n == 0) = false := by simpa using h0
                  clear h3 hbig h0
                  obtain ⟨u, rfl⟩ : ∃ u : Nat, n = u := ⟨n.toNat, by omega⟩
                  go_wp2
                  go_end0
                  exact kpost (hK5.set_.set_) rfl (by rw [HR.out]; rfl) (by rw [HR.out]) (by rw [HR.out]) (by rw [HR.out])
end Go.Proofs.YtfapnppgbhlidaaGreatDoor

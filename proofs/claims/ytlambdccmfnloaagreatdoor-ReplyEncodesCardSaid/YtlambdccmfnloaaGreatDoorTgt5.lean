/- target.Parse. -/
import Derived.Test.YtlambdccmfnloaaGreatDoorApp
import Derived.Deep.DeepCutAuto
namespace Go.Proofs.YtlambdccmfnloaaGreatDoor
open Go.RowKit
set_option maxRecDepth 100000
set_option maxHeartbeats 4000000

def httpB : Bs := [104, 116, 116, 112, 58, 47, 47]
def connB : Bs := [67, 79, 78, 78, 69, 67, 84]
def optB : Bs := [79, 80, 84, 73, 79, 78, 83]
def preB (p l : Bs) : Bool := p.isPrefixOf l
def absH (l : Bs) : Bs := fstB 63 (fstB 47 l)
def absR (l : Bs) : Bs := let r := l.drop (absH l).length; if preB [47] r then r else 47 :: r
/-- What stands behind http://. -/
def absL (l : Bs) : Tgt × Int := if hostL (absH l) then orgR ⟨2, lowL (absH l), [], []⟩ (absR l) else (tgt0, 8)
/-- A text as the target of a method. -/
def parseL (m l : Bs) : Tgt × Int :=
  if 200 < l.length then (tgt0, 9)
  else if m = connB then (if inB l 58 && hostL l then (⟨3, lowL l, [], []⟩, 0) else (tgt0, 8))
  else if m = optB ∧ l = [42] then (⟨4, [], [], []⟩, 0)
  else if preB [47] l then orgR ⟨1, [], [], []⟩ l
  else if preB httpB (lowL l) then absL (l.drop 7)
  else (tgt0, 8)
theorem idx_pos (l : Bs) (c : UInt8) : decide (0 ≤ Lib.indexByte l c) = inB l c := by
  have h := idx_in l c
  unfold inB
  cases hc : l.contains c
  · rw [hc] at h
    have : ¬ 0 ≤ Lib.indexByte l c := fun hh => by simpa using h.1 hh
    simp; omega
  · have := h.2 hc
    simp; omega
theorem lib_contains1 (s : ByteArray) (c : UInt8) (w : World) :
    Calls Tryz.prog 120 #[.string s, .string ⟨#[c]⟩] w fun e w' => e = .returned (.bool (inB s.data.toList c)) ∧ w = w' := by
  refine (Tryz.strings_Contains_one s c w).mono ?_
  rw [idx_pos]
  rintro e w' ⟨rfl, rfl⟩
  exact ⟨rfl, rfl⟩
theorem lib_pre (s p : ByteArray) (w : World) :
    Calls Tryz.prog 123 #[.string s, .string p] w fun e w' => e = .returned (.bool (preB p.data.toList s.data.toList)) ∧ w = w' := by
  refine (Tryz.strings_HasPrefix s p w).mono ?_
  rintro e w' ⟨rfl, rfl⟩
  exact ⟨rfl, rfl⟩
theorem lib_ib (s : ByteArray) (c : Int) (w : World) :
    Calls Tryz.prog 125 #[.string s, .int .u8 c] w fun e w' => e = .returned (.int .i64 (Lib.indexByte s.data.toList c.toNat.toUInt8)) ∧ w = w' := by
  refine (Tryz.strings_IndexByte s c w).mono ?_
  rintro e w' ⟨rfl, rfl⟩
  exact ⟨rfl, rfl⟩
theorem ib_cases (X : ByteArray) (c : UInt8) : (Lib.indexByte X.data.toList c = -1 ∧ fstB c X.data.toList = X.data.toList) ∨ ∃ k : Nat, Lib.indexByte X.data.toList c = k ∧ k < X.size ∧ fstB c X.data.toList = X.data.toList.take k := by
  have key : ∀ l : Bs, (Lib.indexByte l c = -1 ∧ fstB c l = l) ∨ ∃ k : Nat, Lib.indexByte l c = k ∧ k < l.length ∧ fstB c l = l.take k := by
    intro l
    induction l with
    | nil => exact .inl ⟨rfl, rfl⟩
    | cons b l ih =>
      by_cases h : b = c
      · subst h
        exact .inr ⟨0, by simp [Lib.indexByte], by simp, by simp [fstB]⟩
      · have hn : (b == c) = false := by simpa using h
        have hn2 : (b != c) = true := by simpa using h
        simp only [Lib.indexByte, hn, fstB, List.takeWhile_cons, hn2, if_true] at ih ⊢
        rcases ih with ⟨h1, h2⟩ | ⟨k, h1, h2, h3⟩
        · exact .inl ⟨by simp [h1], by rw [h2]⟩
        · refine .inr ⟨k + 1, ?_, by simp; omega, by simp [h3]⟩
          rw [h1]
          simp
  have := key X.data.toList
  rw [len_data] at this
  exact this
theorem pre_len (p l : Bs) (h : preB p l = true) : p.length ≤ l.length := by
  unfold preB at h
  exact (List.isPrefixOf_iff_prefix.1 h).length_le
theorem tgR_mk (t : Tgt) (e : Int) : tgR (t, e) = .tuple #[tgtV t, .int .i64 e] := rfl
theorem lowL_len (l : Bs) : (lowL l).length = l.length := by simp [lowL]
theorem tgt_Parse (m s : ByteArray) (w : World) (hs : s.size < 4294967281) (hm : ML w) :
    Calls Tryz.prog 77 #[.string m, .string s] w fun e w' => e = .returned (tgR (parseL m.data.toList s.data.toList)) ∧ Below w.heap.size w w' := by
  have eM : m.toList = m.data.toList := ByteArray.toList_eq _
  have eS : s.toList = s.data.toList := ByteArray.toList_eq _
  have hl := len_data s
  have hsm : s.size ≤ maxLen := by unfold maxLen; omega
  by_cases h200 : 200 < s.size
  · have HR := Lib.hid (show parseL m.data.toList s.data.toList = (tgt0, 9) by rw [parseL, if_pos (by omega)])
    clear eM eS hl hm hsm
    go_enter Tryz.func77, Tryz.ntmps77
    go_wp2
    refine bodyPost_ret (v := .tuple #[tgtV tgt0, .int .i64 9]) (by simp [results, Tryz.results77, go_sem, tgt0]) rfl ⟨by rw [HR.out]; rfl, ?_⟩
    repeat refine setW ?_ (by simp) _
    exact allocW (Below.refl _ _) _
  have hle : s.size ≤ 200 := by omega
  have e0 : ¬ (200 < s.data.toList.length) := by omega
  clear hl h200
  by_cases hC : m.data.toList = connB
  · have t1 : (m.toList == [67, 79, 78, 78, 69, 67, 84]) = true := by rw [eM, hC]; rfl
    cases hI : inB s.data.toList 58
    · have HR := Lib.hid (show parseL m.data.toList s.data.toList = (tgt0, 8) by rw [parseL, if_neg e0, if_pos hC, hI]; rfl)
      clear e0 hC eM eS hm hsm
      go_enter Tryz.func77, Tryz.ntmps77
      go_wp2_with fail
      refine (lib_contains1 s 58 _).mono ?_
      rw [hI]
      rintro e w1 ⟨rfl, rfl⟩
      clear hI
      go_wp2
      refine bodyPost_ret (v := .tuple #[tgtV tgt0, .int .i64 8]) (by simp [results, Tryz.results77, go_sem, tgt0]) rfl ⟨by rw [HR.out]; rfl, ?_⟩
      repeat refine setW ?_ (by simp) _
      exact allocW (Below.refl _ _) _
    · cases hH : hostL s.data.toList
      · have HR := Lib.hid (show parseL m.data.toList s.data.toList = (tgt0, 8) by rw [parseL, if_neg e0, if_pos hC, hI, hH]; rfl)
        clear e0 hC eM eS hsm
        go_enter Tryz.func77, Tryz.ntmps77
        go_wp2_with fail
        refine (lib_contains1 s 58 _).mono ?_
        rw [hI]
        rintro e w1 ⟨rfl, rfl⟩
        go_wp2_with fail
        obtain ⟨W2, hW⟩ : ∃ W2, W2 = w.alloc (.cells #[.int .i64 0, .string ⟨#[]⟩, .string ⟨#[]⟩, .string ⟨#[]⟩] 23) := ⟨_, rfl⟩
        rw [← hW]
        have B1 : Blk W2 w.heap.size 23 #[.int .i64 0, .string ⟨#[]⟩, .string ⟨#[]⟩, .string ⟨#[]⟩] := by rw [hW]; exact Blk.new' _ _ rfl _ _
        have LW : Below w.heap.size w W2 := by rw [hW]; exact allocW (Below.refl _ _) _
        have hm2 := hm.below LW (Nat.le_refl _)
        clear hW hm
        refine (tgt_Host s W2 hs hm2).mono ?_
        rw [hH]
        rintro e w1 ⟨rfl, L1⟩
        obtain ⟨j0, j1, j2, j3, i0, i1, i2, i3⟩ := (B1.belowW L1).c4
        have LL := stepW LW L1
        clear hI hH
        go_wp2
        refine bodyPost_ret (v := .tuple #[tgtV tgt0, .int .i64 8]) (by simp [results, Tryz.results77, go_sem, tgt0, j0, j1, j2, j3]) rfl ⟨by rw [HR.out]; rfl, ?_⟩
        repeat refine setW ?_ (by simp) _
        exact LL
      · have HR := Lib.hid (show parseL m.data.toList s.data.toList = (⟨3, lowL s.data.toList, [], []⟩, 0) by rw [parseL, if_neg e0, if_pos hC, hI, hH]; rfl)
        clear e0 hC eM eS
        go_enter Tryz.func77, Tryz.ntmps77
        go_wp2_with fail
        refine (lib_contains1 s 58 _).mono ?_
        rw [hI]
        rintro e w1 ⟨rfl, rfl⟩
        go_wp2_with fail
        obtain ⟨W2, hW⟩ : ∃ W2, W2 = w.alloc (.cells #[.int .i64 0, .string ⟨#[]⟩, .string ⟨#[]⟩, .string ⟨#[]⟩] 23) := ⟨_, rfl⟩
        rw [← hW]
        have B1 : Blk W2 w.heap.size 23 #[.int .i64 0, .string ⟨#[]⟩, .string ⟨#[]⟩, .string ⟨#[]⟩] := by rw [hW]; exact Blk.new' _ _ rfl _ _
        have LW : Below w.heap.size w W2 := by rw [hW]; exact allocW (Below.refl _ _) _
        have hm2 := hm.below LW (Nat.le_refl _)
        clear hW hm
        refine (tgt_Host s W2 hs hm2).mono ?_
        rw [hH]
        rintro e w1 ⟨rfl, L1⟩
        clear hI hH
        go_wp2_with fail
        refine (asc_Lower s w1 hsm).mono ?_
        rintro e w2 ⟨rfl, L2⟩
        obtain ⟨j0, j1, j2, j3, i0, i1, i2, i3⟩ := ((B1.belowW L1).belowW L2).c4
        have LL := stepW (stepW LW L1) L2
        go_wp2
        refine bodyPost_ret (v := .tuple #[tgtV ⟨3, lowL s.data.toList, [], []⟩, .int .i64 0]) (by simp [results, Tryz.results77, go_sem, j0, j1, j2, j3]) rfl ⟨by rw [HR.out]; rfl, ?_⟩
        repeat refine setW ?_ (by simp) _
        exact LL
  have t1 : (m.toList == [67, 79, 78, 78, 69, 67, 84]) = false := by rw [eM]; simpa [connB] using hC
  by_cases hO : m.data.toList = optB ∧ s.data.toList = [42]
  · have t2 : m.toList = [79, 80, 84, 73, 79, 78, 83] := by rw [eM, hO.1]; rfl
    have t3 : (s.toList == [42]) = true := by rw [eS, hO.2]; rfl
    have HR := Lib.hid (show parseL m.data.toList s.data.toList = (⟨4, [], [], []⟩, 0) by rw [parseL, if_neg e0, if_neg hC, if_pos hO])
    have T2 := Lib.hid t2
    have t2' : (m.toList == [79, 80, 84, 73, 79, 78, 83]) = true := by rw [t2]; rfl
    clear e0 hC eM eS hm hsm hO t1
    have t1 : (m.toList == [67, 79, 78, 78, 69, 67, 84]) = false := by rw [t2]; rfl
    go_enter Tryz.func77, Tryz.ntmps77
    go_wp2
    refine bodyPost_ret (v := .tuple #[tgtV ⟨4, [], [], []⟩, .int .i64 0]) (by simp [results, Tryz.results77, go_sem]) rfl ⟨by rw [HR.out]; rfl, ?_⟩
    repeat refine setW ?_ (by simp) _
    exact allocW (Below.refl _ _) _
  have t2 : m.toList = [79, 80, 84, 73, 79, 78, 83] → (s.toList == [42]) = false := by
    rw [eM, eS]; intro h; rw [Bool.eq_false_iff]; intro h2; exact hO ⟨h, by simpa using h2⟩
  have LW : Below w.heap.size w (w.alloc (.cells #[.int .i64 0, .string ⟨#[]⟩, .string ⟨#[]⟩, .string ⟨#[]⟩] 23)) := allocW (Below.refl _ _) _
  have B1 : Blk (w.alloc (.cells #[.int .i64 0, .string ⟨#[]⟩, .string ⟨#[]⟩, .string ⟨#[]⟩] 23)) w.heap.size 23 #[.int .i64 0, .string ⟨#[]⟩, .string ⟨#[]⟩, .string ⟨#[]⟩] := Blk.new' _ _ rfl _ _
  have hm2 := hm.below LW (Nat.le_refl _)
  clear hm
  have HO := Lib.hid hO
  have HC := Lib.hid hC
  have E0 := Lib.hid e0
  clear hO hC e0 eM eS
  go_enter Tryz.func77, Tryz.ntmps77
  go_upto_region 7 with (fail)
  go_cut [30] (fun v wx => v = .bool false ∧ wx = w.alloc (.cells #[.int .i64 0, .string ⟨#[]⟩, .string ⟨#[]⟩, .string ⟨#[]⟩] 23))
  case first =>
    by_cases hm7 : m.toList = [79, 80, 84, 73, 79, 78, 83]
    · have t4 := t2 hm7
      go_wp2_with fail
      go_meet
      case rel => exact ⟨rfl, rfl⟩
    · go_wp2_with fail
      go_meet
      case rel => exact ⟨rfl, rfl⟩
  case rest =>
    obtain ⟨rfl, rfl⟩ := hcut
    clear t2 t1
    obtain ⟨W2, hW⟩ : ∃ W2, W2 = w.alloc (.cells #[.int .i64 0, .string ⟨#[]⟩, .string ⟨#[]⟩, .string ⟨#[]⟩] 23) := ⟨_, rfl⟩
    rw [← hW] at B1 LW hm2 ⊢
    clear hW
    go_wp2_with fail
    refine (lib_pre s _ _).mono ?_
    rw [show (⟨#[47]⟩ : ByteArray).data.toList = [47] from rfl]
    cases hP : preB [47] s.data.toList
    · rintro e w1 ⟨rfl, rfl⟩
      go_wp2_with fail
      refine (asc_Lower s W2 hsm).mono ?_
      rintro e w1 ⟨rfl, L1⟩
      go_wp2_with fail
      refine (lib_pre _ _ _).mono ?_
      rw [show (⟨(lowL s.data.toList).toArray⟩ : ByteArray).data.toList = lowL s.data.toList from rfl, show (⟨#[104, 116, 116, 112, 58, 47, 47]⟩ : ByteArray).data.toList = httpB from rfl]
      cases hQ : preB httpB (lowL s.data.toList)
      · have HR := Lib.hid (show parseL m.data.toList s.data.toList = (tgt0, 8) by rw [parseL, if_neg E0.out, if_neg HC.out, if_neg HO.out, hP, hQ]; rfl)
        rintro e w2 ⟨rfl, rfl⟩
        obtain ⟨j0, j1, j2, j3, i0, i1, i2, i3⟩ := (B1.belowW L1).c4
        have LL := stepW LW L1
        clear hP hQ
        go_wp2
        refine bodyPost_ret (v := .tuple #[tgtV tgt0, .int .i64 8]) (by simp [results, Tryz.results77, go_sem, tgt0, j0, j1, j2, j3]) rfl ⟨by rw [HR.out]; rfl, ?_⟩
        repeat refine setW ?_ (by simp) _
        exact LL
      · have HR0 := Lib.hid (show parseL m.data.toList s.data.toList = absL (s.data.toList.drop 7) by rw [parseL, if_neg E0.out, if_neg HC.out, if_neg HO.out, hP, hQ]; rfl)
        have h7 := pre_len _ _ hQ
        rw [lowL_len, len_data] at h7
        have h7' : 7 ≤ s.size := h7
        rintro e w2 ⟨rfl, rfl⟩
        clear hP hQ h7
        have K1 := stepW LW L1
        have hm3 := hm2.below L1 (Nat.le_refl _)
        have B2 := B1.belowW L1
        clear B1 L1 LW hm2 HO HC E0
        obtain ⟨X, hX⟩ : ∃ X, X = s.extract 7 s.size := ⟨_, rfl⟩
        have hXl : X.data.toList = s.data.toList.drop 7 := by rw [hX, ext_from]
        have hXs : X.size ≤ 193 := by rw [hX, ext_size _ _ _ h7' (Nat.le_refl _)]; omega
        rw [← hXl] at HR0
        clear hXl
        go_wp2_with fail
        rw [← hX]
        clear hX
        refine (lib_ib X 47 w1).mono ?_
        rw [show (47 : Int).toNat.toUInt8 = 47 from rfl]
        have hx1 := ib_cases X 47
        generalize Lib.indexByte X.data.toList 47 = ix1 at hx1 ⊢
        rintro e w9 ⟨rfl, rfl⟩
        go_upto_if 56 with (fail)
        go_cut [7] (fun v wx => ∃ Y : ByteArray, v = .string Y ∧ Hid (Y.data.toList = fstB 47 X.data.toList) ∧ w1 = wx)
        case first =>
          rcases hx1 with ⟨h1, h2⟩ | ⟨k1, h1, hk1, h2⟩
          · have H2 := Lib.hid h2
            clear h2
            subst h1
            go_wp2_with fail
            go_meet
            case rel => exact ⟨X, rfl, H2.out.symm, rfl⟩
          · have H2 := Lib.hid h2
            clear h2
            subst h1
            go_wp2_with fail
            go_meet
            case rel => exact ⟨_, rfl, (by rw [ext_to, H2.out] : (X.extract 0 k1).data.toList = fstB 47 X.data.toList), rfl⟩
        case rest =>
          obtain ⟨Y, rfl, HY, rfl⟩ := hcut
          clear hx1
          have hYs : Y.size ≤ X.size := by rw [← len_data, ← len_data, HY.out]; exact fstB_len 47 _
          go_wp2_with fail
          refine (lib_ib Y 63 _).mono ?_
          rw [show (63 : Int).toNat.toUInt8 = 63 from rfl]
          have hx2 := ib_cases Y 63
          generalize Lib.indexByte Y.data.toList 63 = ix2 at hx2 ⊢
          rintro e w9 ⟨rfl, rfl⟩
          go_upto_if 63 with (fail)
          go_cut [7] (fun v wx => ∃ Z : ByteArray, v = .string Z ∧ Hid (Z.data.toList = fstB 63 Y.data.toList) ∧ w1 = wx)
          case first =>
            rcases hx2 with ⟨h1, h2⟩ | ⟨k1, h1, hk1, h2⟩
            · have H2 := Lib.hid h2
              clear h2
              subst h1
              go_wp2_with fail
              go_meet
              case rel => exact ⟨Y, rfl, H2.out.symm, rfl⟩
            · have H2 := Lib.hid h2
              clear h2
              subst h1
              go_wp2_with fail
              go_meet
              case rel => exact ⟨_, rfl, (by rw [ext_to, H2.out] : (Y.extract 0 k1).data.toList = fstB 63 Y.data.toList), rfl⟩
          case rest =>
            obtain ⟨Z, rfl, HZ0, rfl⟩ := hcut
            clear hx2
            have HZ : Hid (Z.data.toList = absH X.data.toList) := by rw [HZ0.out, absH, HY.out]; exact Lib.hid rfl
            have hZs : Z.size ≤ X.size := Nat.le_trans (by rw [← len_data, ← len_data, HZ0.out]; exact fstB_len 63 _) hYs
            clear HZ0 HY hYs
            go_wp2_with fail
            refine (tgt_Host Z _ (by omega) hm3).mono ?_
            rw [HZ.out]
            cases hH : hostL (absH X.data.toList)
            · have HR := Lib.hid (show parseL m.data.toList s.data.toList = (tgt0, 8) by rw [HR0.out, absL, hH]; rfl)
              clear hH
              rintro e w3 ⟨rfl, L3⟩
              obtain ⟨j0, j1, j2, j3, i0, i1, i2, i3⟩ := (B2.belowW L3).c4
              have LL := stepW K1 L3
              go_wp2
              refine bodyPost_ret (v := .tuple #[tgtV tgt0, .int .i64 8]) (by simp [results, Tryz.results77, go_sem, tgt0, j0, j1, j2, j3]) rfl ⟨by rw [HR.out]; rfl, ?_⟩
              repeat refine setW ?_ (by simp) _
              exact LL
            · have HR1 := Lib.hid (show parseL m.data.toList s.data.toList = orgR ⟨2, lowL Z.data.toList, [], []⟩ (absR X.data.toList) by rw [HR0.out, absL, hH, if_pos rfl, HZ.out])
              clear hH HR0
              rintro e w3 ⟨rfl, L3⟩
              obtain ⟨R, hR⟩ : ∃ R, R = X.extract Z.size X.size := ⟨_, rfl⟩
              have hRl : R.data.toList = X.data.toList.drop (absH X.data.toList).length := by rw [hR, ext_from, ← HZ.out, len_data]
              have hRs : R.size ≤ X.size := by rw [← len_data, ← len_data X, hRl, List.length_drop]; omega
              have HRl := Lib.hid hRl
              clear hRl
              go_wp2_with fail
              rw [← hR]
              clear hR
              refine (lib_pre R _ _).mono ?_
              rw [show (⟨#[47]⟩ : ByteArray).data.toList = [47] from rfl]
              cases hP2 : preB [47] R.data.toList
              · rintro e w9 ⟨rfl, rfl⟩
                obtain ⟨R2, hR2⟩ : ∃ R2, R2 = (⟨#[47]⟩ ++ R : ByteArray) := ⟨_, rfl⟩
                have hR2l : R2.data.toList = absR X.data.toList := by rw [hR2, app_data, absR, ← HRl.out, hP2]; rfl
                have hR2s : R2.size < 4294967281 := by rw [hR2, ByteArray.size_append]; show 1 + R.size < 4294967281; omega
                have hR2e : (⟨#[47]⟩ ++ R : ByteArray) = R2 := hR2.symm
                have HR := HR1
                clear hR2 hP2
                have B5 := B2.belowW L3
                clear B2
                have K3 := stepW K1 L3
                have hm4 := hm3.below L3 (Nat.le_refl _)
                go_wp2_with fail
                refine (asc_Lower Z w3 (by unfold maxLen; omega)).mono ?_
                rintro e w4 ⟨rfl, L4⟩
                have B6 := B5.belowW L4
                have K4 := stepW K3 L4
                have hm5 := hm4.below L4 (Nat.le_refl _)
                go_wp2_with fail
                refine (tgt_origin ⟨2, lowL Z.data.toList, [], []⟩ R2 w4 hR2s hm5).mono ?_
                rw [hR2l]
                generalize orgR ⟨2, lowL Z.data.toList, [], []⟩ (absR X.data.toList) = r at HR
                obtain ⟨t, er⟩ := r
                rw [tgR_mk]
                rintro e w5 ⟨rfl, L5⟩
                obtain ⟨j0, j1, j2, j3, i0, i1, i2, i3⟩ := (B6.belowW L5).c4
                have LL := stepW K4 L5
                go_wp2
                refine bodyPost_ret (v := .tuple #[tgtV t, .int .i64 er]) (by simp [results, Tryz.results77, go_sem, j0, j1, j2, j3]) rfl ⟨by rw [HR.out]; rfl, ?_⟩
                repeat refine setW ?_ (by simp) _
                exact LL
              · rintro e w9 ⟨rfl, rfl⟩
                obtain ⟨R2, hR2⟩ : ∃ R2, R2 = R := ⟨_, rfl⟩
                have hR2l : R2.data.toList = absR X.data.toList := by rw [hR2, absR, ← HRl.out, hP2]; rfl
                subst hR2
                have hR2s : R2.size < 4294967281 := by omega
                have HR := HR1
                clear hP2
                have B5 := B2.belowW L3
                clear B2
                have K3 := stepW K1 L3
                have hm4 := hm3.below L3 (Nat.le_refl _)
                go_wp2_with fail
                refine (asc_Lower Z w3 (by unfold maxLen; omega)).mono ?_
                rintro e w4 ⟨rfl, L4⟩
                have B6 := B5.belowW L4
                have K4 := stepW K3 L4
                have hm5 := hm4.below L4 (Nat.le_refl _)
                go_wp2_with fail
                refine (tgt_origin ⟨2, lowL Z.data.toList, [], []⟩ R2 w4 hR2s hm5).mono ?_
                rw [hR2l]
                generalize orgR ⟨2, lowL Z.data.toList, [], []⟩ (absR X.data.toList) = r at HR
                obtain ⟨t, er⟩ := r
                rw [tgR_mk]
                rintro e w5 ⟨rfl, L5⟩
                obtain ⟨j0, j1, j2, j3, i0, i1, i2, i3⟩ := (B6.belowW L5).c4
                have LL := stepW K4 L5
                go_wp2
                refine bodyPost_ret (v := .tuple #[tgtV t, .int .i64 er]) (by simp [results, Tryz.results77, go_sem, j0, j1, j2, j3]) rfl ⟨by rw [HR.out]; rfl, ?_⟩
                repeat refine setW ?_ (by simp) _
                exact LL
    · have HR := Lib.hid (show parseL m.data.toList s.data.toList = orgR ⟨1, [], [], []⟩ s.data.toList by rw [parseL, if_neg E0.out, if_neg HC.out, if_neg HO.out, if_pos hP])
      rintro e w1 ⟨rfl, rfl⟩
      go_wp2_with fail
      refine (tgt_origin ⟨1, [], [], []⟩ s W2 hs hm2).mono ?_
      generalize orgR ⟨1, [], [], []⟩ s.data.toList = r at HR
      obtain ⟨t, er⟩ := r
      rw [tgR_mk]
      rintro e w1 ⟨rfl, L1⟩
      obtain ⟨j0, j1, j2, j3, i0, i1, i2, i3⟩ := (B1.belowW L1).c4
      have LL := stepW LW L1
      clear hP
      go_wp2
      refine bodyPost_ret (v := .tuple #[tgtV t, .int .i64 er]) (by simp [results, Tryz.results77, go_sem, j0, j1, j2, j3]) rfl ⟨by rw [HR.out]; rfl, ?_⟩
      repeat refine setW ?_ (by simp) _
      exact LL
end Go.Proofs.YtlambdccmfnloaaGreatDoor

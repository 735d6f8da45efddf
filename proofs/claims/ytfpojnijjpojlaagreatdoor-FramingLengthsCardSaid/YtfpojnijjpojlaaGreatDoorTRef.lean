/- usherref11: Host, Decode. -/
import Derived.Test.YtfpojnijjpojlaaGreatDoorTgt2
namespace Go.Proofs.YtfpojnijjpojlaaGreatDoor
open Go.RowKit
set_option maxRecDepth 100000
set_option maxHeartbeats 1000000

theorem num_R (s : ByteArray) (w : World) (hs : s.size ≤ maxLen) :
    Calls Tryz.prog 66 #[.string s] w fun e w' => e = .returned (.tuple #[.int .i64 ((numO s.data.toList).getD 0), .bool (numO s.data.toList).isSome]) ∧ w = w' := ref_Num s w hs
theorem hostB_cases (b : UInt8) : hostB b = (alnumB b.toNat || ((b.toNat : Int) == 45) || ((b.toNat : Int) == 46)) := by
  have : ∀ x : Fin 256, hostB (UInt8.ofNat x.val) = (alnumB (UInt8.ofNat x.val).toNat || (((UInt8.ofNat x.val).toNat : Int) == 45) || (((UInt8.ofNat x.val).toNat : Int) == 46)) := by decide +kernel
  have h := this ⟨b.toNat, b.toNat_lt⟩
  simpa using h
theorem ref11_Host (s : ByteArray) (w : World) (hs : s.size ≤ maxLen) :
    Calls Tryz.prog 27 #[.string s] w fun e w' => e = .returned (.bool (hostL s.data.toList)) ∧ w = w' := by
  have hs' := hs
  unfold maxLen at hs
  rw [← hostR_eq]
  obtain ⟨HR, hHR⟩ : ∃ HR, HR = hostR s.data.toList := ⟨_, rfl⟩
  rw [← hHR]
  have HH := Lib.hid hHR
  clear hHR
  go_enter Tryz.func27, Tryz.ntmps27
  go_wp2
  go_loop [3] (fun i => ∃ k : Nat, k ≤ s.size ∧ i = .int .i64 k ∧ Hid (s.data.toList.takeWhile hostB = s.data.toList.take k ++ (s.data.toList.drop k).takeWhile hostB ∧ s.data.toList.dropWhile hostB = (s.data.toList.drop k).dropWhile hostB)) (fun i => s.size - (intOf i).toNat)
  case atStart => exact ⟨0, Nat.zero_le _, rfl, rfl, rfl⟩
  case round =>
    obtain ⟨k, hk, rfl, H⟩ := hrel
    have stop : (k = s.size ∨ ∃ b r, s.data.toList.drop k = b :: r ∧ hostB b = false) → s.data.toList.takeWhile hostB = s.data.toList.take k ∧ s.data.toList.dropWhile hostB = s.data.toList.drop k := by
      rintro (h | ⟨b, r, h1, h2⟩)
      · rw [H.out.1, H.out.2, drop_end s k (by omega)]; simp
      · rw [H.out.1, H.out.2, h1]; simp [h2]
    have ext : hostR s.data.toList = hostR s.data.toList := rfl
    clear ext
    by_cases hgo : ∃ b, s.data.toList.drop k = b :: s.data.toList.drop (k + 1) ∧ k < s.size ∧ PlainAid.bt s k = (b.toNat : Int) ∧ hostB b = true
    · obtain ⟨b, hb, hlt, hbt, hh⟩ := hgo
      have hbs := PlainAid.get_bt s
      have hb8 := u8lt b
      have H2 : Hid (s.data.toList.takeWhile hostB = s.data.toList.take (k + 1) ++ (s.data.toList.drop (k + 1)).takeWhile hostB ∧ s.data.toList.dropWhile hostB = (s.data.toList.drop (k + 1)).dropWhile hostB) := by
        have hkl : k < s.data.toList.length := by rw [len_data]; exact hlt
        refine ⟨?_, ?_⟩
        · rw [H.out.1, hb, List.takeWhile_cons, hh, if_pos rfl, List.take_succ_eq_append_getElem hkl]
          have : s.data.toList[k] = b := by
            have e := List.drop_eq_getElem_cons hkl
            rw [hb] at e
            exact (List.cons.inj e).1.symm
          rw [this]; simp
        · rw [H.out.2, hb, List.dropWhile_cons, hh, if_pos rfl]
      have hc := hostB_cases b
      rw [hh] at hc
      clear hb hh stop H
      rcases (show alnumB b.toNat = true ∨ (alnumB b.toNat = false ∧ ((b.toNat : Int) == 45) = true) ∨ (alnumB b.toNat = false ∧ ((b.toNat : Int) == 45) = false ∧ ((b.toNat : Int) == 46) = true) by
        revert hc; cases alnumB b.toNat <;> cases ((b.toNat : Int) == 45) <;> cases ((b.toNat : Int) == 46) <;> simp) with h1 | ⟨h1, h2⟩ | ⟨h1, h2, h3⟩
      all_goals
        clear hc
        go_wp2_with (go_at_call 65; refine (ref_Alnum _ _ (by omega) hb8).mono ?_; rintro e w' ⟨rfl, rfl⟩)
        go_round
        case rel => exact ⟨k + 1, by omega, by go_num, H2⟩
        case measure => simp [intOf]; omega
    · have hst : k = s.size ∨ ∃ b, k < s.size ∧ PlainAid.bt s k = (b.toNat : Int) ∧ s.data.toList.drop k = b :: s.data.toList.drop (k + 1) ∧ hostB b = false := by
        by_cases h : k < s.size
        · obtain ⟨b, hb, hbt⟩ := drop_bt s k h
          refine .inr ⟨b, h, hbt, hb, ?_⟩
          cases hh : hostB b
          · rfl
          · exact absurd ⟨b, hb, h, hbt, hh⟩ hgo
        · exact .inl (by omega)
      have hse := stop (hst.imp id fun ⟨b, _, _, h3, h4⟩ => ⟨b, _, h3, h4⟩)
      clear stop hgo H
      have hR : HR = (decide (1 ≤ k) && decide (k ≤ 100) && (match s.data.toList.drop k with | [] => true | b :: r => b == 58 && portL r)) := by
        rw [HH.out, hostR, hse.1, hse.2, List.length_take, len_data, Nat.min_eq_left hk]; rfl
      have HX := Lib.hid hR
      clear hR hse
      obtain ⟨R, hRe⟩ : ∃ R, R = s.extract k s.size := ⟨_, rfl⟩
      have hRl : R.data.toList = s.data.toList.drop k := by rw [hRe, ext_from]
      have hRs : R.size = s.size - k := by rw [← len_data, hRl, List.length_drop, len_data]
      rcases hst with h | ⟨b, hlt, hbt, hb, hh⟩
      · have hX2 : HR = (decide (1 ≤ k) && decide (k ≤ 100)) := by rw [HX.out, drop_end s k (by omega)]; simp
        have HX2 := Lib.hid hX2
        clear hX2 HX hRl hRs hRe
        subst h
        go_wp2
        all_goals go_ret
        all_goals exact ⟨retB (by rw [HX2.out]; by_cases a1 : 1 ≤ s.size <;> by_cases a2 : s.size ≤ 100 <;> simp [a1, a2] <;> omega), rfl⟩
      · have hX2 : HR = (decide (1 ≤ k) && decide (k ≤ 100) && (b == 58 && portL (s.data.toList.drop (k + 1)))) := by rw [HX.out, hb]
        have HX2 := Lib.hid hX2
        have hbs := PlainAid.get_bt s
        have hb8 := u8lt b
        have hc := hostB_cases b
        rw [hh] at hc
        have hc' := hc.symm
        rw [Bool.or_eq_false_iff, Bool.or_eq_false_iff] at hc'
        obtain ⟨⟨c1, c2⟩, c3⟩ := hc'
        rw [hRe] at hRl hRs
        have hR0 : PlainAid.bt (s.extract k s.size) 0 = (b.toNat : Int) := by
          obtain ⟨b', hb', hbt'⟩ := drop_bt (s.extract k s.size) 0 (by omega)
          rw [hbt']
          rw [List.drop_zero, hRl, hb] at hb'
          rw [(List.cons.inj hb').1]
        have hRe2 := ne_isEmpty (s := s.extract k s.size) (by omega)
        have hRb := PlainAid.get_bt (s.extract k s.size)
        obtain ⟨T, hTe⟩ : ∃ T, T = (s.extract k s.size).extract 1 (s.size - k) := ⟨_, rfl⟩
        have hTl : T.data.toList = s.data.toList.drop (k + 1) := by
          rw [hTe, show s.size - k = (s.extract k s.size).size from hRs.symm, ext_from, hRl, List.drop_drop]
        have hTs : T.size = s.size - (k + 1) := by rw [← len_data, hTl, List.length_drop, len_data]
        have HT := Lib.hid hTe
        rw [← hTl] at HX2
        have hb58 : (b = 58) ∨ ((b == 58) = false ∧ ¬ (b.toNat : Int) = 58) := by
          cases h : (b == 58)
          · exact .inr ⟨rfl, fun e => by have : b = 58 := u8inj (by simp; omega); subst this; simp at h⟩
          · exact .inl (beq_iff_eq.1 h)
        have HQ := Lib.hid (show portL T.data.toList = (decide (T.size ≤ 5) && (numO T.data.toList).any fun n => decide (n ≤ 65535)) by rw [← len_data]; rfl)
        clear hX2 HX hRl hc hh hb hRe hTl hTe
        have hT' := HT.out.symm
        have hTm : T.size ≤ maxLen := by unfold maxLen; omega
        rcases hb58 with rfl | ⟨b1, b2⟩
        · have hq : PlainAid.bt s k = 58 := hbt
          have hq0 : PlainAid.bt (s.extract k s.size) 0 = 58 := hR0
          have ha : alnumB 58 = false := by decide
          clear hbt hR0 c1 c2 c3 hb8
          cases hN : numO T.data.toList
          all_goals
            have HN := Lib.hid hN
            clear hN
            go_wp2_with (first
              | (go_at_call 65; refine (ref_Alnum 58 _ (by decide) (by decide)).mono ?_; rintro e w' ⟨rfl, rfl⟩)
              | (go_at_call 66; refine (num_R T _ hTm).mono ?_; rw [HN.out]; rintro e w' ⟨rfl, rfl⟩))
            all_goals go_ret
            all_goals exact ⟨retB (by rw [HX2.out, HQ.out, HN.out]; by_cases a1 : 1 ≤ k <;> by_cases a2 : k ≤ 100 <;> by_cases a3 : T.size ≤ 5 <;> simp [a1, a2, a3] <;> omega), rfl⟩
        · rw [b1] at HX2
          clear b1
          go_wp2_with (go_at_call 65; refine (ref_Alnum _ _ (by omega) hb8).mono ?_; rintro e w' ⟨rfl, rfl⟩)
          all_goals go_ret
          all_goals exact ⟨retB (by rw [HX2.out]; by_cases a1 : 1 ≤ k <;> by_cases a2 : k ≤ 100 <;> simp [a1, a2]), rfl⟩

end Go.Proofs.YtfpojnijjpojlaaGreatDoor

/- usherref10.Parse. -/
import Derived.Test.YtmjekdnfkgalbaaGreatDoorFPl
import Derived.Test.YtmjekdnfkgalbaaGreatDoorKon
import Derived.Test.YtmjekdnfkgalbaaGreatDoorIs10
import Derived.Deep.RegionWith
namespace Go.Proofs.YtmjekdnfkgalbaaGreatDoor
open Go.RowKit
set_option maxRecDepth 100000
set_option maxHeartbeats 4000000

theorem fst_step (l : Bs) (k : Nat) (b : UInt8) (hb : l.drop k = b :: l.drop (k + 1)) (hk : k < l.length) (hc : b ≠ 58) (h1 : (∀ c ∈ l.take k, c ≠ 58)) : ∀ c ∈ l.take (k + 1), c ≠ 58 := by
  intro c hm
  rw [List.take_succ_eq_append_getElem hk] at hm
  rcases List.mem_append.1 hm with hm | hm
  · exact h1 c hm
  · rw [List.mem_singleton] at hm
    have h2 := List.drop_eq_getElem_cons hk
    rw [hb] at h2
    rw [hm, ← (List.cons.inj h2).1]; exact hc
theorem fst_hit (l : Bs) (k : Nat) (hb : l.drop k = 58 :: l.drop (k + 1)) (h1 : (∀ c ∈ l.take k, c ≠ 58)) : fstB 58 l = l.take k ∧ sndB 58 l = l.drop (k + 1) ∧ hasB 58 l = true := by
  have e : l = l.take k ++ 58 :: l.drop (k + 1) := by rw [← hb, List.take_append_drop]
  have key : ∀ a r : Bs, (∀ c ∈ a, c ≠ 58) → fstB 58 (a ++ 58 :: r) = a ∧ sndB 58 (a ++ 58 :: r) = r ∧ hasB 58 (a ++ 58 :: r) = true := by
    intro a r ha
    induction a with
    | nil => simp [fstB, sndB, hasB]
    | cons c a ih =>
      have h2 : (c != 58) = true := by rw [bne_iff_ne]; exact ha c (by simp)
      obtain ⟨i1, i2, i3⟩ := ih fun x hx => ha x (by simp [hx])
      unfold fstB sndB hasB at *
      simp only [List.cons_append, List.takeWhile_cons, List.dropWhile_cons, h2, if_true]
      exact ⟨by rw [i1], i2, i3⟩
  have := key (l.take k) (l.drop (k + 1)) h1
  rw [← e] at this
  exact this
theorem fst_none (l : Bs) (h1 : ∀ c ∈ l, c ≠ 58) : hasB 58 l = false := by
  cases h : hasB 58 l
  · rfl
  · exact absurd rfl (h1 58 ((hasB_mem 58 l).1 h))
theorem ref_TrimN (s : ByteArray) (w : World) (hs : s.size ≤ maxLen) :
    Calls Tryz.prog 83 #[.string s] w fun e w' => ∃ X : ByteArray, e = .returned (.string X) ∧ X.data.toList = trimL s.data.toList ∧ w = w' := ref_Trim s w hs
theorem ref10_Parse (s : ByteArray) (w : World) :
    Calls Tryz.prog 72 #[.string s] w fun e w' => (∃ (N M : ByteArray) (er : Int), e = .returned (.tuple #[.agg #[.string N, .string M], .int .i64 er]) ∧
      ((parseF s.data.toList = some (N.data.toList, M.data.toList) ∧ er = 0) ∨ (parseF s.data.toList = none ∧ (er = 8 ∨ er = 9)))) ∧ Below w.heap.size w w' := by
  have hl := len_data s
  have LW : Below w.heap.size w (w.alloc (.cells #[.string ⟨#[]⟩, .string ⟨#[]⟩] 58)) := allocW (Below.refl _ _) _
  have B1 : Blk (w.alloc (.cells #[.string ⟨#[]⟩, .string ⟨#[]⟩] 58)) w.heap.size 58 #[.string ⟨#[]⟩, .string ⟨#[]⟩] := Blk.new' _ _ rfl _ _
  by_cases h256 : 256 < s.size
  · have HR := Lib.hid (show parseF s.data.toList = none by rw [parseF, if_pos (by omega)])
    clear hl
    go_enter Tryz.func72, Tryz.ntmps72
    go_wp2
    refine bodyPost_ret (v := .tuple #[.agg #[.string ⟨#[]⟩, .string ⟨#[]⟩], .int .i64 9]) (by simp [results, Tryz.results72, go_sem]) rfl ⟨⟨⟨#[]⟩, ⟨#[]⟩, 9, rfl, .inr ⟨HR.out, .inr rfl⟩⟩, ?_⟩
    repeat refine setW ?_ (by simp) _
    exact allocW (Below.refl _ _) _
  have hle : s.size ≤ 256 := by omega
  go_enter Tryz.func72, Tryz.ntmps72
  go_wp2_with fail
  obtain ⟨V, hV⟩ : ∃ V, V = w.alloc (.cells #[.string ⟨#[]⟩, .string ⟨#[]⟩] 58) := ⟨_, rfl⟩
  rw [← hV] at B1 LW ⊢
  clear hV
  go_loopw [4] (fun i wr => ∃ k : Nat, k ≤ s.size ∧ i = .int .i64 k ∧ Hid (∀ c ∈ s.data.toList.take k, c ≠ 58) ∧ V = wr) (fun i _ => s.size - (intOf i).toNat)
  case atStart => exact ⟨0, Nat.zero_le _, rfl, Lib.hid (by simp), rfl⟩
  case round =>
    obtain ⟨k, hk, rfl, H, rfl⟩ := hrel
    obtain ⟨j0, j1, i0, i1⟩ := B1.c2
    by_cases hlt : k < s.size
    · obtain ⟨b, hb, hbt⟩ := drop_bt s k hlt
      have hbs := PlainAid.get_bt s
      by_cases h58 : b = 58
      · subst h58
        obtain ⟨q1, q2, q3⟩ := fst_hit _ k hb H.out
        have HP := Lib.hid (parseF_yes s.data.toList q3 (by omega) _ rfl)
        rw [q1, q2] at HP
        obtain ⟨N, hN⟩ : ∃ N, N = s.extract 0 k := ⟨_, rfl⟩
        obtain ⟨M0, hM0⟩ : ∃ M0, M0 = s.extract (k + 1) s.size := ⟨_, rfl⟩
        have hNl : N.data.toList = s.data.toList.take k := by rw [hN, ext_to]
        have hMl : M0.data.toList = s.data.toList.drop (k + 1) := by rw [hM0, ext_from]
        have hNs : N.size ≤ 256 := by rw [hN, ext_size _ _ _ (Nat.zero_le _) hk]; omega
        have hMs : M0.size ≤ 256 := by rw [hM0, ext_size _ _ _ (by omega) (Nat.le_refl _)]; omega
        rw [← hNl, ← hMl] at HP
        have hNe := hN.symm
        have hMe := hM0.symm
        clear hN hM0 hNl hMl q1 q2 q3 hb H
        have hk1 : (k : Int) + 1 ≤ (s.size : Int) := by omega
        have hk0 : (0 : Int) ≤ (k : Int) + 1 := by omega
        have hTr := fun w => ref_TrimN M0 w (by unfold maxLen; omega)
        go_wp2
        have hw : IntKind.i64.wrap ((k : Int) + 1) = (k : Int) + 1 := by rw [IntKind.wrap_i64]; omega
        go_region_with ((go_at_call 83; refine (hTr _).mono ?_; rintro e w4 ⟨X, rfl, hX, rfl⟩))
        all_goals
          have L5 := Below.drew (allocW LW (.cells #[.string N, .string X] 58))
          have B5 := (B1.alloc (.cells #[.string N, .string X] 58)).drew
          have C5 : Blk (V.alloc (.cells #[.string N, .string X] 58)).drew V.heap.size 58 #[.string N, .string X] := Blk.drew (Blk.new' _ _ rfl _ _)
          have hXs : X.size ≤ 1000000 := by rw [← len_data, hX]; refine Nat.le_trans (trimL_le _) ?_; rw [len_data]; omega
          rw [← hX] at HP
          clear hX hTr j0 j1 i0 i1
          generalize (V.alloc (.cells #[.string N, .string X] 58)).drew = V5 at L5 B5 C5 ⊢
          obtain ⟨j0, j1, i0, i1⟩ := B5.c2
          obtain ⟨k0, k1, n0, n1⟩ := C5.c2
          have hlt5 := B1.lt
          go_wp2_with fail
          refine (ref10_Is' N X V5 (by omega) hXs).mono ?_
          rintro e w6 ⟨rfl, L6⟩
          clear j0 j1 i0 i1 k0 k1 n0 n1
          obtain ⟨j0, j1, i0, i1⟩ := (B5.belowW L6).c2
          obtain ⟨k0, k1, n0, n1⟩ := (C5.belowW L6).c2
          have L7 := stepW L5 L6
          cases hi : isF (N.data.toList, X.data.toList)
          · have HR := Lib.hid (HP.out.trans (if_neg (by rw [hi]; decide)))
            clear hi
            go_wp2
            refine bodyPost_ret (v := .tuple #[.agg #[.string ⟨#[]⟩, .string ⟨#[]⟩], .int .i64 8]) (by simp [results, Tryz.results72, go_sem, j0, j1]) rfl ⟨⟨⟨#[]⟩, ⟨#[]⟩, 8, rfl, .inr ⟨HR.out, .inl rfl⟩⟩, ?_⟩
            repeat refine setW ?_ (by simp) _
            exact L7
          · have HR := Lib.hid (HP.out.trans (if_pos hi))
            clear hi
            go_wp2
            refine bodyPost_ret (v := .tuple #[.agg #[.string N, .string X], .int .i64 0]) (by simp [results, Tryz.results72, go_sem, j0, j1]) rfl ⟨⟨N, X, 0, rfl, .inl ⟨HR.out, rfl⟩⟩, ?_⟩
            repeat refine setW ?_ (by simp) _
            exact L7
      · have c1 := u8ne h58 (n := 58) rfl
        have HN := Lib.hid (fst_step _ k b hb (by omega) h58 H.out)
        clear hb H h58
        go_wp2
        go_roundw
        case rel => exact ⟨k + 1, by omega, by go_num, HN, by first | rfl | trivial⟩
        case measure => simp [intOf]; omega
    · have HR := Lib.hid (parseF_no s.data.toList (fst_none _ fun c hc => H.out c (by rw [List.take_of_length_le (by omega)]; exact hc)))
      clear H
      go_wp2
      refine bodyPost_ret (v := .tuple #[.agg #[.string ⟨#[]⟩, .string ⟨#[]⟩], .int .i64 8]) (by simp [results, Tryz.results72, go_sem, j0, j1]) rfl ⟨⟨⟨#[]⟩, ⟨#[]⟩, 8, rfl, .inr ⟨HR.out, .inl rfl⟩⟩, ?_⟩
      repeat refine setW ?_ (by simp) _
      exact LW
end Go.Proofs.YtmjekdnfkgalbaaGreatDoor

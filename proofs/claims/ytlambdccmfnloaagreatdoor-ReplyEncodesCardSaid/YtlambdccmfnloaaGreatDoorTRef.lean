/- usherref11: Host, Decode. usherref11.Decode. usherref11.Clean. usherref11: allowed, origin. -/
import Derived.Test.YtlambdccmfnloaaGreatDoorApp
namespace Go.Proofs.YtlambdccmfnloaaGreatDoor
open Go.RowKit
set_option maxRecDepth 100000
set_option maxHeartbeats 1000000

theorem num_R (s : ByteArray) (w : World) (hs : s.size ≤ maxLen) :
    Calls Tryz.prog 112 #[.string s] w fun e w' => e = .returned (.tuple #[.int .i64 ((numO s.data.toList).getD 0), .bool (numO s.data.toList).isSome]) ∧ w = w' := ref_Num s w hs
theorem hostB_cases (b : UInt8) : hostB b = (alnumB b.toNat || ((b.toNat : Int) == 45) || ((b.toNat : Int) == 46)) := by
  have : ∀ x : Fin 256, hostB (UInt8.ofNat x.val) = (alnumB (UInt8.ofNat x.val).toNat || (((UInt8.ofNat x.val).toNat : Int) == 45) || (((UInt8.ofNat x.val).toNat : Int) == 46)) := by decide +kernel
  have h := this ⟨b.toNat, b.toNat_lt⟩
  simpa using h
theorem ref11_Host (s : ByteArray) (w : World) (hs : s.size ≤ maxLen) :
    Calls Tryz.prog 132 #[.string s] w fun e w' => e = .returned (.bool (hostL s.data.toList)) ∧ w = w' := by
  have hs' := hs
  unfold maxLen at hs
  rw [← hostR_eq]
  obtain ⟨HR, hHR⟩ : ∃ HR, HR = hostR s.data.toList := ⟨_, rfl⟩
  rw [← hHR]
  have HH := Lib.hid hHR
  clear hHR
  go_enter Tryz.func132, Tryz.ntmps132
  go_wp2
  go_loop [3] (fun i => ∃ k : Nat, k ≤ s.size ∧ i = .int .i64 k ∧ Hid (s.data.toList.takeWhile hostB = s.data.toList.take k ++ (s.data.toList.drop k).takeWhile hostB ∧ s.data.toList.dropWhile hostB = (s.data.toList.drop k).dropWhile hostB)) (fun i => s.size - (intOf i).toNat)
  case atStart => exact ⟨0, Nat.zero_le _, rfl, rfl, rfl⟩
  case round =>
    obtain ⟨k, hk, rfl, H⟩ := hrel
    have stop : (k = s.size ∨ ∃ b r, s.data.toList.drop k = b :: r ∧ hostB b = false) → s.data.toList.takeWhile hostB = s.data.toList.take k ∧ s.data.toList.dropWhile hostB = s.data.toList.drop k := by
      rintro (h | ⟨b, r, h1, h2⟩)
      · rw [H.out.1, H.out.2, drop_end s k (by omega)]; simp
      · rw [H.out.1, H.out.2, h1]; simp [h2]
    have ext : hostR s.data.toList = hostR s.data.toList := rfl
    clear ext
    by_cases hgo : ∃ b, s.data.toList.drop k = b :: s.data.toList.drop (k + 1) ∧ k < s.size ∧ PlainAid.bt s k = (b.toNat : Int) ∧ hostB b = true
    · obtain ⟨b, hb, hlt, hbt, hh⟩ := hgo
      have hbs := PlainAid.get_bt s
      have hb8 := u8lt b
      have H2 : Hid (s.data.toList.takeWhile hostB = s.data.toList.take (k + 1) ++ (s.data.toList.drop (k + 1)).takeWhile hostB ∧ s.data.toList.dropWhile hostB = (s.data.toList.drop (k + 1)).dropWhile hostB) := by
        have hkl : k < s.data.toList.length := by rw [len_data]; exact hlt
        refine ⟨?_, ?_⟩
        · rw [H.out.1, hb, List.takeWhile_cons, hh, if_pos rfl, List.take_succ_eq_append_getElem hkl]
          have : s.data.toList[k] = b := by
            have e := List.drop_eq_getElem_cons hkl
            rw [hb] at e
            exact (List.cons.inj e).1.symm
          rw [this]; simp
        · rw [H.out.2, hb, List.dropWhile_cons, hh, if_pos rfl]
      have hc := hostB_cases b
      rw [hh] at hc
      clear hb hh stop H
      rcases (show alnumB b.toNat = true ∨ (alnumB b.toNat = false ∧ ((b.toNat : Int) == 45) = true) ∨ (alnumB b.toNat = false ∧ ((b.toNat : Int) == 45) = false ∧ ((b.toNat : Int) == 46) = true) by
        revert hc; cases alnumB b.toNat <;> cases ((b.toNat : Int) == 45) <;> cases ((b.toNat : Int) == 46) <;> simp) with h1 | ⟨h1, h2⟩ | ⟨h1, h2, h3⟩
      all_goals
        clear hc
        go_wp2_with (go_at_call 130; refine (ref_Alnum _ _ (by omega) hb8).mono ?_; rintro e w' ⟨rfl, rfl⟩)
        go_round
        case rel => exact ⟨k + 1, by omega, by go_num, H2⟩
        case measure => simp [intOf]; omega
    · have hst : k = s.size ∨ ∃ b, k < s.size ∧ PlainAid.bt s k = (b.toNat : Int) ∧ s.data.toList.drop k = b :: s.data.toList.drop (k + 1) ∧ hostB b = false := by
        by_cases h : k < s.size
        · obtain ⟨b, hb, hbt⟩ := drop_bt s k h
          refine .inr ⟨b, h, hbt, hb, ?_⟩
          cases hh : hostB b
          · rfl
          · exact absurd ⟨b, hb, h, hbt, hh⟩ hgo
        · exact .inl (by omega)
      have hse := stop (hst.imp id fun ⟨b, _, _, h3, h4⟩ => ⟨b, _, h3, h4⟩)
      clear stop hgo H
      have hR : HR = (decide (1 ≤ k) && decide (k ≤ 100) && (match s.data.toList.drop k with | [] => true | b :: r => b == 58 && portL r)) := by
        rw [HH.out, hostR, hse.1, hse.2, List.length_take, len_data, Nat.min_eq_left hk]; rfl
      have HX := Lib.hid hR
      clear hR hse
      obtain ⟨R, hRe⟩ : ∃ R, R = s.extract k s.size := ⟨_, rfl⟩
      have hRl : R.data.toList = s.data.toList.drop k := by rw [hRe, ext_from]
      have hRs : R.size = s.size - k := by rw [← len_data, hRl, List.length_drop, len_data]
      rcases hst with h | ⟨b, hlt, hbt, hb, hh⟩
      · have hX2 : HR = (decide (1 ≤ k) && decide (k ≤ 100)) := by rw [HX.out, drop_end s k (by omega)]; simp
        have HX2 := Lib.hid hX2
        clear hX2 HX hRl hRs hRe
        subst h
        go_wp2
        all_goals go_ret
        all_goals exact ⟨retB (by rw [HX2.out]; by_cases a1 : 1 ≤ s.size <;> by_cases a2 : s.size ≤ 100 <;> simp [a1, a2] <;> omega), rfl⟩
      · have hX2 : HR = (decide (1 ≤ k) && decide (k ≤ 100) && (b == 58 && portL (s.data.toList.drop (k + 1)))) := by rw [HX.out, hb]
        have HX2 := Lib.hid hX2
        have hbs := PlainAid.get_bt s
        have hb8 := u8lt b
        have hc := hostB_cases b
        rw [hh] at hc
        have hc' := hc.symm
        rw [Bool.or_eq_false_iff, Bool.or_eq_false_iff] at hc'
        obtain ⟨⟨c1, c2⟩, c3⟩ := hc'
        rw [hRe] at hRl hRs
        have hR0 : PlainAid.bt (s.extract k s.size) 0 = (b.toNat : Int) := by
          obtain ⟨b', hb', hbt'⟩ := drop_bt (s.extract k s.size) 0 (by omega)
          rw [hbt']
          rw [List.drop_zero, hRl, hb] at hb'
          rw [(List.cons.inj hb').1]
        have hRe2 := ne_isEmpty (s := s.extract k s.size) (by omega)
        have hRb := PlainAid.get_bt (s.extract k s.size)
        obtain ⟨T, hTe⟩ : ∃ T, T = (s.extract k s.size).extract 1 (s.size - k) := ⟨_, rfl⟩
        have hTl : T.data.toList = s.data.toList.drop (k + 1) := by
          rw [hTe, show s.size - k = (s.extract k s.size).size from hRs.symm, ext_from, hRl, List.drop_drop]
        have hTs : T.size = s.size - (k + 1) := by rw [← len_data, hTl, List.length_drop, len_data]
        have HT := Lib.hid hTe
        rw [← hTl] at HX2
        have hb58 : (b = 58) ∨ ((b == 58) = false ∧ ¬ (b.toNat : Int) = 58) := by
          cases h : (b == 58)
          · exact .inr ⟨rfl, fun e => by have : b = 58 := u8inj (by simp; omega); subst this; simp at h⟩
          · exact .inl (beq_iff_eq.1 h)
        have HQ := Lib.hid (show portL T.data.toList = (decide (T.size ≤ 5) && (numO T.data.toList).any fun n => decide (n ≤ 65535)) by rw [← len_data]; rfl)
        clear hX2 HX hRl hc hh hb hRe hTl hTe
        have hT' := HT.out.symm
        have hTm : T.size ≤ maxLen := by unfold maxLen; omega
        rcases hb58 with rfl | ⟨b1, b2⟩
        · have hq : PlainAid.bt s k = 58 := hbt
          have hq0 : PlainAid.bt (s.extract k s.size) 0 = 58 := hR0
          have ha : alnumB 58 = false := by decide
          clear hbt hR0 c1 c2 c3 hb8
          cases hN : numO T.data.toList
          all_goals
            have HN := Lib.hid hN
            clear hN
            go_wp2_with (first
              | (go_at_call 130; refine (ref_Alnum 58 _ (by decide) (by decide)).mono ?_; rintro e w' ⟨rfl, rfl⟩)
              | (go_at_call 112; refine (num_R T _ hTm).mono ?_; rw [HN.out]; rintro e w' ⟨rfl, rfl⟩))
            all_goals go_ret
            all_goals exact ⟨retB (by rw [HX2.out, HQ.out, HN.out]; by_cases a1 : 1 ≤ k <;> by_cases a2 : k ≤ 100 <;> by_cases a3 : T.size ≤ 5 <;> simp [a1, a2, a3] <;> omega), rfl⟩
        · rw [b1] at HX2
          clear b1
          go_wp2_with (go_at_call 130; refine (ref_Alnum _ _ (by omega) hb8).mono ?_; rintro e w' ⟨rfl, rfl⟩)
          all_goals go_ret
          all_goals exact ⟨retB (by rw [HX2.out]; by_cases a1 : 1 ≤ k <;> by_cases a2 : k ≤ 100 <;> simp [a1, a2]), rfl⟩

end Go.Proofs.YtlambdccmfnloaaGreatDoor
namespace Go.Proofs.YtlambdccmfnloaaGreatDoor
open Go.RowKit
set_option maxRecDepth 100000
set_option maxHeartbeats 1000000

theorem quiet_left {P : Program} {f : FuncId} {args : Array Value} {w : World} {n : Nat} {v : Value}
    (h : Calls P f args (w.drewN n) fun e w' => e = .returned v ∧ w.drewN n = w') : Calls P f args (w.drewN n) fun e w'' => e = .returned v ∧ ∃ m, w'' = w.drewN m :=
  h.mono fun _ _ ⟨he, hm⟩ => ⟨he, n, hm.symm⟩
theorem or4 (a b : Int) (a0 : 0 ≤ a) (ha : a ≤ 15) (b0 : 0 ≤ b) (hb : b ≤ 15) : bits BinOp.or IntKind.i64 (a * 16) b = a * 16 + b := by
  have : ∀ x y : Fin 16, bits BinOp.or IntKind.i64 ((x.val : Int) * 16) (y.val : Int) = (x.val : Int) * 16 + y.val := by decide +kernel
  have h := this ⟨a.toNat, by omega⟩ ⟨b.toNat, by omega⟩
  simp only [Int.toNat_of_nonneg a0, Int.toNat_of_nonneg b0] at h
  exact h
/-! ### Decode -/
theorem ref11_Decode (s : ByteArray) (w : World) (hs : s.size < 4294967281) :
    Calls Tryz.prog 176 #[.string s] w fun e w' => e = .returned (decR (decodeL s.data.toList)) ∧ Below w.heap.size w w' := by
  go_enter Tryz.func176, Tryz.ntmps176
  go_wp2
  go_loopw [4, 5] (fun v i wr => ∃ (k : Nat) (l : Bs), k ≤ s.size ∧ i = .int .i64 k ∧ OB wr w.heap.size v l ∧ l.length ≤ k ∧ Hid (decodeL s.data.toList = (decodeL (s.data.toList.drop k)).map (l ++ ·)) ∧ Below w.heap.size w wr) (fun _ i _ => s.size - (intOf i).toNat)
  case atStart => exact ⟨0, [], Nat.zero_le _, rfl, OB.nil _ _, Nat.le_refl _, by show decodeL s.data.toList = _; simp, Below.refl _ _⟩
  case round =>
    obtain ⟨k, l, hk, rfl, ho, hl, H, L⟩ := hrel
    by_cases hlt : k < s.size
    · obtain ⟨b, hb, hbt⟩ := drop_bt s k hlt
      have hbs := PlainAid.get_bt s
      have hb8 := u8lt b
      have hS := L.size
      by_cases hp : b = 37
      · subst hp
        have hq : PlainAid.bt s k = 37 := hbt
        clear hbt
        by_cases h2 : k + 2 < s.size
        · obtain ⟨x, hx, hxt⟩ := drop_bt s (k + 1) (by omega)
          obtain ⟨y, hy, hyt⟩ := drop_bt s (k + 2) (by omega)
          have hx8 := u8lt x
          have hy8 := u8lt y
          have dx := digB_le x.toNat (by omega) hx8
          have dy := digB_le y.toNat (by omega) hy8
          have gx := digB_ge x.toNat
          have gy := digB_ge y.toNat
          have hD : decodeL s.data.toList = ((pctL x y).bind fun z => (decodeL (s.data.toList.drop (k + 3))).map (z :: ·)).map (l ++ ·) := by rw [H.out, hb, hx, hy, decodeL_pct]
          have HD := Lib.hid hD
          have hpc : (pctL x y = none ∧ (digB x.toNat < 0 ∨ (0 ≤ digB x.toNat ∧ digB y.toNat < 0) ∨ (0 ≤ digB x.toNat ∧ 0 ≤ digB y.toNat ∧ digB x.toNat * 16 + digB y.toNat = 0))) ∨ (∃ z : UInt8, pctL x y = some z ∧ 0 ≤ digB x.toNat ∧ 0 ≤ digB y.toNat ∧ digB x.toNat * 16 + digB y.toNat = (z.toNat : Int) ∧ 1 ≤ (z.toNat : Int) ∧ (z.toNat : Int) ≤ 255) := by
            unfold pctL
            split
            · exact .inl ⟨rfl, by omega⟩
            · refine .inr ⟨_, rfl, by omega, by omega, ?_, ?_, ?_⟩ <;> rw [UInt8.toNat_ofNat'] <;> omega
          clear hD H hb hx hy
          generalize hdx : digB x.toNat = DX at *
          generalize hdy : digB y.toNat = DY at *
          rcases hpc with ⟨hpc, hc⟩ | ⟨z, hpc, z1, z2, z3, z4, z5⟩
          · rw [hpc] at HD
            clear hpc
            rcases hc with h | ⟨h, h'⟩ | ⟨h, h', h''⟩
            · go_wp2_with (go_at_call 196; refine (ref_Digit _ _ (by omega) (by omega)).mono ?_; rintro e w' ⟨rfl, rfl⟩)
              go_ret2
              exact ⟨by rw [HD.out]; rfl, L⟩
            · go_wp2_with (go_at_call 196; refine (ref_Digit _ _ (by omega) (by omega)).mono ?_; rintro e w' ⟨rfl, rfl⟩)
              go_ret2
              exact ⟨by rw [HD.out]; rfl, L⟩
            · go_wp2_with (go_at_call 196; refine (ref_Digit _ _ (by omega) (by omega)).mono ?_; rintro e w' ⟨rfl, rfl⟩)
              have hz : bits BinOp.or IntKind.i64 (DX * 16) DY % 256 = 0 := by rw [or4 DX DY h dx h' dy]; omega
              have q1 : IntKind.i64.wrap ((k : Int) + 1) = (k : Int) + 1 := IntWalk.i64_in _ (by omega)
              have q2 : IntKind.i64.wrap ((k : Int) + 2) = (k : Int) + 2 := IntWalk.i64_in _ (by omega)
              have q3 : ((k : Int) + 1).toNat = k + 1 := by omega
              have q4 : ((k : Int) + 2).toNat = k + 2 := by omega
              have q5 : (0 : Int) ≤ (k : Int) + 1 := by omega
              have q6 : (0 : Int) ≤ (k : Int) + 2 := by omega
              have q7 : (k : Int) + 1 < s.size := by omega
              go_quiet ((go_at_call 196; exact quiet_left (ref_Digit _ _ (by omega) (by omega))))
              go_wp2
              go_ret2
              exact ⟨by rw [HD.out]; rfl, below_drewN' L _⟩
          · rw [hpc] at HD
            go_wp2_with (go_at_call 196; refine (ref_Digit _ _ (by omega) (by omega)).mono ?_; rintro e w' ⟨rfl, rfl⟩)
            have hz : bits BinOp.or IntKind.i64 (DX * 16) DY % 256 = (z.toNat : Int) := by rw [or4 DX DY z1 dx z2 dy]; omega
            have hz0 : ((z.toNat : Int) == 0) = false := by rw [Bool.eq_false_iff]; intro e; have := beq_iff_eq.1 e; omega
            clear hpc z3 z4
            have q1 : IntKind.i64.wrap ((k : Int) + 1) = (k : Int) + 1 := IntWalk.i64_in _ (by omega)
            have q2 : IntKind.i64.wrap ((k : Int) + 2) = (k : Int) + 2 := IntWalk.i64_in _ (by omega)
            have q3 : ((k : Int) + 1).toNat = k + 1 := by omega
            have q4 : ((k : Int) + 2).toNat = k + 2 := by omega
            have q5 : (0 : Int) ≤ (k : Int) + 1 := by omega
            have q6 : (0 : Int) ≤ (k : Int) + 2 := by omega
            have q7 : (k : Int) + 1 < s.size := by omega
            go_quiet ((go_at_call 196; exact quiet_left (ref_Digit _ _ (by omega) (by omega))))
            have ho2 := ho.drewN nq
            have L2 := below_drewN' L nq
            have hS2 := L2.size
            clear ho L hS q1 q2 q3 q4 q5 q6 q7
            generalize wr.drewN nq = w2 at ho2 L2 hS2 ⊢
            go_wp2_with (at_builtin; go_must (refine wp_app1 rfl _ _ rfl w.heap.size _ l rfl ho2 _ rfl _ rfl z rfl (by omega) hS2 ?_); intro v' w3 ho3 hx)
            go_roundw
            case rel => exact ⟨k + 3, l ++ [z], by omega, by go_num, ho3, by simp; omega, by rw [HD.out, Option.bind_some, app_map]; exact Lib.hid rfl, L2.trans (hx.below ho2 (Nat.le_refl _) hS2)⟩
            case measure => simp [intOf]; omega
        · have hD : decodeL s.data.toList = none := by
            rw [H.out, hb]
            have hlen : (s.data.toList.drop (k + 1)).length ≤ 1 := by rw [List.length_drop, len_data]; omega
            match s.data.toList.drop (k + 1), hlen with
            | [], _ => rw [decodeL_short1]; rfl
            | [x], _ => rw [decodeL_short2]; rfl
            | _ :: _ :: _, h => simp at h
          have HD := Lib.hid hD
          clear hD hb H
          go_wp2
          go_ret2
          exact ⟨by rw [HD.out]; rfl, L⟩
      · have hD : decodeL s.data.toList = (decodeL (s.data.toList.drop (k + 1))).map (l ++ [b] ++ ·) := by rw [H.out, hb, decodeL_plain b _ hp, app_map]
        have HD := Lib.hid hD
        have hne : ((b.toNat : Int) != 37) = true := by
          rw [bne_iff_ne]; intro h; exact hp (u8inj (by simp; omega))
        clear hD hb H hp
        go_wp2_with (at_builtin; refine wp_app1 rfl _ _ rfl w.heap.size _ l rfl ho _ rfl _ rfl b rfl (by omega) hS ?_; intro v' w2 ho2 hx)
        go_roundw
        case rel => exact ⟨k + 1, l ++ [b], by omega, by go_num, ho2, by simp; omega, HD, L.trans (hx.below ho (Nat.le_refl _) hS)⟩
        case measure => simp [intOf]; omega
    · have hD : decodeL s.data.toList = some l := by rw [H.out, drop_end s k (by omega)]; simp [decodeL]
      have HD := Lib.hid hD
      clear hD H
      go_wp2_with (refine wp_strOB rfl (.tmp 65) rfl _ _ l rfl ho ?_)
      go_ret2
      exact ⟨by rw [HD.out]; rfl, L⟩
end Go.Proofs.YtlambdccmfnloaaGreatDoor
namespace Go.Proofs.YtlambdccmfnloaaGreatDoor
open Go.RowKit
set_option maxRecDepth 100000
set_option maxHeartbeats 2000000

theorem Own.emp (w : World) (g : Nat) (hg : g = w.heap.size) (base : Nat) (hb : base ≤ w.heap.size) (e : TypeId) (size : Nat) : Own (w.alloc (.cells #[] e)) base e size (.slice (some ⟨g, 0, none⟩) 0 0) 0 [] :=
  ⟨by simp, .inr ⟨g, 0, #[], (0, 0), rfl, by omega, hg ▸ heap_alloc_new w _, .inl (Nat.le_refl _), Nat.le_refl _, Nat.zero_le _, by simp, by simp⟩⟩
/-- The pieces from f on. -/
def tailP (l : Bs) (f : Nat) : List Bs := if f ≤ l.length then splitL 47 (l.drop f) else []
theorem tailP_step (l : Bs) (f i : Nat) (hf : f ≤ i) (hi : i ≤ l.length) (hn : ∀ b ∈ (l.drop f).take (i - f), b ≠ 47) (hc : i = l.length ∨ l[i]? = some 47) : tailP l f = (l.drop f).take (i - f) :: tailP l (i + 1) := by
  rw [tailP, if_pos (by omega)]
  rcases hc with h | h
  · rw [tailP, if_neg (by omega)]
    have : (l.drop f).take (i - f) = l.drop f := List.take_of_length_le (by rw [List.length_drop]; omega)
    rw [this] at hn ⊢
    exact splitL_free 47 _ hn
  · have hlt : i < l.length := by
      rcases Nat.lt_or_ge i l.length with h1 | h1
      · exact h1
      · rw [List.getElem?_eq_none h1] at h; cases h
    rw [tailP, if_pos (by omega)]
    have e : l.drop f = (l.drop f).take (i - f) ++ 47 :: l.drop (i + 1) := by
      have h1 := List.take_append_drop (i - f) (l.drop f)
      rw [List.drop_drop, show f + (i - f) = i by omega, List.drop_eq_getElem_cons hlt] at h1
      rw [List.getElem?_eq_getElem hlt] at h
      rw [Option.some.inj h] at h1
      exact h1.symm
    generalize (l.drop f).take (i - f) = t at e hn
    rw [e]
    exact splitL_append 47 t _ hn
theorem nosl_step (l : Bs) (f i : Nat) (c : UInt8) (hf : f ≤ i) (h : l[i]? = some c) (hc : c ≠ 47) (hn : ∀ b ∈ (l.drop f).take (i - f), b ≠ 47) : ∀ b ∈ (l.drop f).take (i + 1 - f), b ≠ 47 := by
  intro b hb
  rw [show i + 1 - f = (i - f) + 1 by omega, List.take_add_one, List.getElem?_drop, show f + (i - f) = i by omega, h] at hb
  rcases List.mem_append.1 hb with hb | hb
  · exact hn b hb
  · have : b = c := by simpa using hb
    exact this ▸ hc
theorem tailP_zero (l : Bs) : tailP l 0 = splitL 47 l := by simp [tailP]
theorem tailP_end (l : Bs) : tailP l (l.length + 1) = [] := by rw [tailP, if_neg (by omega)]
theorem piece (S : ByteArray) (l : Bs) (hS : S.data.toList = l ++ [47]) (f i : Nat) (hi : i ≤ l.length) : S.extract f i = ⟨((l.drop f).take (i - f)).toArray⟩ := by
  apply str_ext
  rw [ext_data, hS]
  show _ = (l.drop f).take (i - f)
  rcases Nat.le_total f l.length with h | h
  · rw [List.drop_append_of_le_length h, List.take_append_of_le_length (by rw [List.length_drop]; omega)]
  · rw [show i - f = 0 by omega]; simp

def foldP (P : List Bs) (ps : List Bs) : Option (List Bs) := P.foldl stepP (some ps)
theorem foldP_cons (p : Bs) (P ps : List Bs) : foldP (p :: P) ps = (stepP (some ps) p).bind (foldP P) := by
  unfold foldP
  rw [List.foldl_cons]
  cases stepP (some ps) p with
  | none => exact stepP_none P
  | some q => rfl
theorem stepP_skip (ps : List Bs) (p : Bs) (h : p = [] ∨ p = [46]) : stepP (some ps) p = some ps := by rw [stepP, Option.bind_some, if_pos h]
theorem stepP_up0 : stepP (some []) [46, 46] = none := by rw [stepP, Option.bind_some, if_neg (by simp), if_pos rfl, if_pos rfl]
theorem stepP_up (ps : List Bs) (h : ps ≠ []) : stepP (some ps) [46, 46] = some ps.dropLast := by rw [stepP, Option.bind_some, if_neg (by simp), if_pos rfl, if_neg h]
theorem stepP_add (ps : List Bs) (p : Bs) (h1 : p ≠ []) (h2 : p ≠ [46]) (h3 : p ≠ [46, 46]) : stepP (some ps) p = some (ps ++ [p]) := by rw [stepP, Option.bind_some, if_neg (by simp [h1, h2]), if_neg h3]

set_option maxHeartbeats 4000000 in
theorem ref11_Clean (s : ByteArray) (w : World) (hs : s.size < 4294967281) :
    Calls Tryz.prog 177 #[.string s] w fun e w' => e = .returned (clnR (cleanL s.data.toList)) ∧ Below w.heap.size w w' := by
  have hd : (s = ⟨#[]⟩) ∨ (0 < s.size) := by
    rcases Nat.eq_zero_or_pos s.size with h | h
    · exact .inl (empty_size h)
    · exact .inr h
  rcases hd with rfl | hd
  · go_enter Tryz.func177, Tryz.ntmps177
    go_wp2
    go_ret2
    exact ⟨rfl, Below.refl _ _⟩
  · obtain ⟨b, hb, hbt⟩ := drop_bt s 0 hd
    rw [List.drop_zero] at hb
    have hne := ne_isEmpty hd
    have hbs := PlainAid.get_bt s
    by_cases h47 : b = 47
    · subst h47
      have hq : PlainAid.bt s 0 = 47 := hbt
      obtain ⟨l, hl⟩ : ∃ l, l = s.data.toList.drop 1 := ⟨_, rfl⟩
      have hll : l.length + 1 = s.size := by rw [hl, List.length_drop, len_data]; omega
      obtain ⟨S, hS⟩ : ∃ S : ByteArray, S = s.extract 1 s.size ++ ⟨#[47]⟩ := ⟨_, rfl⟩
      have hSl : S.data.toList = l ++ [47] := by rw [hS, app_data, ext_from, hl]
      have hSs : S.size = l.length + 1 := by rw [← len_data, hSl, List.length_append]; rfl
      have hC : cleanL s.data.toList = (foldP (tailP l 0) []).map fun st => endP st ((tailP l 0).getLastD []) := by
        rw [hb, cleanL_cons, tailP_zero, hl]; rfl
      have HC := Lib.hid hC
      have HS := Lib.hid hS
      have HSl := Lib.hid hSl
      clear hC hbt hb hl hS hSl
      have hSe := HS.out.symm
      go_enter Tryz.func177, Tryz.ntmps177
      go_wp2
      go_loopw [4, 5, 7, 8] (fun v la fr i wr => ∃ (f k : Nat) (ps : List Bs) (last : Bs), f ≤ k ∧ k ≤ l.length + 1 ∧ fr = .int .i64 f ∧ i = .int .i64 k ∧ la = sv last ∧ OS wr w.heap.size v ps ∧ ps.length ≤ k ∧ (k ≤ l.length ∨ f = k) ∧ Hid (∀ b ∈ (l.drop f).take (k - f), b ≠ 47) ∧ Hid (foldP (tailP l 0) [] = foldP (tailP l f) ps) ∧ Hid ((tailP l 0).getLastD [] = (tailP l f).getLastD last) ∧ Hid ((joinP ps).length ≤ f) ∧ Below w.heap.size w wr) (fun _ _ _ i _ => l.length + 1 - (intOf i).toNat)
      case atStart => exact ⟨0, 0, [], [], Nat.le_refl _, Nat.zero_le _, rfl, rfl, rfl, OS.nil _ _, Nat.le_refl _, .inl (Nat.zero_le _), by intro b hb; simp at hb, rfl, rfl, Nat.le_refl _, Below.refl _ _⟩
      case round =>
        obtain ⟨f, k, ps, last, hfk, hk, rfl, rfl, rfl, ho, hpl, hfl, HN, HF, HL, HZ, L⟩ := hrel
        have hSS := L.size
        have hSb := PlainAid.get_bt S
        by_cases hlt : k < l.length + 1
        · obtain ⟨c, hc, hct⟩ := drop_bt S k (by omega)
          have hc8 := u8lt c
          have hfl2 : f ≤ l.length := by omega
          by_cases hc47 : c = 47
          · subst hc47
            have hq2 : PlainAid.bt S k = 47 := hct
            have hk47 : k = l.length ∨ l[k]? = some 47 := by
              rcases (by omega : k = l.length ∨ k < l.length) with h | h
              · exact .inl h
              · rw [HSl.out, List.drop_append_of_le_length (by omega), List.drop_eq_getElem_cons h] at hc
                exact .inr (by rw [List.getElem?_eq_getElem h]; exact congrArg some (List.cons.inj hc).1)
            obtain ⟨p, hp⟩ : ∃ p, p = (l.drop f).take (k - f) := ⟨_, rfl⟩
            have hpe : S.extract f k = ⟨p.toArray⟩ := by rw [piece S l HSl.out f k (by omega), hp]
            have hplen : p.length ≤ k - f := by rw [hp]; exact List.length_take_le _ _
            have hT := tailP_step l f k hfk (by omega) HN.out hk47
            rw [← hp] at hT
            have HF' := Lib.hid (show foldP (tailP l 0) [] = (stepP (some ps) p).bind (foldP (tailP l (k + 1))) by rw [HF.out, hT, foldP_cons])
            have HL' := Lib.hid (show (tailP l 0).getLastD [] = (tailP l (k + 1)).getLastD p by rw [HL.out, hT, List.getLastD_cons])
            have HZ1 : Hid ((joinP ps).length ≤ k + 1) := Nat.le_trans HZ.out (by omega)
            have HN' : Hid (∀ b ∈ (l.drop (k + 1)).take (k + 1 - (k + 1)), b ≠ 47) := by intro b hb; simp at hb
            have HZ' := HZ.out
            clear hc hct hk47 hp hT HN HF HL
            have HZ'' := Lib.hid HZ'
            clear HZ' HZ
            by_cases p1 : p = []
            · have HF2 : Hid (foldP (tailP l 0) [] = foldP (tailP l (k + 1)) ps) := by rw [HF'.out, stepP_skip ps p (.inl p1)]; exact Lib.hid rfl
              subst p1
              go_wp2
              go_roundw
              case rel => exact ⟨k + 1, k + 1, ps, [], by omega, by omega, by go_num, by go_num, rfl, ho, by omega, .inr rfl, HN', HF2, HL', HZ1, L⟩
              case measure => simp [intOf]; omega
            by_cases p2 : p = [46]
            · have HF2 : Hid (foldP (tailP l 0) [] = foldP (tailP l (k + 1)) ps) := by rw [HF'.out, stepP_skip ps p (.inr p2)]; exact Lib.hid rfl
              subst p2
              go_wp2
              go_roundw
              case rel => exact ⟨k + 1, k + 1, ps, [46], by omega, by omega, by go_num, by go_num, rfl, ho, by omega, .inr rfl, HN', HF2, HL', HZ1, L⟩
              case measure => simp [intOf]; omega
            have e1 : List.isEmpty p = false := by simp [p1]
            have e2 : (p == [46]) = false := by simpa using p2
            by_cases p3 : p = [46, 46]
            · subst p3
              by_cases pz : ps = []
              · subst pz
                have HE : Hid (cleanL s.data.toList = none) := by rw [HC.out, HF'.out, stepP_up0]; exact Lib.hid rfl
                obtain ⟨A, c, rfl, hc1, hc2, hrd⟩ := ho.form
                go_wp2
                go_ret2
                exact ⟨by rw [HE.out]; rfl, L⟩
              · have hps : 0 < ps.length := List.length_pos_iff.2 pz
                have hl0 : ((ps.length : Int) == 0) = false := by rw [Bool.eq_false_iff]; intro h; have := beq_iff_eq.1 h; omega
                obtain ⟨g, c, rfl, ho'⟩ := Own.cut ho (k := ps.length - 1) (by omega) hps
                obtain ⟨A, c', e', hc1, hc2, hrd⟩ := ho.form
                injection e' with e1' e2' e3'
                subst e3'
                clear hrd e1' e2'
                have ho2 : OS wr w.heap.size (.slice (some ⟨g, 0, none⟩) (ps.length - 1) c) ps.dropLast := by
                  unfold OS
                  rw [List.length_dropLast]
                  have : (ps.map tv).take ((ps.length - 1) * 1) = ps.dropLast.map tv := by rw [Nat.mul_one, List.dropLast_eq_take, List.map_take]
                  rw [← this]
                  exact ho'
                have HF2 : Hid (foldP (tailP l 0) [] = foldP (tailP l (k + 1)) ps.dropLast) := by rw [HF'.out, stepP_up ps pz]; exact Lib.hid rfl
                clear HF'
                go_wp2
                go_roundw
                case rel => exact ⟨k + 1, k + 1, ps.dropLast, [46, 46], by omega, by omega, by go_num, by go_num, rfl, ho2, by rw [List.length_dropLast]; omega, .inr rfl, HN', HF2, HL', Nat.le_trans (joinP_last ps) HZ1.out, L⟩
                case measure => simp [intOf]; omega
            · have e3 : (p == [46, 46]) = false := by simpa using p3
              have HF2 : Hid (foldP (tailP l 0) [] = foldP (tailP l (k + 1)) (ps ++ [p])) := by rw [HF'.out, stepP_add ps p p1 p2 p3]; exact Lib.hid rfl
              have HZ2 : Hid ((joinP (ps ++ [p])).length ≤ k + 1) := by
                show (joinP (ps ++ [p])).length ≤ k + 1
                have h1 : (joinP [p]).length = p.length + 1 := by simp [joinP]
                have h2 := HZ''.out
                rw [joinP_app, List.length_append, h1]; omega
              clear p1 p2 p3 HF'
              obtain ⟨A, c, rfl, hc1, hc2, hrd⟩ := ho.form
              have hoe : OS (wr.alloc (.cells #[] 9)) w.heap.size (.slice (some ⟨wr.heap.size, 0, none⟩) 0 0) [] := Own.emp wr _ rfl w.heap.size hSS _ 1
              go_wp2_with (first
                | (at_builtin; refine wp_appS (w0 := wr.alloc (.cells #[] 9)) rfl _ _ rfl w.heap.size _ [] rfl hoe (Below.refl _ _) A ps.length c wr.heap.size rfl ps (hrd.alloc (Nat.le_refl _) _) (by simp; omega) (Nat.le_trans hSS (by simp)) ?_; intro v2 w2 ho2 hx2; have L2 : Below w.heap.size w w2 := (L.alloc hSS _).trans (hx2.below hoe (Nat.le_refl _) (Nat.le_trans hSS (by simp))))
                | (at_builtin; refine wp_appS1 rfl _ _ rfl w.heap.size v2 _ rfl ho2 _ rfl ⟨p.toArray⟩ rfl (by simp; omega) L2.size ?_; intro v3 w3 ho3 hx3))
              have L3 : Below w.heap.size w w3 := L2.trans (hx3.below ho2 (Nat.le_refl _) L2.size)
              go_roundw
              case rel => exact ⟨k + 1, k + 1, ps ++ [p], p, by omega, by omega, by go_num, by go_num, rfl, by simpa using ho3, by simp; omega, .inr rfl, HN', HF2, HL', HZ2, L3⟩
              case measure => simp [intOf]; omega
          · have hkl : k < l.length := by
              rcases (by omega : k = l.length ∨ k < l.length) with h | h
              · exfalso
                rw [HSl.out, h, List.drop_append_of_le_length (Nat.le_refl _), List.drop_of_length_le (Nat.le_refl _)] at hc
                simp at hc
                exact hc47 hc.symm
              · exact h
            have hlc : l[k]? = some c := by
              rw [HSl.out, List.drop_append_of_le_length (by omega), List.drop_eq_getElem_cons hkl] at hc
              rw [List.getElem?_eq_getElem hkl]
              exact congrArg some (List.cons.inj hc).1
            have HN' := Lib.hid (nosl_step l f k c hfk hlc hc47 HN.out)
            have hcne : ((c.toNat : Int) != 47) = true := by
              rw [bne_iff_ne]; intro h; exact hc47 (u8inj (by simp; omega))
            clear hc hlc hc47
            go_wp2
            go_roundw
            case rel => exact ⟨f, k + 1, ps, last, by omega, by omega, rfl, by go_num, rfl, ho, by omega, .inl (by omega), HN', HF, HL, HZ, L⟩
            case measure => simp [intOf]; omega
        · have hfe : f = l.length + 1 := by omega
          have HE : Hid (cleanL s.data.toList = some (endP ps last)) := by
            rw [HC.out, HF.out, HL.out, hfe, tailP_end]; exact Lib.hid rfl
          have hzz : (joinP ps).length ≤ 4294967282 := Nat.le_trans HZ.out (by omega)
          have HZZ := Lib.hid hzz
          clear HF HL HZ HN hzz
          obtain ⟨A, c, rfl, hc1, hc2, hrd⟩ := ho.form
          have hrd2 := Lib.hid hrd
          clear hrd ho
          go_wp2
          go_loop [9, 10] (fun v i => ∃ (j : Nat) (t : ByteArray), j ≤ ps.length ∧ i = .int .i64 j ∧ v = .string t ∧ Hid (t.data.toList = joinP (ps.take j))) (fun _ i => ps.length - (intOf i).toNat)
          case atStart => exact ⟨0, ⟨#[]⟩, Nat.zero_le _, rfl, rfl, rfl⟩
          case round =>
            obtain ⟨j, t, hj, rfl, rfl, HT⟩ := hrel
            by_cases hjt : j < ps.length
            · obtain ⟨q, hq⟩ : ∃ q, ps[j]? = some q := ⟨ps[j], List.getElem?_eq_getElem hjt⟩
              obtain ⟨g, o, rfl, hg2, hcs⟩ := hrd2.out.2 (by omega)
              have hcell : wr.cell? ⟨g, o + j, none⟩ = some (tv q) := hcs j (tv q) (by simp [hq])
              have HJ := Lib.hid (joinP_one ps j q hq)
              have hz1 : (joinP (ps.take (j + 1))).length ≤ 4294967282 := Nat.le_trans (joinP_take ps _) HZZ.out
              rw [HJ.out, List.length_append, List.length_cons, ← HT.out, len_data] at hz1
              have hz2 : t.size ≤ 4294967282 := by omega
              have hz3 : q.length ≤ 4294967282 := by omega
              clear hz1
              clear hcs hq
              go_wp2
              go_round
              case rel => exact ⟨j + 1, _, by omega, by go_num, rfl, by rw [HJ.out, app_data, app_data, HT.out]; show joinP (ps.take j) ++ [47] ++ q = _; simp⟩
              case measure => simp [intOf]; omega
            · have hT : t.data.toList = joinP ps := by rw [HT.out, List.take_of_length_le (by omega)]
              have HT' := Lib.hid hT
              have hTe := joinP_nil ps t hT
              have HTe := Lib.hid hTe
              have hz2 : t.size ≤ 4294967282 := by rw [← len_data, hT]; exact HZZ.out
              clear HT hT hTe
              cases hq : (dirP last || ps.isEmpty)
              · have hq2 := hq
                have HQ := Lib.hid hq
                simp only [dirP, Bool.or_eq_false_iff] at hq2
                obtain ⟨⟨⟨q1, q2⟩, q3⟩, q4⟩ := hq2
                have q1' : List.isEmpty last = false := by cases last with | nil => simp at q1 | cons => rfl
                have q4' : t.toList.isEmpty = false := HTe.out.trans q4
                clear q1 hq
                go_wp2
                go_ret2
                exact ⟨by rw [HE.out]; exact congrArg Ending.returned (cln_no t ps last HT'.out HQ.out), L⟩
              · have HQ := Lib.hid hq
                clear hq
                go_wp2
                all_goals first
                  | (go_ret2; exact ⟨by rw [HE.out]; exact congrArg Ending.returned (cln_yes t ps last HT'.out HQ.out), L⟩)
                  | (exfalso; have hh := HQ.out; rw [← HTe.out] at hh; simp [dirP, *] at hh)
    · have hC : cleanL s.data.toList = none := by rw [cleanL, hb, if_neg (by simpa using h47)]
      have HC := Lib.hid hC
      have hne2 : ((b.toNat : Int) != 47) = true := by
        rw [bne_iff_ne]; intro h; exact h47 (u8inj (by simp; omega))
      clear hC hb h47
      go_enter Tryz.func177, Tryz.ntmps177
      go_wp2
      go_ret2
      exact ⟨by rw [HC.out]; rfl, Below.refl _ _⟩
end Go.Proofs.YtlambdccmfnloaaGreatDoor
namespace Go.Proofs.YtlambdccmfnloaaGreatDoor
open Go.RowKit
set_option maxRecDepth 100000
set_option maxHeartbeats 2000000

theorem rSame (a b : ByteArray) (w : World) (ha : a.size ≤ 140737488355328) (hb : b.size ≤ 140737488355328) :
    Calls Tryz.prog 135 #[.string a, .string b] w fun e w' => e = .returned (.bool (lowL a.data.toList == lowL b.data.toList)) ∧ Below w.heap.size w w' := by
  go_enter Tryz.func135, Tryz.ntmps135
  go_wp2_with fail
  refine (ref_LowerS a _ ha).mono ?_
  rintro e w1 ⟨rfl, h1⟩
  go_wp2_with fail
  refine (ref_LowerS b _ hb).mono ?_
  rintro e w2 ⟨rfl, h2⟩
  go_wp2
  go_ret
  exact ⟨rfl, h1.trans (h2.mono h1.size)⟩
theorem ref11_allowed (b : UInt8) (w : World) :
    Calls Tryz.prog 175 #[.int .u8 (b.toNat : Int)] w fun e w' => e = .returned (.bool (ofB orgS b)) ∧ w = w' := by
  have h8 := u8lt b
  have hi := inL_contains b orgS
  have HO := Lib.hid (show ofB orgS b = (alnumB b.toNat || inL b.toNat orgS) by rw [hi]; rfl)
  clear hi
  go_enter Tryz.func175, Tryz.ntmps175
  cases hA : alnumB b.toNat
  · go_wp2_with (first
      | (go_at_call 130; refine (ref_Alnum _ _ (by omega) h8).mono ?_; rw [hA]; rintro e w' ⟨rfl, rfl⟩)
      | (go_at_call 131; refine (ref_In _ _ _ (by decide) (by omega) h8).mono ?_; rintro e w' ⟨rfl, rfl⟩))
    go_ret
    exact ⟨retB (by rw [HO.out, hA]; rfl), rfl⟩
  · go_wp2_with (go_at_call 130; refine (ref_Alnum _ _ (by omega) h8).mono ?_; rw [hA]; rintro e w' ⟨rfl, rfl⟩)
    go_ret
    exact ⟨retB (by rw [HO.out, hA]; rfl), rfl⟩

/-- What origin says. -/
def OrgPost (l : Bs) (w : World) (e : Ending) (w' : World) : Prop :=
  (originL l = none → ∃ a b, e = .returned (.tuple #[a, b, .bool false])) ∧ (∀ p, originL l = some p → e = .returned (.tuple #[sv p, sv (sndB 63 l), .bool true])) ∧ Below w.heap.size w w'
theorem orgPost_none {l : Bs} {w w' : World} {a b : Value} (h : originL l = none) (L : Below w.heap.size w w') : OrgPost l w (.returned (.tuple #[a, b, .bool false])) w' :=
  ⟨fun _ => ⟨a, b, rfl⟩, fun p hp => (by rw [h] at hp; cases hp), L⟩
theorem orgPost_some {l p q : Bs} {w w' : World} (h : originL l = some p) (hq : q = sndB 63 l) (L : Below w.heap.size w w') : OrgPost l w (.returned (.tuple #[sv p, sv q, .bool true])) w' :=
  ⟨fun hn => (by rw [h] at hn; cases hn), fun p' hp => (by rw [h] at hp; cases hp; rw [hq]), L⟩
theorem fstB_step (c : UInt8) (l : Bs) (k : Nat) (b : UInt8) (r : Bs) (hb : l.drop k = b :: r) (hr : r = l.drop (k + 1)) (hk : k < l.length) (hc : b ≠ c) (h1 : fstB c l = l.take k ++ fstB c (l.drop k)) (h2 : sndB c l = sndB c (l.drop k)) :
    fstB c l = l.take (k + 1) ++ fstB c (l.drop (k + 1)) ∧ sndB c l = sndB c (l.drop (k + 1)) := by
  have hn : (b != c) = true := by simpa using hc
  subst hr
  refine ⟨?_, ?_⟩
  · rw [h1, hb]
    have e1 : l[k] = b := by
      have := List.drop_eq_getElem_cons hk
      rw [hb] at this
      exact (List.cons.inj this).1.symm
    rw [List.take_succ_eq_append_getElem hk, e1]
    show _ ++ fstB c (b :: _) = _
    rw [show fstB c (b :: l.drop (k + 1)) = b :: fstB c (l.drop (k + 1)) by simp [fstB, hn]]
    simp
  · rw [h2, hb]
    show sndB c (b :: _) = _
    simp [sndB, hn]
theorem fstB_hit (c : UInt8) (r : Bs) : fstB c (c :: r) = [] ∧ sndB c (c :: r) = r := by simp [fstB, sndB]
theorem fstB_nil (c : UInt8) : fstB c [] = [] ∧ sndB c [] = [] := ⟨rfl, rfl⟩

theorem ref11_origin (s : ByteArray) (w : World) (hs : s.size < 4294967281) :
    Calls Tryz.prog 134 #[.string s] w (OrgPost s.data.toList w) := by
  go_enter Tryz.func134, Tryz.ntmps134
  go_wp2
  go_loop [7] (fun i => ∃ k : Nat, k ≤ s.size ∧ i = .int .i64 k ∧ Hid (allOf orgS s.data.toList = allOf orgS (s.data.toList.drop k))) (fun i => s.size - (intOf i).toNat)
  case atStart => exact ⟨0, Nat.zero_le _, rfl, rfl⟩
  case round =>
    obtain ⟨k, hk, rfl, H⟩ := hrel
    by_cases hlt : k < s.size
    · obtain ⟨b, hb, hbt⟩ := drop_bt s k hlt
      have Hb := Lib.hid hb; clear hb
      have hbs := PlainAid.get_bt s
      have hb8 := u8lt b
      cases hO : ofB orgS b
      · have HN := Lib.hid (show originL s.data.toList = none by rw [originL, H.out, Hb.out, allOf_cons, hO]; rfl)
        go_wp2_with (go_at_call 175; refine (ref11_allowed b _).mono ?_; rw [hO]; rintro e w' ⟨rfl, rfl⟩)
        go_ret3
        exact orgPost_none HN.out (Below.refl _ _)
      · have HN := Lib.hid (show allOf orgS s.data.toList = allOf orgS (s.data.toList.drop (k + 1)) by rw [H.out, Hb.out, allOf_cons, hO]; rfl)
        go_wp2_with (go_at_call 175; refine (ref11_allowed b _).mono ?_; rw [hO]; rintro e w' ⟨rfl, rfl⟩)
        go_round
        case rel => exact ⟨k + 1, by omega, by go_num, HN⟩
        case measure => simp [intOf]; omega
    · have HA := Lib.hid (show allOf orgS s.data.toList = true by rw [H.out, drop_end s k (by omega)]; rfl)
      clear H
      go_wp2
      go_loopw [5, 6, 8] (fun x5 x6 i wr => ∃ (j q : Nat), j ≤ s.size ∧ x5 = .string s ∧ x6 = .string ⟨#[]⟩ ∧ i = .int .i64 j ∧ Hid (fstB 63 s.data.toList = s.data.toList.take j ++ fstB 63 (s.data.toList.drop j) ∧ sndB 63 s.data.toList = sndB 63 (s.data.toList.drop j)) ∧ wr = w.drewN q) (fun _ _ i _ => s.size - (intOf i).toNat)
      case atStart => exact ⟨0, 0, Nat.zero_le _, rfl, rfl, rfl, ⟨rfl, rfl⟩, rfl⟩
      case round =>
        obtain ⟨j, q, hj, rfl, rfl, rfl, HF, rfl⟩ := hrel
        by_cases hjt : j < s.size
        · obtain ⟨b, hb, hbt⟩ := drop_bt s j hjt
          have hbs := PlainAid.get_bt s
          have hb8 := u8lt b
          by_cases hb63 : b = 63
          · subst hb63
            have hq : PlainAid.bt s j = 63 := hbt
            have HP := Lib.hid (show s.data.toList.take j = fstB 63 s.data.toList by rw [HF.out.1, hb, (fstB_hit 63 _).1, List.append_nil])
            have HQ := Lib.hid (show s.data.toList.drop (j + 1) = sndB 63 s.data.toList by rw [HF.out.2, hb, (fstB_hit 63 _).2])
            clear hb hbt HF
            have q1 : IntKind.i64.wrap ((j : Int) + 1) = (j : Int) + 1 := IntWalk.i64_in _ (by omega)
            have q3 : ((j : Int) + 1).toNat = j + 1 := by omega
            have q5 : (0 : Int) ≤ (j : Int) + 1 := by omega
            have q6 : (j : Int) + 1 ≤ s.size := by omega
            go_wp2
            go_quiet (fail)
            obtain ⟨PP, hPPe⟩ : ∃ PP, PP = s.extract 0 j := ⟨_, rfl⟩
            obtain ⟨QQ, hQQe⟩ : ∃ QQ, QQ = s.extract (j + 1) s.size := ⟨_, rfl⟩
            have hPPl : PP.data.toList = fstB 63 s.data.toList := by rw [hPPe, ext_to, HP.out]
            have hQQl : QQ.data.toList = sndB 63 s.data.toList := by rw [hQQe, ext_from, HQ.out]
            have hPP : PP.size < 4294967281 := by rw [hPPe, ext_size _ _ _ (Nat.zero_le _) hj]; omega
            have HPP := Lib.hid hPPl
            have HQQ := Lib.hid hQQl
            have eP := hPPe.symm
            have eQ := hQQe.symm
            have LQ : Below w.heap.size w (w.drewN (q + nq)) := below_drewN' (Below.refl _ _) _
            have HA0 := HA
            clear hPPe hQQe hPPl hQQl hbs
            clear HA0
            cases hD : decodeL (fstB 63 s.data.toList) with
            | none =>
              have HN := Lib.hid (show originL s.data.toList = none by rw [originL, HA.out, if_pos rfl, hD]; rfl)
              go_wp2_with fail
              refine (ref11_Decode PP _ hPP).mono ?_
              rw [HPP.out, hD, decR_none]
              rintro e w1 ⟨rfl, L1⟩
              go_wp2
              go_ret3
              exact orgPost_none HN.out (stepW LQ L1)
            | some d =>
              have hdl := decodeL_len _ _ (Nat.le_refl _) d hD
              have hfl := fstB_len 63 s.data.toList
              rw [len_data] at hfl
              go_wp2_with fail
              refine (ref11_Decode PP _ hPP).mono ?_
              rw [HPP.out, hD, decR_some]
              rintro e w1 ⟨rfl, L1⟩
              have K1 := stepW LQ L1
              go_wp2_with fail
              refine (ref11_Clean ⟨d.toArray⟩ w1 (by show d.length < 4294967281; omega)).mono ?_
              rw [show (⟨d.toArray⟩ : ByteArray).data.toList = d from rfl]
              cases hC : cleanL d with
              | none =>
                have HN := Lib.hid (show originL s.data.toList = none by rw [originL, HA.out, if_pos rfl, hD, Option.bind_some, hC])
                rw [clnR_none]
                rintro e w2 ⟨rfl, L2⟩
                go_wp2
                go_ret3
                exact orgPost_none HN.out (stepW K1 L2)
              | some p =>
                have HN := Lib.hid (show originL s.data.toList = some p by rw [originL, HA.out, if_pos rfl, hD, Option.bind_some, hC])
                rw [clnR_some]
                rintro e w2 ⟨rfl, L2⟩
                go_wp2
                go_ret3
                rw [show QQ = ⟨(sndB 63 s.data.toList).toArray⟩ from str_ext HQQ.out]
                exact orgPost_some HN.out rfl (stepW K1 L2)
          · have hn := fstB_step 63 s.data.toList j b _ hb rfl (by rw [len_data]; exact hjt) hb63 HF.out.1 HF.out.2
            have HF2 := Lib.hid hn
            have hne : ((b.toNat : Int) == 63) = false := by
              rw [Bool.eq_false_iff]; intro h; exact hb63 (u8inj (by have := beq_iff_eq.1 h; simp; omega))
            clear hb hn hb63 HF
            go_wp2
            go_roundw
            case rel => exact ⟨j + 1, q, by omega, rfl, rfl, by go_num, HF2, rfl⟩
            case measure => simp [intOf]; omega
        · have HP := Lib.hid (show s.data.toList = fstB 63 s.data.toList by rw [HF.out.1, List.take_of_length_le (by rw [len_data]; omega), drop_end s j (by omega), (fstB_nil 63).1, List.append_nil])
          have HQ := Lib.hid (show ([] : Bs) = sndB 63 s.data.toList by rw [HF.out.2, drop_end s j (by omega), (fstB_nil 63).2])
          clear HF
          obtain ⟨PP, hPPe⟩ : ∃ PP, PP = s := ⟨_, rfl⟩
          have HPP := Lib.hid (show PP.data.toList = fstB 63 s.data.toList by rw [hPPe]; exact HP.out)
          subst hPPe
          have hPP : PP.size < 4294967281 := hs
          have LQ : Below w.heap.size w (w.drewN q) := below_drewN' (Below.refl _ _) _
          have HA0 := HA
          clear HA0
          cases hD : decodeL (fstB 63 PP.data.toList) with
          | none =>
            have HN := Lib.hid (show originL PP.data.toList = none by rw [originL, HA.out, if_pos rfl, hD]; rfl)
            go_wp2_with fail
            refine (ref11_Decode PP _ hPP).mono ?_
            rw [HPP.out, hD, decR_none]
            rintro e w1 ⟨rfl, L1⟩
            go_wp2
            go_ret3
            exact orgPost_none HN.out (stepW LQ L1)
          | some d =>
            have hdl := decodeL_len _ _ (Nat.le_refl _) d hD
            have hfl := fstB_len 63 PP.data.toList
            rw [len_data] at hfl
            go_wp2_with fail
            refine (ref11_Decode PP _ hPP).mono ?_
            rw [HPP.out, hD, decR_some]
            rintro e w1 ⟨rfl, L1⟩
            have K1 := stepW LQ L1
            go_wp2_with fail
            refine (ref11_Clean ⟨d.toArray⟩ w1 (by show d.length < 4294967281; omega)).mono ?_
            rw [show (⟨d.toArray⟩ : ByteArray).data.toList = d from rfl]
            cases hC : cleanL d with
            | none =>
              have HN := Lib.hid (show originL PP.data.toList = none by rw [originL, HA.out, if_pos rfl, hD, Option.bind_some, hC])
              rw [clnR_none]
              rintro e w2 ⟨rfl, L2⟩
              go_wp2
              go_ret3
              exact orgPost_none HN.out (stepW K1 L2)
            | some p =>
              have HN := Lib.hid (show originL PP.data.toList = some p by rw [originL, HA.out, if_pos rfl, hD, Option.bind_some, hC])
              rw [clnR_some]
              rintro e w2 ⟨rfl, L2⟩
              go_wp2
              go_ret3
              exact orgPost_some (q := []) HN.out HQ.out (stepW K1 L2)
end Go.Proofs.YtlambdccmfnloaaGreatDoor

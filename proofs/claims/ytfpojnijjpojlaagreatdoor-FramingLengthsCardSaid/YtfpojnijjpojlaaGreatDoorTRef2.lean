/- usherref11.Decode. -/
import Derived.Test.YtfpojnijjpojlaaGreatDoorTRef
namespace Go.Proofs.YtfpojnijjpojlaaGreatDoor
open Go.RowKit
set_option maxRecDepth 100000
set_option maxHeartbeats 1000000

theorem quiet_left {P : Program} {f : FuncId} {args : Array Value} {w : World} {n : Nat} {v : Value}
    (h : Calls P f args (w.drewN n) fun e w' => e = .returned v ∧ w.drewN n = w') : Calls P f args (w.drewN n) fun e w'' => e = .returned v ∧ ∃ m, w'' = w.drewN m :=
  h.mono fun _ _ ⟨he, hm⟩ => ⟨he, n, hm.symm⟩
theorem or4 (a b : Int) (a0 : 0 ≤ a) (ha : a ≤ 15) (b0 : 0 ≤ b) (hb : b ≤ 15) : bits BinOp.or IntKind.i64 (a * 16) b = a * 16 + b := by
  have : ∀ x y : Fin 16, bits BinOp.or IntKind.i64 ((x.val : Int) * 16) (y.val : Int) = (x.val : Int) * 16 + y.val := by decide +kernel
  have h := this ⟨a.toNat, by omega⟩ ⟨b.toNat, by omega⟩
  simp only [Int.toNat_of_nonneg a0, Int.toNat_of_nonneg b0] at h
  exact h
/-! ### Decode -/
theorem ref11_Decode (s : ByteArray) (w : World) (hs : s.size < 4294967281) :
    Calls Tryz.prog 69 #[.string s] w fun e w' => e = .returned (decR (decodeL s.data.toList)) ∧ Below w.heap.size w w' := by
  go_enter Tryz.func69, Tryz.ntmps69
  go_wp2
  go_loopw [4, 5] (fun v i wr => ∃ (k : Nat) (l : Bs), k ≤ s.size ∧ i = .int .i64 k ∧ OB wr w.heap.size v l ∧ l.length ≤ k ∧ Hid (decodeL s.data.toList = (decodeL (s.data.toList.drop k)).map (l ++ ·)) ∧ Below w.heap.size w wr) (fun _ i _ => s.size - (intOf i).toNat)
  case atStart => exact ⟨0, [], Nat.zero_le _, rfl, OB.nil _ _, Nat.le_refl _, by show decodeL s.data.toList = _; simp, Below.refl _ _⟩
  case round =>
    obtain ⟨k, l, hk, rfl, ho, hl, H, L⟩ := hrel
    by_cases hlt : k < s.size
    · obtain ⟨b, hb, hbt⟩ := drop_bt s k hlt
      have hbs := PlainAid.get_bt s
      have hb8 := u8lt b
      have hS := L.size
      by_cases hp : b = 37
      · subst hp
        have hq : PlainAid.bt s k = 37 := hbt
        clear hbt
        by_cases h2 : k + 2 < s.size
        · obtain ⟨x, hx, hxt⟩ := drop_bt s (k + 1) (by omega)
          obtain ⟨y, hy, hyt⟩ := drop_bt s (k + 2) (by omega)
          have hx8 := u8lt x
          have hy8 := u8lt y
          have dx := digB_le x.toNat (by omega) hx8
          have dy := digB_le y.toNat (by omega) hy8
          have gx := digB_ge x.toNat
          have gy := digB_ge y.toNat
          have hD : decodeL s.data.toList = ((pctL x y).bind fun z => (decodeL (s.data.toList.drop (k + 3))).map (z :: ·)).map (l ++ ·) := by rw [H.out, hb, hx, hy, decodeL_pct]
          have HD := Lib.hid hD
          have hpc : (pctL x y = none ∧ (digB x.toNat < 0 ∨ (0 ≤ digB x.toNat ∧ digB y.toNat < 0) ∨ (0 ≤ digB x.toNat ∧ 0 ≤ digB y.toNat ∧ digB x.toNat * 16 + digB y.toNat = 0))) ∨ (∃ z : UInt8, pctL x y = some z ∧ 0 ≤ digB x.toNat ∧ 0 ≤ digB y.toNat ∧ digB x.toNat * 16 + digB y.toNat = (z.toNat : Int) ∧ 1 ≤ (z.toNat : Int) ∧ (z.toNat : Int) ≤ 255) := by
            unfold pctL
            split
            · exact .inl ⟨rfl, by omega⟩
            · refine .inr ⟨_, rfl, by omega, by omega, ?_, ?_, ?_⟩ <;> rw [UInt8.toNat_ofNat'] <;> omega
          clear hD H hb hx hy
          generalize hdx : digB x.toNat = DX at *
          generalize hdy : digB y.toNat = DY at *
          rcases hpc with ⟨hpc, hc⟩ | ⟨z, hpc, z1, z2, z3, z4, z5⟩
          · rw [hpc] at HD
            clear hpc
            rcases hc with h | ⟨h, h'⟩ | ⟨h, h', h''⟩
            · go_wp2_with (go_at_call 90; refine (ref_Digit _ _ (by omega) (by omega)).mono ?_; rintro e w' ⟨rfl, rfl⟩)
              go_ret2
              exact ⟨by rw [HD.out]; rfl, L⟩
            · go_wp2_with (go_at_call 90; refine (ref_Digit _ _ (by omega) (by omega)).mono ?_; rintro e w' ⟨rfl, rfl⟩)
              go_ret2
              exact ⟨by rw [HD.out]; rfl, L⟩
            · go_wp2_with (go_at_call 90; refine (ref_Digit _ _ (by omega) (by omega)).mono ?_; rintro e w' ⟨rfl, rfl⟩)
              have hz : bits BinOp.or IntKind.i64 (DX * 16) DY % 256 = 0 := by rw [or4 DX DY h dx h' dy]; omega
              have q1 : IntKind.i64.wrap ((k : Int) + 1) = (k : Int) + 1 := IntWalk.i64_in _ (by omega)
              have q2 : IntKind.i64.wrap ((k : Int) + 2) = (k : Int) + 2 := IntWalk.i64_in _ (by omega)
              have q3 : ((k : Int) + 1).toNat = k + 1 := by omega
              have q4 : ((k : Int) + 2).toNat = k + 2 := by omega
              have q5 : (0 : Int) ≤ (k : Int) + 1 := by omega
              have q6 : (0 : Int) ≤ (k : Int) + 2 := by omega
              have q7 : (k : Int) + 1 < s.size := by omega
              go_quiet ((go_at_call 90; exact quiet_left (ref_Digit _ _ (by omega) (by omega))))
              go_wp2
              go_ret2
              exact ⟨by rw [HD.out]; rfl, below_drewN' L _⟩
          · rw [hpc] at HD
            go_wp2_with (go_at_call 90; refine (ref_Digit _ _ (by omega) (by omega)).mono ?_; rintro e w' ⟨rfl, rfl⟩)
            have hz : bits BinOp.or IntKind.i64 (DX * 16) DY % 256 = (z.toNat : Int) := by rw [or4 DX DY z1 dx z2 dy]; omega
            have hz0 : ((z.toNat : Int) == 0) = false := by rw [Bool.eq_false_iff]; intro e; have := beq_iff_eq.1 e; omega
            clear hpc z3 z4
            have q1 : IntKind.i64.wrap ((k : Int) + 1) = (k : Int) + 1 := IntWalk.i64_in _ (by omega)
            have q2 : IntKind.i64.wrap ((k : Int) + 2) = (k : Int) + 2 := IntWalk.i64_in _ (by omega)
            have q3 : ((k : Int) + 1).toNat = k + 1 := by omega
            have q4 : ((k : Int) + 2).toNat = k + 2 := by omega
            have q5 : (0 : Int) ≤ (k : Int) + 1 := by omega
            have q6 : (0 : Int) ≤ (k : Int) + 2 := by omega
            have q7 : (k : Int) + 1 < s.size := by omega
            go_quiet ((go_at_call 90; exact quiet_left (ref_Digit _ _ (by omega) (by omega))))
            have ho2 := ho.drewN nq
            have L2 := below_drewN' L nq
            have hS2 := L2.size
            clear ho L hS q1 q2 q3 q4 q5 q6 q7
            generalize wr.drewN nq = w2 at ho2 L2 hS2 ⊢
            go_wp2_with (at_builtin; go_must (refine wp_app1 rfl _ _ rfl w.heap.size _ l rfl ho2 _ rfl _ rfl z rfl (by omega) hS2 ?_); intro v' w3 ho3 hx)
            go_roundw
            case rel => exact ⟨k + 3, l ++ [z], by omega, by go_num, ho3, by simp; omega, by rw [HD.out, Option.bind_some, app_map]; exact Lib.hid rfl, L2.trans (hx.below ho2 (Nat.le_refl _) hS2)⟩
            case measure => simp [intOf]; omega
        · have hD : decodeL s.data.toList = none := by
            rw [H.out, hb]
            have hlen : (s.data.toList.drop (k + 1)).length ≤ 1 := by rw [List.length_drop, len_data]; omega
            match s.data.toList.drop (k + 1), hlen with
            | [], _ => rw [decodeL_short1]; rfl
            | [x], _ => rw [decodeL_short2]; rfl
            | _ :: _ :: _, h => simp at h
          have HD := Lib.hid hD
          clear hD hb H
          go_wp2
          go_ret2
          exact ⟨by rw [HD.out]; rfl, L⟩
      · have hD : decodeL s.data.toList = (decodeL (s.data.toList.drop (k + 1))).map (l ++ [b] ++ ·) := by rw [H.out, hb, decodeL_plain b _ hp, app_map]
        have HD := Lib.hid hD
        have hne : ((b.toNat : Int) != 37) = true := by
          rw [bne_iff_ne]; intro h; exact hp (u8inj (by simp; omega))
        clear hD hb H hp
        go_wp2_with (at_builtin; refine wp_app1 rfl _ _ rfl w.heap.size _ l rfl ho _ rfl _ rfl b rfl (by omega) hS ?_; intro v' w2 ho2 hx)
        go_roundw
        case rel => exact ⟨k + 1, l ++ [b], by omega, by go_num, ho2, by simp; omega, HD, L.trans (hx.below ho (Nat.le_refl _) hS)⟩
        case measure => simp [intOf]; omega
    · have hD : decodeL s.data.toList = some l := by rw [H.out, drop_end s k (by omega)]; simp [decodeL]
      have HD := Lib.hid hD
      clear hD H
      go_wp2_with (refine wp_strOB rfl (.tmp 65) rfl _ _ l rfl ho ?_)
      go_ret2
      exact ⟨by rw [HD.out]; rfl, L⟩
end Go.Proofs.YtfpojnijjpojlaaGreatDoor

/- usherref14: size, trailer. -/
import Derived.Test.YtfapnppgbhlidaaGreatDoorRKon
import Derived.Test.YtfapnppgbhlidaaGreatDoorKon3
import Derived.Test.YtfapnppgbhlidaaGreatDoorRFldP
namespace Go.Proofs.YtfapnppgbhlidaaGreatDoor
open Go.RowKit
set_option maxRecDepth 100000
set_option maxHeartbeats 4000000

theorem numF_le : ∀ (l : Bs) (n v : Int), 0 ≤ n → numF 16 l n = some v → v + 1 ≤ (n + 1) * (16 : Int) ^ l.length
  | [], n, v, _, h => by simp [numF] at h; subst h; simp
  | b :: l, n, v, hn, h => by
    rw [numF] at h
    split at h
    · cases h
    · rename_i hc
      have hd := digB_le b.toNat (by omega) (u8lt b)
      have h1 := numF_le l (n * 16 + digB b.toNat) v (by omega) h
      have hp : (0 : Int) < (16 : Int) ^ l.length := Int.pow_pos (by decide)
      have h2 : (n * 16 + digB b.toNat + 1) * (16 : Int) ^ l.length ≤ ((n + 1) * 16) * (16 : Int) ^ l.length := Int.mul_le_mul_of_nonneg_right (by omega) (Int.le_of_lt hp)
      rw [List.length_cons, Int.pow_succ, Int.mul_comm ((16 : Int) ^ l.length) 16, ← Int.mul_assoc]
      omega
theorem hexN_all (s : Bs) : ∀ b ∈ s.take (hexN s), 0 ≤ digB b.toNat := by
  have e : s.take (hexN s) = s.takeWhile fun b => decide (0 ≤ digB b.toNat) := by
    unfold hexN
    generalize (fun b : UInt8 => decide (0 ≤ digB b.toNat)) = p
    induction s with
    | nil => rfl
    | cons b s ih =>
      rw [List.takeWhile_cons]
      split
      · rw [List.length_cons, List.take_succ_cons, ih]
      · rfl
  intro b hb
  rw [e] at hb
  have key : ∀ l : Bs, b ∈ l.takeWhile (fun b => decide (0 ≤ digB b.toNat)) → 0 ≤ digB b.toNat := by
    intro l
    induction l with
    | nil => intro h; simp at h
    | cons c l ih =>
      intro h
      rw [List.takeWhile_cons] at h
      split at h
      · rcases List.mem_cons.1 h with h | h
        · subst h; simpa using ‹decide (0 ≤ digB _) = true›
        · exact ih h
      · simp at h
  exact key s hb
theorem numR_hex (s : Bs) (h1 : ¬ hexN s < 1) (h6 : ¬ 6 < hexN s) : ∃ v : Nat, numR 16 12 (s.take (hexN s)) = some (v : Int) ∧ v ≤ 16777216 := by
  have hl := hexN_le s
  have hlen : (s.take (hexN s)).length = hexN s := by rw [List.length_take]; omega
  have hs : (numF 16 (s.take (hexN s)) 0).isSome = true := by
    rw [numF_some, List.all_eq_true]
    intro b hb
    have h2 := hexN_all s b hb
    have h3 := digB_le b.toNat (by omega) (u8lt b)
    simp; omega
  obtain ⟨v, hv⟩ := Option.isSome_iff_exists.1 hs
  have h0 := numF_nonneg 16 (by decide) _ 0 v (Int.le_refl _) hv
  have hle := numF_le _ 0 v (Int.le_refl _) hv
  rw [hlen] at hle
  have hp : (16 : Int) ^ hexN s ≤ (16 : Int) ^ 6 := by
    have h7 : (16 : Nat) ^ hexN s ≤ 16 ^ 6 := Nat.pow_le_pow_right (by decide) (by omega)
    exact_mod_cast h7
  have h8 : (16 : Int) ^ 6 = 16777216 := by decide
  refine ⟨v.toNat, ?_, by omega⟩
  rw [numR, if_neg (by omega), hv, Int.toNat_of_nonneg h0]
theorem xref_size (g : Nat) (vl vb vt : Value) (r : CS) (s : ByteArray) (w : World) (h : XA w g vl vb vt r) (hp : r.place = 0) (hs : s.size ≤ 1000000) (hb : r.body.length ≤ 2048) :
    Calls Tryz.prog 50 #[.pointer (some ⟨g, 0, none⟩), .string s] w (XPost w g vl vb vt (cSize r s.data.toList)) := by
  obtain ⟨Ab, cb, rfl, hb1, hb2, hb3⟩ := h.ob.form
  have hK := xrefl h (by omega)
  obtain ⟨j0, j1, j2, j3, j4, j5, j6, j7, i0, i1, i2, i3, i4, i5, i6, i7⟩ := Blk.c8 hK.o.blk
  go_enter Tryz.func50, Tryz.ntmps50
  go_wp2
  go_loopw [4] (fun i wr => ∃ k : Nat, k ≤ s.size ∧ i = .int .i64 k ∧ Hid (hexN s.data.toList = k + hexN (s.data.toList.drop k)) ∧ w = wr) (fun i _ => s.size - (intOf i).toNat)
  case atStart => exact ⟨0, Nat.zero_le _, rfl, Lib.hid (by simp), rfl⟩
  case round =>
    obtain ⟨k, hk, rfl, H, rfl⟩ := hrel
    by_cases hgo : ∃ b, s.data.toList.drop k = b :: s.data.toList.drop (k + 1) ∧ k < s.size ∧ PlainAid.bt s k = (b.toNat : Int) ∧ 0 ≤ digB b.toNat
    · obtain ⟨b, hb, hlt, hbt, hd⟩ := hgo
      have HR := Lib.hid (show hexN s.data.toList = (k + 1) + hexN (s.data.toList.drop (k + 1)) by rw [H.out, hb, hexN_cons, if_pos hd]; omega)
      have hbs := PlainAid.get_bt s
      have hb8 := u8lt b
      clear hb H
      go_wp2_with fail
      refine (ref_Digit _ w (by omega) hb8).mono ?_
      rintro e w1 ⟨rfl, rfl⟩
      go_wp2_with fail
      go_roundw
      case rel => exact ⟨k + 1, by omega, by go_num, HR, by first | rfl | trivial⟩
      case measure => simp [intOf]; omega
    · have hm : hexN s.data.toList = k := by
        rcases Nat.lt_or_ge k s.size with hlt | hge
        · obtain ⟨b, hb, hbt⟩ := drop_bt s k hlt
          have : ¬ 0 ≤ digB b.toNat := fun hd => hgo ⟨b, hb, hlt, hbt, hd⟩
          rw [H.out, hb, hexN_cons, if_neg this]; omega
        · rw [H.out, drop_end s k hge]; rfl
      have hst : (k < s.size ∧ ∃ b : UInt8, PlainAid.bt s k = (b.toNat : Int) ∧ digB b.toNat < 0) ∨ k = s.size := by
        rcases Nat.lt_or_ge k s.size with hlt | hge
        · obtain ⟨b, hb, hbt⟩ := drop_bt s k hlt
          exact .inl ⟨hlt, b, hbt, by have : ¬ 0 ≤ digB b.toNat := fun hd => hgo ⟨b, hb, hlt, hbt, hd⟩; omega⟩
        · exact .inr (by omega)
      clear hgo H
      rcases hst with ⟨hlt, b, hbt, hd⟩ | hst
      · have hbs := PlainAid.get_bt s
        have hb8 := u8lt b
        by_cases h1 : k < 1
        · have HR := Lib.hid (cSize_none r s.data.toList (by rw [sizeL, hm, if_pos (.inl h1)]))
          clear hm
          go_wp2_with fail
          refine (ref_Digit _ w (by omega) hb8).mono ?_
          rintro e w1 ⟨rfl, rfl⟩
          go_wp2
          go_end0
          rw [HR.out]
          exact xpost_of hK.set_ rfl (by simp only; omega) rfl rfl rfl rfl
        by_cases h6 : 6 < k
        · have HR := Lib.hid (cSize_none r s.data.toList (by rw [sizeL, hm, if_pos (.inr h6)]))
          clear hm
          go_wp2_with fail
          refine (ref_Digit _ w (by omega) hb8).mono ?_
          rintro e w1 ⟨rfl, rfl⟩
          go_wp2
          go_end0
          rw [HR.out]
          exact xpost_of hK.set_ rfl (by simp only; omega) rfl rfl rfl rfl
        have h6' : k ≤ 6 := by omega
        have h1' : 1 ≤ k := by omega
        obtain ⟨v, hv, hvb⟩ := numR_hex s.data.toList (by omega) (by omega)
        have HS := Lib.hid (show sizeL s.data.toList = if parOk (s.data.toList.drop k) then some (v : Int) else none by rw [sizeL, if_neg (by omega), hv, hm])
        rw [hm] at hv
        have HV := Lib.hid hv
        obtain ⟨X, hX⟩ : ∃ X, X = s.extract 0 k := ⟨_, rfl⟩
        obtain ⟨Y, hY⟩ : ∃ Y, Y = s.extract k s.size := ⟨_, rfl⟩
        have HX := Lib.hid (show X.data.toList = s.data.toList.take k by rw [hX, ext_to])
        have HY := Lib.hid (show Y.data.toList = s.data.toList.drop k by rw [hY, ext_from])
        have hXs : X.size ≤ 6 := by rw [hX, ext_size _ _ _ (Nat.zero_le _) hk]; omega
        have hYs : Y.size ≤ 1000000 := by rw [hY, ext_size _ _ _ hk (Nat.le_refl _)]; omega
        have hXe := hX.symm
        have hYe := hY.symm
        clear hX hY hm hv h1 h6
        go_wp2_with fail
        refine (ref_Digit _ w (by omega) hb8).mono ?_
        rintro e w1 ⟨rfl, rfl⟩
        go_wp2_with fail
        refine (ref_Hex X w (by unfold maxLen; omega)).mono ?_
        rw [HX.out, HV.out]
        rintro e w2 ⟨rfl, rfl⟩
        unfold numV
        go_wp2_with fail
        refine (ref9_Params Y w hYs).mono ?_
        rw [HY.out]
        rintro e w3 ⟨⟨pv, rfl⟩, L4⟩
        have hK5 := hK.belowW L4
        obtain ⟨j0, j1, j2, j3, j4, j5, j6, j7, i0, i1, i2, i3, i4, i5, i6, i7⟩ := Blk.c8 hK5.o.blk
        have hS2 := HS.out
        clear HX HY HS hXe hYe HV
        cases hpk : parOk (s.data.toList.drop k)
        · have HR := Lib.hid (cSize_none r s.data.toList (by rw [hS2, hpk]; rfl))
          clear hS2 hpk
          go_wp2
          go_end0
          rw [HR.out]
          exact xpost_of hK5.set_ rfl (by simp only; omega) rfl rfl rfl rfl
        · have h3 : sizeL s.data.toList = some (v : Int) := by rw [hS2, hpk]; rfl
          clear hS2 hpk
          by_cases hbig : 2048 < r.body.length + v
          · have HR := Lib.hid (cSize_big r s.data.toList v h3 (by omega))
            clear h3
            go_wp2
            go_end0
            rw [HR.out]
            exact xpost_of hK5.set_ rfl (by simp only; omega) rfl rfl rfl rfl
          · by_cases h0 : v = 0
            · subst h0
              have HR := Lib.hid (cSize_zero r s.data.toList h3 hb)
              clear h3
              go_wp2
              go_end0
              rw [HR.out]
              exact xpost_of hK5.set_ rfl (by simp) rfl rfl rfl rfl
            · have HR := Lib.hid (cSize_some r s.data.toList v h3 (by omega) (by omega))
              have hbig2 : r.body.length + v ≤ 2048 := by omega
              have hne : ((v : Int) == 0) = false := by rw [Bool.eq_false_iff]; intro h9; rw [beq_iff_eq] at h9; omega
              clear h3 hbig h0
              go_wp2
              go_end0
              rw [HR.out]
              exact xpost_of (hK5.set_.set_) rfl (by simp) rfl rfl rfl rfl
      · have hge : s.size ≤ k := by omega
        clear hst
        by_cases h1 : k < 1
        · have HR := Lib.hid (cSize_none r s.data.toList (by rw [sizeL, hm, if_pos (.inl h1)]))
          clear hm
          go_wp2
          go_end0
          rw [HR.out]
          exact xpost_of hK.set_ rfl (by simp only; omega) rfl rfl rfl rfl
        by_cases h6 : 6 < k
        · have HR := Lib.hid (cSize_none r s.data.toList (by rw [sizeL, hm, if_pos (.inr h6)]))
          clear hm
          go_wp2
          go_end0
          rw [HR.out]
          exact xpost_of hK.set_ rfl (by simp only; omega) rfl rfl rfl rfl
        have h6' : k ≤ 6 := by omega
        have h1' : 1 ≤ k := by omega
        obtain ⟨v, hv, hvb⟩ := numR_hex s.data.toList (by omega) (by omega)
        have HS := Lib.hid (show sizeL s.data.toList = if parOk (s.data.toList.drop k) then some (v : Int) else none by rw [sizeL, if_neg (by omega), hv, hm])
        rw [hm] at hv
        have HV := Lib.hid hv
        obtain ⟨X, hX⟩ : ∃ X, X = s.extract 0 k := ⟨_, rfl⟩
        obtain ⟨Y, hY⟩ : ∃ Y, Y = s.extract k s.size := ⟨_, rfl⟩
        have HX := Lib.hid (show X.data.toList = s.data.toList.take k by rw [hX, ext_to])
        have HY := Lib.hid (show Y.data.toList = s.data.toList.drop k by rw [hY, ext_from])
        have hXs : X.size ≤ 6 := by rw [hX, ext_size _ _ _ (Nat.zero_le _) hk]; omega
        have hYs : Y.size ≤ 1000000 := by rw [hY, ext_size _ _ _ hk (Nat.le_refl _)]; omega
        have hXe := hX.symm
        have hYe := hY.symm
        clear hX hY hm hv h1 h6
        go_wp2_with fail
        refine (ref_Hex X w (by unfold maxLen; omega)).mono ?_
        rw [HX.out, HV.out]
        rintro e w2 ⟨rfl, rfl⟩
        unfold numV
        go_wp2_with fail
        refine (ref9_Params Y w hYs).mono ?_
        rw [HY.out]
        rintro e w3 ⟨⟨pv, rfl⟩, L4⟩
        have hK5 := hK.belowW L4
        obtain ⟨j0, j1, j2, j3, j4, j5, j6, j7, i0, i1, i2, i3, i4, i5, i6, i7⟩ := Blk.c8 hK5.o.blk
        have hS2 := HS.out
        clear HX HY HS hXe hYe HV
        cases hpk : parOk (s.data.toList.drop k)
        · have HR := Lib.hid (cSize_none r s.data.toList (by rw [hS2, hpk]; rfl))
          clear hS2 hpk
          go_wp2
          go_end0
          rw [HR.out]
          exact xpost_of hK5.set_ rfl (by simp only; omega) rfl rfl rfl rfl
        · have h3 : sizeL s.data.toList = some (v : Int) := by rw [hS2, hpk]; rfl
          clear hS2 hpk
          by_cases hbig : 2048 < r.body.length + v
          · have HR := Lib.hid (cSize_big r s.data.toList v h3 (by omega))
            clear h3
            go_wp2
            go_end0
            rw [HR.out]
            exact xpost_of hK5.set_ rfl (by simp only; omega) rfl rfl rfl rfl
          · by_cases h0 : v = 0
            · subst h0
              have HR := Lib.hid (cSize_zero r s.data.toList h3 hb)
              clear h3
              go_wp2
              go_end0
              rw [HR.out]
              exact xpost_of hK5.set_ rfl (by simp) rfl rfl rfl rfl
            · have HR := Lib.hid (cSize_some r s.data.toList v h3 (by omega) (by omega))
              have hbig2 : r.body.length + v ≤ 2048 := by omega
              have hne : ((v : Int) == 0) = false := by rw [Bool.eq_false_iff]; intro h9; rw [beq_iff_eq] at h9; omega
              clear h3 hbig h0
              go_wp2
              go_end0
              rw [HR.out]
              exact xpost_of (hK5.set_.set_) rfl (by simp) rfl rfl rfl rfl
theorem xref_trailer (g : Nat) (vl vb vt : Value) (r : CS) (s : ByteArray) (w : World) (h : XA w g vl vb vt r) (hp : r.place = 3) (hs : s.size ≤ 1000000) (he : r.ends ≤ 1000000) (ht : r.trs.length ≤ 8) :
    Calls Tryz.prog 51 #[.pointer (some ⟨g, 0, none⟩), .string s] w (XPost w g vl vb vt (if s.data.toList = [] then { r with whole := true } else cTrailer r s.data.toList)) := by
  obtain ⟨At, ct, rfl, hb1, hb2, hb3⟩ := h.ot.form
  have hK := xrefl h (by omega)
  have hl := len_data s
  rcases Nat.eq_zero_or_pos s.size with h0 | h0
  · obtain rfl := empty_size h0
    obtain ⟨j0, j1, j2, j3, j4, j5, j6, j7, i0, i1, i2, i3, i4, i5, i6, i7⟩ := Blk.c8 hK.o.blk
    rw [if_pos rfl]
    obtain ⟨r2, hr2⟩ : ∃ r2 : CS, r2 = { r with whole := true } := ⟨_, rfl⟩
    rw [← hr2]
    have HR := Lib.hid hr2
    have hp2 : r.place ≠ 2 := by omega
    clear hr2 hp
    go_enter Tryz.func51, Tryz.ntmps51
    go_wp2
    go_end0
    rw [HR.out]
    exact xpost_of hK.set_ rfl hp2 rfl rfl rfl rfl
  have hne := ne_isEmpty h0
  have hnn : s.data.toList ≠ [] := by intro e; rw [← hl, e] at h0; simp at h0
  rw [if_neg hnn]
  clear hnn
  go_enter Tryz.func51, Tryz.ntmps51
  go_wp2_with fail
  refine (ref10_Parse s w).mono ?_
  rintro e w1 ⟨⟨N, M, er, rfl, hpf⟩, L1⟩
  have hK1 := hK.belowW L1
  obtain ⟨E, hE⟩ : ∃ E : Nat, E = r.ends + s.data.toList.length + 2 := ⟨_, rfl⟩
  have hEi : (r.ends : Int) + (s.size : Int) + 2 = (E : Int) := by omega
  have HEi := Lib.hid hEi
  clear hEi
  obtain ⟨V, hV⟩ : ∃ V, V = w1.alloc (.cells #[.string N, .string M] 63) := ⟨_, rfl⟩
  have hK2 : KW w (foot g vl vb (.slice At r.trs.length ct)) V 28 g (xC r vl vb (.slice At r.trs.length ct)) vl vb (.slice At r.trs.length ct) r.line r.body r.trs := by rw [hV]; exact hK1.alloc
  have B1 : Blk V w1.heap.size 63 #[.string N, .string M] := by rw [hV]; exact Blk.new' _ _ rfl _ _
  have hgl : g < w1.heap.size := hK1.o.blk.lt
  go_upto_region 3 with (fail)
  rw [← hV]
  clear hV
  obtain ⟨j0, j1, j2, j3, j4, j5, j6, j7, i0, i1, i2, i3, i4, i5, i6, i7⟩ := Blk.c8 hK2.o.blk
  obtain ⟨k0, k1, n0, n1⟩ := B1.c2
  clear hK1 L1 hK
  rcases hpf with ⟨hp2, rfl⟩ | ⟨hp2, he0⟩
  · by_cases h8 : r.trs.length = 8
    · have HR := Lib.hid (cTrailer_full r _ _ hp2 (.inr h8))
      clear hp2
      go_wp2
      go_end0
      rw [HR.out, ← hE]
      exact xpost_of (hK2.set_.set_) rfl (by simp only; omega) (by rw [HEi.out]; rfl) rfl rfl rfl
    · have e8 : ((r.trs.length : Int) == 8) = false := by rw [Bool.eq_false_iff]; intro h9; rw [beq_iff_eq] at h9; omega
      by_cases h512 : 512 < E
      · have HR := Lib.hid (cTrailer_full r _ _ hp2 (.inl (by omega)))
        have g512 : (512 : Int) < (r.ends : Int) + (s.size : Int) + 2 := by omega
        clear hp2 h8
        go_wp2
        go_end0
        rw [HR.out, ← hE]
        exact xpost_of (hK2.set_.set_) rfl (by simp only; omega) (by rw [HEi.out]; rfl) rfl rfl rfl
      · have h512' : (r.ends : Int) + (s.size : Int) + 2 ≤ 512 := by omega
        have HR := Lib.hid (cTrailer_some r _ _ hp2 (by omega))
        have h8' : r.trs.length < 8 := by omega
        clear hp2 h8 h512
        go_wp2
        have hK3 := hK2.set_ (i := 7) (u := .int .i64 ((r.ends : Int) + (s.size : Int) + 2))
        obtain ⟨V2, hV2⟩ : ∃ V2, V2 = V.setCell ⟨g, 7, none⟩ (.int .i64 ((r.ends : Int) + (s.size : Int) + 2)) := ⟨_, rfl⟩
        have B2 : Blk V2 w1.heap.size 63 #[.string N, .string M] := by rw [hV2]; exact B1.far (p := ⟨g, 7, none⟩) (by show w1.heap.size ≠ g; omega) _
        rw [← hV2] at hK3 ⊢
        clear hV2 j0 j1 j2 j3 j4 j5 j6 j7 i0 i1 i2 i3 i4 i5 i6 i7 k0 k1 n0 n1 B1 hK2
        obtain ⟨j0, j1, j2, j3, j4, j5, j6, j7, i0, i1, i2, i3, i4, i5, i6, i7⟩ := Blk.c8 hK3.o.blk
        obtain ⟨k0, k1, n0, n1⟩ := B2.c2
        have hK4 := hK3.alloc (o := .cells #[.string N, .string M] 63)
        obtain ⟨y0, y1, y2, y3, y4, y5, y6, y7, z0, z1, z2, z3, z4, z5, z6, z7⟩ := Blk.c8 hK4.o.blk
        go_region_law (refine step_appF rfl (.tmp 31) (.tmp 33) rfl 0 (.slice At r.trs.length ct) r.trs rfl hK3.o.ot (allocW ((Below.refl _ _).drew) _) _ 1 1 (V2.heap.size + 1) rfl [(N.data.toList, M.data.toList)] rfl (by rw [fcells_1]; exact Rd.new V2.drew _ rfl [.string N, .string M] _ 1 2 rfl) (by simp; omega) (Nat.zero_le _) ?_; intro v' w3 ho3 hx3; obtain ⟨A3, c3, hv3, hc31, hc32, hc33⟩ := ho3.form; rw [show (r.trs ++ [(N.data.toList, M.data.toList)]).length = r.trs.length + 1 by simp] at hv3; subst hv3; have hK5 := hK3.extT hx3 ho3; obtain ⟨q0, q1, q2, q3, q4, q5, q6, q7, p0, p1, p2, p3, p4, p5, p6, p7⟩ := Blk.c8 hK5.o.blk)
        all_goals
          go_wp2
          go_end0
          rw [HR.out, ← hE]
          exact xpost_of hK5.set_ rfl (by simp only; omega) (by rw [HEi.out]; rfl) rfl rfl rfl
  · have HR := Lib.hid (cTrailer_none r _ hp2)
    have he1 : (er != 0) = true := by simp; omega
    clear hp2 he0
    go_wp2
    go_end0
    rw [HR.out, ← hE]
    exact xpost_of (hK2.set_.set_) rfl (by simp only; omega) (by rw [HEi.out]; rfl) rfl rfl rfl
end Go.Proofs.YtfapnppgbhlidaaGreatDoor

/- usherref14: size, trailer. usherref14: a line's byte; Feed. usherref14: the end of a line; Feed. -/
import Derived.Test.YtlambdccmfnloaaGreatDoorRKon
import Derived.Test.YtlambdccmfnloaaGreatDoorKon2
import Derived.Test.YtlambdccmfnloaaGreatDoorRFldP
namespace Go.Proofs.YtlambdccmfnloaaGreatDoor
open Go.RowKit
set_option maxRecDepth 100000
set_option maxHeartbeats 4000000

theorem numF_le : ∀ (l : Bs) (n v : Int), 0 ≤ n → numF 16 l n = some v → v + 1 ≤ (n + 1) * (16 : Int) ^ l.length
  | [], n, v, _, h => by simp [numF] at h; subst h; simp
  | b :: l, n, v, hn, h => by
    rw [numF] at h
    split at h
    · cases h
    · rename_i hc
      have hd := digB_le b.toNat (by omega) (u8lt b)
      have h1 := numF_le l (n * 16 + digB b.toNat) v (by omega) h
      have hp : (0 : Int) < (16 : Int) ^ l.length := Int.pow_pos (by decide)
      have h2 : (n * 16 + digB b.toNat + 1) * (16 : Int) ^ l.length ≤ ((n + 1) * 16) * (16 : Int) ^ l.length := Int.mul_le_mul_of_nonneg_right (by omega) (Int.le_of_lt hp)
      rw [List.length_cons, Int.pow_succ, Int.mul_comm ((16 : Int) ^ l.length) 16, ← Int.mul_assoc]
      omega
theorem hexN_all (s : Bs) : ∀ b ∈ s.take (hexN s), 0 ≤ digB b.toNat := by
  have e : s.take (hexN s) = s.takeWhile fun b => decide (0 ≤ digB b.toNat) := by
    unfold hexN
    generalize (fun b : UInt8 => decide (0 ≤ digB b.toNat)) = p
    induction s with
    | nil => rfl
    | cons b s ih =>
      rw [List.takeWhile_cons]
      split
      · rw [List.length_cons, List.take_succ_cons, ih]
      · rfl
  intro b hb
  rw [e] at hb
  have key : ∀ l : Bs, b ∈ l.takeWhile (fun b => decide (0 ≤ digB b.toNat)) → 0 ≤ digB b.toNat := by
    intro l
    induction l with
    | nil => intro h; simp at h
    | cons c l ih =>
      intro h
      rw [List.takeWhile_cons] at h
      split at h
      · rcases List.mem_cons.1 h with h | h
        · subst h; simpa using ‹decide (0 ≤ digB _) = true›
        · exact ih h
      · simp at h
  exact key s hb
theorem numR_hex (s : Bs) (h1 : ¬ hexN s < 1) (h6 : ¬ 6 < hexN s) : ∃ v : Nat, numR 16 12 (s.take (hexN s)) = some (v : Int) ∧ v ≤ 16777216 := by
  have hl := hexN_le s
  have hlen : (s.take (hexN s)).length = hexN s := by rw [List.length_take]; omega
  have hs : (numF 16 (s.take (hexN s)) 0).isSome = true := by
    rw [numF_some, List.all_eq_true]
    intro b hb
    have h2 := hexN_all s b hb
    have h3 := digB_le b.toNat (by omega) (u8lt b)
    simp; omega
  obtain ⟨v, hv⟩ := Option.isSome_iff_exists.1 hs
  have h0 := numF_nonneg 16 (by decide) _ 0 v (Int.le_refl _) hv
  have hle := numF_le _ 0 v (Int.le_refl _) hv
  rw [hlen] at hle
  have hp : (16 : Int) ^ hexN s ≤ (16 : Int) ^ 6 := by
    have h7 : (16 : Nat) ^ hexN s ≤ 16 ^ 6 := Nat.pow_le_pow_right (by decide) (by omega)
    exact_mod_cast h7
  have h8 : (16 : Int) ^ 6 = 16777216 := by decide
  refine ⟨v.toNat, ?_, by omega⟩
  rw [numR, if_neg (by omega), hv, Int.toNat_of_nonneg h0]
theorem xref_size (g : Nat) (vl vb vt : Value) (r : CS) (s : ByteArray) (w : World) (h : XA w g vl vb vt r) (hp : r.place = 0) (hs : s.size ≤ 1000000) (hb : r.body.length ≤ 2048) :
    Calls Tryz.prog 251 #[.pointer (some ⟨g, 0, none⟩), .string s] w (XPost w g vl vb vt (cSize r s.data.toList)) := by
  obtain ⟨Ab, cb, rfl, hb1, hb2, hb3⟩ := h.ob.form
  have hK := xrefl h (by omega)
  obtain ⟨j0, j1, j2, j3, j4, j5, j6, j7, i0, i1, i2, i3, i4, i5, i6, i7⟩ := Blk.c8 hK.o.blk
  go_enter Tryz.func251, Tryz.ntmps251
  go_wp2
  go_loopw [4] (fun i wr => ∃ k : Nat, k ≤ s.size ∧ i = .int .i64 k ∧ Hid (hexN s.data.toList = k + hexN (s.data.toList.drop k)) ∧ w = wr) (fun i _ => s.size - (intOf i).toNat)
  case atStart => exact ⟨0, Nat.zero_le _, rfl, Lib.hid (by simp), rfl⟩
  case round =>
    obtain ⟨k, hk, rfl, H, rfl⟩ := hrel
    by_cases hgo : ∃ b, s.data.toList.drop k = b :: s.data.toList.drop (k + 1) ∧ k < s.size ∧ PlainAid.bt s k = (b.toNat : Int) ∧ 0 ≤ digB b.toNat
    · obtain ⟨b, hb, hlt, hbt, hd⟩ := hgo
      have HR := Lib.hid (show hexN s.data.toList = (k + 1) + hexN (s.data.toList.drop (k + 1)) by rw [H.out, hb, hexN_cons, if_pos hd]; omega)
      have hbs := PlainAid.get_bt s
      have hb8 := u8lt b
      clear hb H
      go_wp2_with fail
      refine (ref_Digit _ w (by omega) hb8).mono ?_
      rintro e w1 ⟨rfl, rfl⟩
      go_wp2_with fail
      go_roundw
      case rel => exact ⟨k + 1, by omega, by go_num, HR, by first | rfl | trivial⟩
      case measure => simp [intOf]; omega
    · have hm : hexN s.data.toList = k := by
        rcases Nat.lt_or_ge k s.size with hlt | hge
        · obtain ⟨b, hb, hbt⟩ := drop_bt s k hlt
          have : ¬ 0 ≤ digB b.toNat := fun hd => hgo ⟨b, hb, hlt, hbt, hd⟩
          rw [H.out, hb, hexN_cons, if_neg this]; omega
        · rw [H.out, drop_end s k hge]; rfl
      have hst : (k < s.size ∧ ∃ b : UInt8, PlainAid.bt s k = (b.toNat : Int) ∧ digB b.toNat < 0) ∨ k = s.size := by
        rcases Nat.lt_or_ge k s.size with hlt | hge
        · obtain ⟨b, hb, hbt⟩ := drop_bt s k hlt
          exact .inl ⟨hlt, b, hbt, by have : ¬ 0 ≤ digB b.toNat := fun hd => hgo ⟨b, hb, hlt, hbt, hd⟩; omega⟩
        · exact .inr (by omega)
      clear hgo H
      rcases hst with ⟨hlt, b, hbt, hd⟩ | hst
      · have hbs := PlainAid.get_bt s
        have hb8 := u8lt b
        by_cases h1 : k < 1
        · have HR := Lib.hid (cSize_none r s.data.toList (by rw [sizeL, hm, if_pos (.inl h1)]))
          clear hm
          go_wp2_with fail
          refine (ref_Digit _ w (by omega) hb8).mono ?_
          rintro e w1 ⟨rfl, rfl⟩
          go_wp2
          go_end0
          rw [HR.out]
          exact xpost_of hK.set_ rfl (by simp only; omega) rfl rfl rfl rfl
        by_cases h6 : 6 < k
        · have HR := Lib.hid (cSize_none r s.data.toList (by rw [sizeL, hm, if_pos (.inr h6)]))
          clear hm
          go_wp2_with fail
          refine (ref_Digit _ w (by omega) hb8).mono ?_
          rintro e w1 ⟨rfl, rfl⟩
          go_wp2
          go_end0
          rw [HR.out]
          exact xpost_of hK.set_ rfl (by simp only; omega) rfl rfl rfl rfl
        have h6' : k ≤ 6 := by omega
        have h1' : 1 ≤ k := by omega
        obtain ⟨v, hv, hvb⟩ := numR_hex s.data.toList (by omega) (by omega)
        have HS := Lib.hid (show sizeL s.data.toList = if parOk (s.data.toList.drop k) then some (v : Int) else none by rw [sizeL, if_neg (by omega), hv, hm])
        rw [hm] at hv
        have HV := Lib.hid hv
        obtain ⟨X, hX⟩ : ∃ X, X = s.extract 0 k := ⟨_, rfl⟩
        obtain ⟨Y, hY⟩ : ∃ Y, Y = s.extract k s.size := ⟨_, rfl⟩
        have HX := Lib.hid (show X.data.toList = s.data.toList.take k by rw [hX, ext_to])
        have HY := Lib.hid (show Y.data.toList = s.data.toList.drop k by rw [hY, ext_from])
        have hXs : X.size ≤ 6 := by rw [hX, ext_size _ _ _ (Nat.zero_le _) hk]; omega
        have hYs : Y.size ≤ 1000000 := by rw [hY, ext_size _ _ _ hk (Nat.le_refl _)]; omega
        have hXe := hX.symm
        have hYe := hY.symm
        clear hX hY hm hv h1 h6
        go_wp2_with fail
        refine (ref_Digit _ w (by omega) hb8).mono ?_
        rintro e w1 ⟨rfl, rfl⟩
        go_wp2_with fail
        refine (ref_Hex X w (by unfold maxLen; omega)).mono ?_
        rw [HX.out, HV.out]
        rintro e w2 ⟨rfl, rfl⟩
        unfold numV
        go_wp2_with fail
        refine (ref9_Params Y w hYs).mono ?_
        rw [HY.out]
        rintro e w3 ⟨⟨pv, rfl⟩, L4⟩
        have hK5 := hK.belowW L4
        obtain ⟨j0, j1, j2, j3, j4, j5, j6, j7, i0, i1, i2, i3, i4, i5, i6, i7⟩ := Blk.c8 hK5.o.blk
        have hS2 := HS.out
        clear HX HY HS hXe hYe HV
        cases hpk : parOk (s.data.toList.drop k)
        · have HR := Lib.hid (cSize_none r s.data.toList (by rw [hS2, hpk]; rfl))
          clear hS2 hpk
          go_wp2
          go_end0
          rw [HR.out]
          exact xpost_of hK5.set_ rfl (by simp only; omega) rfl rfl rfl rfl
        · have h3 : sizeL s.data.toList = some (v : Int) := by rw [hS2, hpk]; rfl
          clear hS2 hpk
          by_cases hbig : 2048 < r.body.length + v
          · have HR := Lib.hid (cSize_big r s.data.toList v h3 (by omega))
            clear h3
            go_wp2
            go_end0
            rw [HR.out]
            exact xpost_of hK5.set_ rfl (by simp only; omega) rfl rfl rfl rfl
          · by_cases h0 : v = 0
            · subst h0
              have HR := Lib.hid (cSize_zero r s.data.toList h3 hb)
              clear h3
              go_wp2
              go_end0
              rw [HR.out]
              exact xpost_of hK5.set_ rfl (by simp) rfl rfl rfl rfl
            · have HR := Lib.hid (cSize_some r s.data.toList v h3 (by omega) (by omega))
              have hbig2 : r.body.length + v ≤ 2048 := by omega
              have hne : ((v : Int) == 0) = false := by rw [Bool.eq_false_iff]; intro h9; rw [beq_iff_eq] at h9; omega
              clear h3 hbig h0
              go_wp2
              go_end0
              rw [HR.out]
              exact xpost_of (hK5.set_.set_) rfl (by simp) rfl rfl rfl rfl
      · have hge : s.size ≤ k := by omega
        clear hst
        by_cases h1 : k < 1
        · have HR := Lib.hid (cSize_none r s.data.toList (by rw [sizeL, hm, if_pos (.inl h1)]))
          clear hm
          go_wp2
          go_end0
          rw [HR.out]
          exact xpost_of hK.set_ rfl (by simp only; omega) rfl rfl rfl rfl
        by_cases h6 : 6 < k
        · have HR := Lib.hid (cSize_none r s.data.toList (by rw [sizeL, hm, if_pos (.inr h6)]))
          clear hm
          go_wp2
          go_end0
          rw [HR.out]
          exact xpost_of hK.set_ rfl (by simp only; omega) rfl rfl rfl rfl
        have h6' : k ≤ 6 := by omega
        have h1' : 1 ≤ k := by omega
        obtain ⟨v, hv, hvb⟩ := numR_hex s.data.toList (by omega) (by omega)
        have HS := Lib.hid (show sizeL s.data.toList = if parOk (s.data.toList.drop k) then some (v : Int) else none by rw [sizeL, if_neg (by omega), hv, hm])
        rw [hm] at hv
        have HV := Lib.hid hv
        obtain ⟨X, hX⟩ : ∃ X, X = s.extract 0 k := ⟨_, rfl⟩
        obtain ⟨Y, hY⟩ : ∃ Y, Y = s.extract k s.size := ⟨_, rfl⟩
        have HX := Lib.hid (show X.data.toList = s.data.toList.take k by rw [hX, ext_to])
        have HY := Lib.hid (show Y.data.toList = s.data.toList.drop k by rw [hY, ext_from])
        have hXs : X.size ≤ 6 := by rw [hX, ext_size _ _ _ (Nat.zero_le _) hk]; omega
        have hYs : Y.size ≤ 1000000 := by rw [hY, ext_size _ _ _ hk (Nat.le_refl _)]; omega
        have hXe := hX.symm
        have hYe := hY.symm
        clear hX hY hm hv h1 h6
        go_wp2_with fail
        refine (ref_Hex X w (by unfold maxLen; omega)).mono ?_
        rw [HX.out, HV.out]
        rintro e w2 ⟨rfl, rfl⟩
        unfold numV
        go_wp2_with fail
        refine (ref9_Params Y w hYs).mono ?_
        rw [HY.out]
        rintro e w3 ⟨⟨pv, rfl⟩, L4⟩
        have hK5 := hK.belowW L4
        obtain ⟨j0, j1, j2, j3, j4, j5, j6, j7, i0, i1, i2, i3, i4, i5, i6, i7⟩ := Blk.c8 hK5.o.blk
        have hS2 := HS.out
        clear HX HY HS hXe hYe HV
        cases hpk : parOk (s.data.toList.drop k)
        · have HR := Lib.hid (cSize_none r s.data.toList (by rw [hS2, hpk]; rfl))
          clear hS2 hpk
          go_wp2
          go_end0
          rw [HR.out]
          exact xpost_of hK5.set_ rfl (by simp only; omega) rfl rfl rfl rfl
        · have h3 : sizeL s.data.toList = some (v : Int) := by rw [hS2, hpk]; rfl
          clear hS2 hpk
          by_cases hbig : 2048 < r.body.length + v
          · have HR := Lib.hid (cSize_big r s.data.toList v h3 (by omega))
            clear h3
            go_wp2
            go_end0
            rw [HR.out]
            exact xpost_of hK5.set_ rfl (by simp only; omega) rfl rfl rfl rfl
          · by_cases h0 : v = 0
            · subst h0
              have HR := Lib.hid (cSize_zero r s.data.toList h3 hb)
              clear h3
              go_wp2
              go_end0
              rw [HR.out]
              exact xpost_of hK5.set_ rfl (by simp) rfl rfl rfl rfl
            · have HR := Lib.hid (cSize_some r s.data.toList v h3 (by omega) (by omega))
              have hbig2 : r.body.length + v ≤ 2048 := by omega
              have hne : ((v : Int) == 0) = false := by rw [Bool.eq_false_iff]; intro h9; rw [beq_iff_eq] at h9; omega
              clear h3 hbig h0
              go_wp2
              go_end0
              rw [HR.out]
              exact xpost_of (hK5.set_.set_) rfl (by simp) rfl rfl rfl rfl
theorem xref_trailer (g : Nat) (vl vb vt : Value) (r : CS) (s : ByteArray) (w : World) (h : XA w g vl vb vt r) (hp : r.place = 3) (hs : s.size ≤ 1000000) (he : r.ends ≤ 1000000) (ht : r.trs.length ≤ 8) :
    Calls Tryz.prog 252 #[.pointer (some ⟨g, 0, none⟩), .string s] w (XPost w g vl vb vt (if s.data.toList = [] then { r with whole := true } else cTrailer r s.data.toList)) := by
  obtain ⟨At, ct, rfl, hb1, hb2, hb3⟩ := h.ot.form
  have hK := xrefl h (by omega)
  have hl := len_data s
  rcases Nat.eq_zero_or_pos s.size with h0 | h0
  · obtain rfl := empty_size h0
    obtain ⟨j0, j1, j2, j3, j4, j5, j6, j7, i0, i1, i2, i3, i4, i5, i6, i7⟩ := Blk.c8 hK.o.blk
    rw [if_pos rfl]
    obtain ⟨r2, hr2⟩ : ∃ r2 : CS, r2 = { r with whole := true } := ⟨_, rfl⟩
    rw [← hr2]
    have HR := Lib.hid hr2
    have hp2 : r.place ≠ 2 := by omega
    clear hr2 hp
    go_enter Tryz.func252, Tryz.ntmps252
    go_wp2
    go_end0
    rw [HR.out]
    exact xpost_of hK.set_ rfl hp2 rfl rfl rfl rfl
  have hne := ne_isEmpty h0
  have hnn : s.data.toList ≠ [] := by intro e; rw [← hl, e] at h0; simp at h0
  rw [if_neg hnn]
  clear hnn
  go_enter Tryz.func252, Tryz.ntmps252
  go_wp2_with fail
  refine (ref10_Parse s w).mono ?_
  rintro e w1 ⟨⟨N, M, er, rfl, hpf⟩, L1⟩
  have hK1 := hK.belowW L1
  obtain ⟨E, hE⟩ : ∃ E : Nat, E = r.ends + s.data.toList.length + 2 := ⟨_, rfl⟩
  have hEi : (r.ends : Int) + (s.size : Int) + 2 = (E : Int) := by omega
  have HEi := Lib.hid hEi
  clear hEi
  obtain ⟨V, hV⟩ : ∃ V, V = w1.alloc (.cells #[.string N, .string M] 72) := ⟨_, rfl⟩
  have hK2 : KW w (foot g vl vb (.slice At r.trs.length ct)) V 192 g (xC r vl vb (.slice At r.trs.length ct)) vl vb (.slice At r.trs.length ct) r.line r.body r.trs := by rw [hV]; exact hK1.alloc
  have B1 : Blk V w1.heap.size 72 #[.string N, .string M] := by rw [hV]; exact Blk.new' _ _ rfl _ _
  have hgl : g < w1.heap.size := hK1.o.blk.lt
  go_upto_region 3 with (fail)
  rw [← hV]
  clear hV
  obtain ⟨j0, j1, j2, j3, j4, j5, j6, j7, i0, i1, i2, i3, i4, i5, i6, i7⟩ := Blk.c8 hK2.o.blk
  obtain ⟨k0, k1, n0, n1⟩ := B1.c2
  clear hK1 L1 hK
  rcases hpf with ⟨hp2, rfl⟩ | ⟨hp2, he0⟩
  · by_cases h8 : r.trs.length = 8
    · have HR := Lib.hid (cTrailer_full r _ _ hp2 (.inr h8))
      clear hp2
      go_wp2
      go_end0
      rw [HR.out, ← hE]
      exact xpost_of (hK2.set_.set_) rfl (by simp only; omega) (by rw [HEi.out]; rfl) rfl rfl rfl
    · have e8 : ((r.trs.length : Int) == 8) = false := by rw [Bool.eq_false_iff]; intro h9; rw [beq_iff_eq] at h9; omega
      by_cases h512 : 512 < E
      · have HR := Lib.hid (cTrailer_full r _ _ hp2 (.inl (by omega)))
        have g512 : (512 : Int) < (r.ends : Int) + (s.size : Int) + 2 := by omega
        clear hp2 h8
        go_wp2
        go_end0
        rw [HR.out, ← hE]
        exact xpost_of (hK2.set_.set_) rfl (by simp only; omega) (by rw [HEi.out]; rfl) rfl rfl rfl
      · have h512' : (r.ends : Int) + (s.size : Int) + 2 ≤ 512 := by omega
        have HR := Lib.hid (cTrailer_some r _ _ hp2 (by omega))
        have h8' : r.trs.length < 8 := by omega
        clear hp2 h8 h512
        go_wp2
        have hK3 := hK2.set_ (i := 7) (u := .int .i64 ((r.ends : Int) + (s.size : Int) + 2))
        obtain ⟨V2, hV2⟩ : ∃ V2, V2 = V.setCell ⟨g, 7, none⟩ (.int .i64 ((r.ends : Int) + (s.size : Int) + 2)) := ⟨_, rfl⟩
        have B2 : Blk V2 w1.heap.size 72 #[.string N, .string M] := by rw [hV2]; exact B1.far (p := ⟨g, 7, none⟩) (by show w1.heap.size ≠ g; omega) _
        rw [← hV2] at hK3 ⊢
        clear hV2 j0 j1 j2 j3 j4 j5 j6 j7 i0 i1 i2 i3 i4 i5 i6 i7 k0 k1 n0 n1 B1 hK2
        obtain ⟨j0, j1, j2, j3, j4, j5, j6, j7, i0, i1, i2, i3, i4, i5, i6, i7⟩ := Blk.c8 hK3.o.blk
        obtain ⟨k0, k1, n0, n1⟩ := B2.c2
        have hK4 := hK3.alloc (o := .cells #[.string N, .string M] 72)
        obtain ⟨y0, y1, y2, y3, y4, y5, y6, y7, z0, z1, z2, z3, z4, z5, z6, z7⟩ := Blk.c8 hK4.o.blk
        go_region_law (refine step_appF rfl (.tmp 31) (.tmp 33) rfl 0 (.slice At r.trs.length ct) r.trs rfl hK3.o.ot (allocW ((Below.refl _ _).drew) _) _ 1 1 (V2.heap.size + 1) rfl [(N.data.toList, M.data.toList)] rfl (by rw [fcells_1]; exact Rd.new V2.drew _ rfl [.string N, .string M] _ 1 2 rfl) (by simp; omega) (Nat.zero_le _) ?_; intro v' w3 ho3 hx3; obtain ⟨A3, c3, hv3, hc31, hc32, hc33⟩ := ho3.form; rw [show (r.trs ++ [(N.data.toList, M.data.toList)]).length = r.trs.length + 1 by simp] at hv3; subst hv3; have hK5 := hK3.extT hx3 ho3; obtain ⟨q0, q1, q2, q3, q4, q5, q6, q7, p0, p1, p2, p3, p4, p5, p6, p7⟩ := Blk.c8 hK5.o.blk)
        all_goals
          go_wp2
          go_end0
          rw [HR.out, ← hE]
          exact xpost_of hK5.set_ rfl (by simp only; omega) (by rw [HEi.out]; rfl) rfl rfl rfl
  · have HR := Lib.hid (cTrailer_none r _ hp2)
    have he1 : (er != 0) = true := by simp; omega
    clear hp2 he0
    go_wp2
    go_end0
    rw [HR.out, ← hE]
    exact xpost_of (hK2.set_.set_) rfl (by simp only; omega) (by rw [HEi.out]; rfl) rfl rfl rfl
end Go.Proofs.YtlambdccmfnloaaGreatDoor
namespace Go.Proofs.YtlambdccmfnloaaGreatDoor
open Go.RowKit
set_option maxRecDepth 100000
set_option maxHeartbeats 4000000

theorem xpost_go {w W : World} {g : Nat} {cs : Array Value} {vl vb vt vl' vb' vt' : Value} {L B : Bs} {F : List Fd} {r : CS} {e : Ending} {w' : World} (h : KW w (foot g vl vb vt) W 192 g cs vl' vb' vt' L B F)
    (hp : XPost W g vl' vb' vt' r e w') : XPost w g vl vb vt r e w' := by
  obtain ⟨he, a, b, c, h1, h2⟩ := hp
  exact ⟨he, a, b, c, h1, h.m.trans h2⟩
theorem xa_of {w W : World} {S : Nat → Prop} {g : Nat} {cs : Array Value} {vl vb vt : Value} {L B : Bs} {F : List Fd} {r : CS} (h : KW w S W 192 g cs vl vb vt L B F) (hp : r.place ≠ 2)
    (hc : cs = xC r vl vb vt) (hL : L = r.line) (hB : B = r.body) (hF : F = r.trs) : XA W g vl vb vt r := by
  have h1 := h.o
  rw [hc, hL, hB, hF] at h1
  rw [XA, xCells_of r _ _ _ hp, xL_of r hp]
  exact h1
theorem xref_one_app (g : Nat) (vl vb vt : Value) (r : CS) (c : UInt8) (w : World) (h : XA w g vl vb vt r) (hi : CInv r) (hp : r.place = 0 ∨ r.place = 3) (hc : c ≠ 10) :
    Calls Tryz.prog 207 #[.pointer (some ⟨g, 0, none⟩), .int .u8 (c.toNat : Int)] w (XPost w g vl vb vt (cByte r c)) := by
  have hK := xrefl h (by omega)
  obtain ⟨Al, cl, hvl, hb1, hb2, hb3⟩ := hK.o.ol.form
  subst hvl
  obtain ⟨j0, j1, j2, j3, j4, j5, j6, j7, i0, i1, i2, i3, i4, i5, i6, i7⟩ := Blk.c8 hK.o.blk
  have hlen := hi.len
  have he := hi.ends2
  have hc1 := u8ne hc (n := 10) rfl
  have hE0 := (cByte_line r c (by omega) (by omega)).trans (cLine_lim r c hc)
  by_cases h13 : c = 13
  · have hc2 : ((c.toNat : Int) == 13) = true := by rw [h13]; rfl
    have HE := Lib.hid (show cByte r c = cLim { r with line := r.line ++ [c] } r.line.length by rw [hE0, if_pos h13])
    clear hE0 h13 hc
    rcases hp with hp | hp
    · have HP := Lib.hid hp
      rw [hp] at j4
      by_cases h1 : 64 < r.line.length
      · have HR := Lib.hid (show cByte r c = { r with line := r.line ++ [c], status := 400 } by rw [HE.out, cLim, if_pos ⟨hp, h1⟩])
        clear hp
        go_enter Tryz.func207, Tryz.ntmps207
        go_wp2_with (at_builtin; refine wp_app1 rfl _ _ rfl 0 (.slice Al r.line.length cl) _ rfl hK.o.ol _ rfl _ rfl c rfl (by omega) (Nat.zero_le _) ?_; intro v' w2 ho2 hx; have h2 := hK.extL hx ho2; obtain ⟨A3, c3, hv3, hc31, hc32, hc33⟩ := ho2.form; rw [show (r.line ++ [c]).length = r.line.length + 1 by simp] at hv3; subst hv3; obtain ⟨k0, k1, k2, k3, k4, k5, k6, k7, n0, n1, n2, n3, n4, n5, n6, n7⟩ := Blk.c8 h2.o.blk; rw [HP.out] at k4; clear ho2 hx)
        go_end0
        rw [HR.out]
        exact xpost_of (h2.set_.set_) rfl (by simp only; have := HP.out; omega) rfl rfl rfl rfl
      · have HR := Lib.hid (show cByte r c = { r with line := r.line ++ [c] } by rw [HE.out, cLim, if_neg (fun h => h1 h.2), if_neg (fun h => by simp only at h; omega)])
        have h1 : r.line.length ≤ 64 := by omega
        clear hp
        go_enter Tryz.func207, Tryz.ntmps207
        go_wp2_with (at_builtin; refine wp_app1 rfl _ _ rfl 0 (.slice Al r.line.length cl) _ rfl hK.o.ol _ rfl _ rfl c rfl (by omega) (Nat.zero_le _) ?_; intro v' w2 ho2 hx; have h2 := hK.extL hx ho2; obtain ⟨A3, c3, hv3, hc31, hc32, hc33⟩ := ho2.form; rw [show (r.line ++ [c]).length = r.line.length + 1 by simp] at hv3; subst hv3; obtain ⟨k0, k1, k2, k3, k4, k5, k6, k7, n0, n1, n2, n3, n4, n5, n6, n7⟩ := Blk.c8 h2.o.blk; rw [HP.out] at k4; clear ho2 hx)
        go_end0
        rw [HR.out]
        exact xpost_of (h2.set_) rfl (by simp only; have := HP.out; omega) rfl rfl rfl rfl
    · have HP := Lib.hid hp
      rw [hp] at j4
      by_cases h1 : 256 < r.line.length
      · have HR := Lib.hid (show cByte r c = { r with line := r.line ++ [c], status := 431 } by rw [HE.out, cLim, if_neg (fun h => by simp only at h; omega), if_pos ⟨hp, .inl h1⟩])
        clear hp
        go_enter Tryz.func207, Tryz.ntmps207
        go_wp2_with (at_builtin; refine wp_app1 rfl _ _ rfl 0 (.slice Al r.line.length cl) _ rfl hK.o.ol _ rfl _ rfl c rfl (by omega) (Nat.zero_le _) ?_; intro v' w2 ho2 hx; have h2 := hK.extL hx ho2; obtain ⟨A3, c3, hv3, hc31, hc32, hc33⟩ := ho2.form; rw [show (r.line ++ [c]).length = r.line.length + 1 by simp] at hv3; subst hv3; obtain ⟨k0, k1, k2, k3, k4, k5, k6, k7, n0, n1, n2, n3, n4, n5, n6, n7⟩ := Blk.c8 h2.o.blk; rw [HP.out] at k4; clear ho2 hx)
        go_end0
        rw [HR.out]
        exact xpost_of (h2.set_.set_) rfl (by simp only; have := HP.out; omega) rfl rfl rfl rfl
      · by_cases h2 : 512 < r.ends + r.line.length
        · have HR := Lib.hid (show cByte r c = { r with line := r.line ++ [c], status := 431 } by rw [HE.out, cLim, if_neg (fun h => by simp only at h; omega), if_pos ⟨hp, .inr h2⟩])
          have h1 : r.line.length ≤ 256 := by omega
          clear hp
          go_enter Tryz.func207, Tryz.ntmps207
          go_wp2_with (at_builtin; refine wp_app1 rfl _ _ rfl 0 (.slice Al r.line.length cl) _ rfl hK.o.ol _ rfl _ rfl c rfl (by omega) (Nat.zero_le _) ?_; intro v' w2 ho2 hx; have h9 := hK.extL hx ho2; obtain ⟨A3, c3, hv3, hc31, hc32, hc33⟩ := ho2.form; rw [show (r.line ++ [c]).length = r.line.length + 1 by simp] at hv3; subst hv3; obtain ⟨k0, k1, k2, k3, k4, k5, k6, k7, n0, n1, n2, n3, n4, n5, n6, n7⟩ := Blk.c8 h9.o.blk; rw [HP.out] at k4; clear ho2 hx)
          go_end0
          rw [HR.out]
          exact xpost_of (h9.set_.set_) rfl (by simp only; have := HP.out; omega) rfl rfl rfl rfl
        · have HR := Lib.hid (show cByte r c = { r with line := r.line ++ [c] } by rw [HE.out, cLim, if_neg (fun h => by simp only at h; omega), if_neg (fun h => by simp only at h; omega)])
          have h1 : r.line.length ≤ 256 := by omega
          have h2 : r.ends + r.line.length ≤ 512 := by omega
          clear hp
          go_enter Tryz.func207, Tryz.ntmps207
          go_wp2_with (at_builtin; refine wp_app1 rfl _ _ rfl 0 (.slice Al r.line.length cl) _ rfl hK.o.ol _ rfl _ rfl c rfl (by omega) (Nat.zero_le _) ?_; intro v' w2 ho2 hx; have h9 := hK.extL hx ho2; obtain ⟨A3, c3, hv3, hc31, hc32, hc33⟩ := ho2.form; rw [show (r.line ++ [c]).length = r.line.length + 1 by simp] at hv3; subst hv3; obtain ⟨k0, k1, k2, k3, k4, k5, k6, k7, n0, n1, n2, n3, n4, n5, n6, n7⟩ := Blk.c8 h9.o.blk; rw [HP.out] at k4; clear ho2 hx)
          go_end0
          rw [HR.out]
          exact xpost_of (h9.set_) rfl (by simp only; have := HP.out; omega) rfl rfl rfl rfl
  · have hc2 := u8ne h13 (n := 13) rfl
    have HE := Lib.hid (show cByte r c = cLim { r with line := r.line ++ [c] } (r.line.length + 1) by rw [hE0, if_neg h13])
    clear hE0 h13 hc
    rcases hp with hp | hp
    · have HP := Lib.hid hp
      rw [hp] at j4
      by_cases h1 : 64 < (r.line.length + 1)
      · have HR := Lib.hid (show cByte r c = { r with line := r.line ++ [c], status := 400 } by rw [HE.out, cLim, if_pos ⟨hp, h1⟩])
        clear hp
        go_enter Tryz.func207, Tryz.ntmps207
        go_wp2_with (at_builtin; refine wp_app1 rfl _ _ rfl 0 (.slice Al r.line.length cl) _ rfl hK.o.ol _ rfl _ rfl c rfl (by omega) (Nat.zero_le _) ?_; intro v' w2 ho2 hx; have h2 := hK.extL hx ho2; obtain ⟨A3, c3, hv3, hc31, hc32, hc33⟩ := ho2.form; rw [show (r.line ++ [c]).length = r.line.length + 1 by simp] at hv3; subst hv3; obtain ⟨k0, k1, k2, k3, k4, k5, k6, k7, n0, n1, n2, n3, n4, n5, n6, n7⟩ := Blk.c8 h2.o.blk; rw [HP.out] at k4; clear ho2 hx)
        go_end0
        rw [HR.out]
        exact xpost_of (h2.set_.set_) rfl (by simp only; have := HP.out; omega) rfl rfl rfl rfl
      · have HR := Lib.hid (show cByte r c = { r with line := r.line ++ [c] } by rw [HE.out, cLim, if_neg (fun h => h1 h.2), if_neg (fun h => by simp only at h; omega)])
        have h1 : (r.line.length + 1) ≤ 64 := by omega
        clear hp
        go_enter Tryz.func207, Tryz.ntmps207
        go_wp2_with (at_builtin; refine wp_app1 rfl _ _ rfl 0 (.slice Al r.line.length cl) _ rfl hK.o.ol _ rfl _ rfl c rfl (by omega) (Nat.zero_le _) ?_; intro v' w2 ho2 hx; have h2 := hK.extL hx ho2; obtain ⟨A3, c3, hv3, hc31, hc32, hc33⟩ := ho2.form; rw [show (r.line ++ [c]).length = r.line.length + 1 by simp] at hv3; subst hv3; obtain ⟨k0, k1, k2, k3, k4, k5, k6, k7, n0, n1, n2, n3, n4, n5, n6, n7⟩ := Blk.c8 h2.o.blk; rw [HP.out] at k4; clear ho2 hx)
        go_end0
        rw [HR.out]
        exact xpost_of (h2.set_) rfl (by simp only; have := HP.out; omega) rfl rfl rfl rfl
    · have HP := Lib.hid hp
      rw [hp] at j4
      by_cases h1 : 256 < (r.line.length + 1)
      · have HR := Lib.hid (show cByte r c = { r with line := r.line ++ [c], status := 431 } by rw [HE.out, cLim, if_neg (fun h => by simp only at h; omega), if_pos ⟨hp, .inl h1⟩])
        clear hp
        go_enter Tryz.func207, Tryz.ntmps207
        go_wp2_with (at_builtin; refine wp_app1 rfl _ _ rfl 0 (.slice Al r.line.length cl) _ rfl hK.o.ol _ rfl _ rfl c rfl (by omega) (Nat.zero_le _) ?_; intro v' w2 ho2 hx; have h2 := hK.extL hx ho2; obtain ⟨A3, c3, hv3, hc31, hc32, hc33⟩ := ho2.form; rw [show (r.line ++ [c]).length = r.line.length + 1 by simp] at hv3; subst hv3; obtain ⟨k0, k1, k2, k3, k4, k5, k6, k7, n0, n1, n2, n3, n4, n5, n6, n7⟩ := Blk.c8 h2.o.blk; rw [HP.out] at k4; clear ho2 hx)
        go_end0
        rw [HR.out]
        exact xpost_of (h2.set_.set_) rfl (by simp only; have := HP.out; omega) rfl rfl rfl rfl
      · by_cases h2 : 512 < r.ends + (r.line.length + 1)
        · have HR := Lib.hid (show cByte r c = { r with line := r.line ++ [c], status := 431 } by rw [HE.out, cLim, if_neg (fun h => by simp only at h; omega), if_pos ⟨hp, .inr h2⟩])
          have h1 : (r.line.length + 1) ≤ 256 := by omega
          clear hp
          go_enter Tryz.func207, Tryz.ntmps207
          go_wp2_with (at_builtin; refine wp_app1 rfl _ _ rfl 0 (.slice Al r.line.length cl) _ rfl hK.o.ol _ rfl _ rfl c rfl (by omega) (Nat.zero_le _) ?_; intro v' w2 ho2 hx; have h9 := hK.extL hx ho2; obtain ⟨A3, c3, hv3, hc31, hc32, hc33⟩ := ho2.form; rw [show (r.line ++ [c]).length = r.line.length + 1 by simp] at hv3; subst hv3; obtain ⟨k0, k1, k2, k3, k4, k5, k6, k7, n0, n1, n2, n3, n4, n5, n6, n7⟩ := Blk.c8 h9.o.blk; rw [HP.out] at k4; clear ho2 hx)
          go_end0
          rw [HR.out]
          exact xpost_of (h9.set_.set_) rfl (by simp only; have := HP.out; omega) rfl rfl rfl rfl
        · have HR := Lib.hid (show cByte r c = { r with line := r.line ++ [c] } by rw [HE.out, cLim, if_neg (fun h => by simp only at h; omega), if_neg (fun h => by simp only at h; omega)])
          have h1 : (r.line.length + 1) ≤ 256 := by omega
          have h2 : r.ends + (r.line.length + 1) ≤ 512 := by omega
          clear hp
          go_enter Tryz.func207, Tryz.ntmps207
          go_wp2_with (at_builtin; refine wp_app1 rfl _ _ rfl 0 (.slice Al r.line.length cl) _ rfl hK.o.ol _ rfl _ rfl c rfl (by omega) (Nat.zero_le _) ?_; intro v' w2 ho2 hx; have h9 := hK.extL hx ho2; obtain ⟨A3, c3, hv3, hc31, hc32, hc33⟩ := ho2.form; rw [show (r.line ++ [c]).length = r.line.length + 1 by simp] at hv3; subst hv3; obtain ⟨k0, k1, k2, k3, k4, k5, k6, k7, n0, n1, n2, n3, n4, n5, n6, n7⟩ := Blk.c8 h9.o.blk; rw [HP.out] at k4; clear ho2 hx)
          go_end0
          rw [HR.out]
          exact xpost_of (h9.set_) rfl (by simp only; have := HP.out; omega) rfl rfl rfl rfl
end Go.Proofs.YtlambdccmfnloaaGreatDoor
namespace Go.Proofs.YtlambdccmfnloaaGreatDoor
open Go.RowKit
set_option maxRecDepth 100000
set_option maxHeartbeats 4000000

theorem xref_one_bad (g : Nat) (vl vb vt : Value) (r : CS) (w : World) (h : XA w g vl vb vt r) (hi : CInv r) (hp : r.place = 0 ∨ r.place = 3) (hb : r.line.getLast? ≠ some 13) :
    Calls Tryz.prog 207 #[.pointer (some ⟨g, 0, none⟩), .int .u8 10] w (XPost w g vl vb vt (cByte r 10)) := by
  have hp2 : r.place ≠ 2 := by omega
  have hK := xrefl h hp2
  have hlen := hi.len
  have HR := Lib.hid ((cByte_line r 10 (by omega) (by omega)).trans (cLine_bad r hb))
  obtain ⟨j0, j1, j2, j3, j4, j5, j6, j7, i0, i1, i2, i3, i4, i5, i6, i7⟩ := Blk.c8 hK.o.blk
  have e1 : ((r.place : Int) == 1) = false := by rw [Bool.eq_false_iff]; intro h0; rw [beq_iff_eq] at h0; omega
  have e2 : ((r.place : Int) == 2) = false := by rw [Bool.eq_false_iff]; intro h0; rw [beq_iff_eq] at h0; omega
  rcases snoc_cases r.line with hl | ⟨P, x, hl⟩
  · obtain ⟨Al, cl, hvl, hb1, hb2, hb3⟩ := hK.o.ol.form
    subst hvl
    rw [hl] at j5
    clear hp hl hb
    go_enter Tryz.func207, Tryz.ntmps207
    go_wp2
    go_end0
    rw [HR.out]
    exact xpost_of hK.set_ rfl hp2 rfl rfl rfl rfl
  · have hx : x ≠ 13 := by rintro rfl; exact hb (by rw [hl]; simp)
    have hn : r.line.length = P.length + 1 := by rw [hl]; simp
    obtain ⟨b, cap, hvl, hb1, hb2, hb3⟩ := Own.form hK.o.ol (by omega)
    subst hvl
    obtain ⟨hc1, hc2⟩ := Own.cellAt hK.o.ol P.length (by omega)
    have hc3 : w.cell? ⟨b, P.length, none⟩ = some (.int .u8 (x.toNat : Int)) := by rw [hc1, hl]; simp
    rw [hn] at j5 hb3
    have hx2 := u8ne hx (n := 13) rfl
    have hx3 : ((x.toNat : Int) != 13) = true := by rw [bne, hx2]; rfl
    have hp0 : ((P.length : Int) + 1 == 0) = false := by rw [Bool.eq_false_iff]; intro h0; rw [beq_iff_eq] at h0; omega
    clear hc1 hb hp
    go_enter Tryz.func207, Tryz.ntmps207
    go_wp2
    go_end0
    rw [HR.out]
    exact xpost_of hK.set_ rfl hp2 rfl rfl rfl rfl
theorem xref_one_fin (g : Nat) (vl vb vt : Value) (r : CS) (P : Bs) (w : World) (h : XA w g vl vb vt r) (hi : CInv r) (hl : r.line = P ++ [13]) (hp : r.place = 0 ∨ r.place = 3) :
    Calls Tryz.prog 207 #[.pointer (some ⟨g, 0, none⟩), .int .u8 10] w (XPost w g vl vb vt (cByte r 10)) := by
  have hp2 : r.place ≠ 2 := by omega
  have hK := xrefl h hp2
  have hlen := hi.len
  have hbd := hi.body
  have hee := hi.ends2
  have htr := hi.trs
  have hn : r.line.length = P.length + 1 := by rw [hl]; simp
  have HR := Lib.hid ((cByte_line r 10 (by omega) (by omega)).trans (cLine_end r P hl))
  obtain ⟨b, cap, hvl, -, -, -⟩ := Own.form hK.o.ol (by omega)
  subst hvl
  obtain ⟨j0, j1, j2, j3, j4, j5, j6, j7, i0, i1, i2, i3, i4, i5, i6, i7⟩ := Blk.c8 hK.o.blk
  obtain ⟨hc1, hc2⟩ := Own.cellAt hK.o.ol P.length (by omega)
  have hc3 : w.cell? ⟨b, P.length, none⟩ = some (.int .u8 13) := by rw [hc1, hl]; simp
  obtain ⟨hb3, hb4, hb5⟩ := Own.rdS hK.o.ol
  have hrd := Rd.cutTo hb5 (k := P.length) (by omega)
  rw [Nat.mul_one, show (r.line.map bv).take P.length = P.map bv by rw [hl]; simp] at hrd
  obtain ⟨X, hX⟩ : ∃ X : ByteArray, X = ⟨P.toArray⟩ := ⟨_, rfl⟩
  have HX := Lib.hid (show X.data.toList = P by rw [hX])
  have hXs : X.size = P.length := by rw [hX]; exact (len_data _).symm
  have hXb : X.size ≤ 258 := by omega
  have hcv := run_str_rd (P := Tryz.prog) hrd cap 25 5 9 Tryz.underlying25 Tryz.underlying5 Tryz.underlying9
  rw [show sv P = .string X by rw [hX]] at hcv
  rw [hn] at j5 hb3
  have hp0 : ((P.length : Int) + 1 == 0) = false := by rw [Bool.eq_false_iff]; intro h0; rw [beq_iff_eq] at h0; omega
  have h3 := (hK.nilL).set_ (i := 5) (u := .slice none 0 0)
  have hxA : XA (w.setCell ⟨g, 5, none⟩ (.slice none 0 0)) g (.slice none 0 0) vb vt { r with line := [] } := xa_of h3 hp2 rfl rfl rfl rfl
  clear hX hrd hb5 hb4 hc1 hXs
  rcases hp with hp | hp
  · rw [hp] at j4
    have HR2 := Lib.hid (HR.out.trans (if_pos hp))
    have hC := xref_size g _ _ _ { r with line := [] } X _ hxA hp (by omega) (by simp only; omega)
    rw [HX.out, ← HR2.out] at hC
    clear hp
    go_enter Tryz.func207, Tryz.ntmps207
    go_wp2_with fail
    refine hC.mono ?_
    intro e w' hq
    obtain ⟨rfl, hq2⟩ := xpost_go h3 hq
    go_wp2
    go_end0
    exact ⟨rfl, hq2⟩
  · rw [hp] at j4
    have HR2 := Lib.hid (HR.out.trans (if_neg (by omega)))
    have hC := xref_trailer g _ _ _ { r with line := [] } X _ hxA hp (by omega) (by simp only; omega) htr
    rw [HX.out] at hC
    have HR3 := Lib.hid (show (if P = [] then { ({ r with line := [] } : CS) with whole := true } else cTrailer { r with line := [] } P) = cByte r 10 from HR2.out.symm)
    rw [HR3.out] at hC
    clear hp
    go_enter Tryz.func207, Tryz.ntmps207
    go_wp2_with fail
    refine hC.mono ?_
    intro e w' hq
    obtain ⟨rfl, hq2⟩ := xpost_go h3 hq
    go_wp2
    go_end0
    exact ⟨rfl, hq2⟩
theorem xref_one (g : Nat) (vl vb vt : Value) (r : CS) (c : UInt8) (w : World) (h : XA w g vl vb vt r) (hi : CInv r) :
    Calls Tryz.prog 207 #[.pointer (some ⟨g, 0, none⟩), .int .u8 (c.toNat : Int)] w (XPost w g vl vb vt (cByte r c)) := by
  by_cases h1 : r.place = 1
  · exact xref_one_data g vl vb vt r c w h hi h1
  by_cases h2 : r.place = 2
  · exact xref_one_end g vl vb vt r c w h hi h2
  have hp : r.place = 0 ∨ r.place = 3 := by have := hi.place; omega
  by_cases hc : c = 10
  · subst hc
    by_cases hl : r.line.getLast? = some 13
    · rcases snoc_cases r.line with h0 | ⟨P, x, h0⟩
      · rw [h0] at hl; cases hl
      · obtain rfl : x = 13 := by rw [h0] at hl; simpa using hl
        exact xref_one_fin g vl vb vt r P w h hi h0 hp
    · exact xref_one_bad g vl vb vt r w h hi hp hl
  · exact xref_one_app g vl vb vt r c w h hi hp hc
/-- The reference's Reader at block g, with the blocks S. -/
def XR (w : World) (g : Nat) (S : Nat → Prop) (r : CS) : Prop := ∃ vl vb vt, S = foot g vl vb vt ∧ XA w g vl vb vt r
theorem XR.lt {w : World} {g : Nat} {S : Nat → Prop} {r : CS} (h : XR w g S r) {k : Nat} (hk : S k) : k < w.heap.size := by
  obtain ⟨vl, vb, vt, rfl, h⟩ := h
  exact h.foot_lt hk
theorem XR.fr {w w' : World} {g : Nat} {S T : Nat → Prop} {r : CS} (h : XR w g S r) (hf : Fr T w w') (hs : ∀ k, S k → ¬ T k) : XR w' g S r := by
  obtain ⟨vl, vb, vt, rfl, h⟩ := h
  exact ⟨vl, vb, vt, rfl, O3.fr h hf hs⟩
theorem XR.belowW {w w' : World} {g : Nat} {S : Nat → Prop} {r : CS} (h : XR w g S r) (hb : Below w.heap.size w w') : XR w' g S r := by
  obtain ⟨vl, vb, vt, rfl, h⟩ := h
  exact ⟨vl, vb, vt, rfl, O3.belowW h hb⟩
def XFeedPost (w : World) (g : Nat) (S : Nat → Prop) (q : Nat × CS) (e : Ending) (w' : World) : Prop :=
  e = .returned (.tuple #[.int .i64 (q.1 : Int), .bool q.2.whole, .int .i64 q.2.status]) ∧ ∃ S', XR w' g S' q.2 ∧ Moved S S' w w'
theorem xref_Feed (g : Nat) (S : Nat → Prop) (r : CS) (A : Option Addr) (n c B : Nat) (p : Bs) (w : World) (h : XR w g S r) (hi : CInv r) (hA : Rd w B 1 A n (p.map bv)) (hB : B ≤ w.heap.size)
    (hne : 0 < n → ∀ a, A = some a → ¬ S a.block) (hn : n ≤ 1000000) :
    Calls Tryz.prog 178 #[.pointer (some ⟨g, 0, none⟩), .slice A n c] w (XFeedPost w g S (cFeed r p)) := by
  have hl : p.length = n := by simpa using hA.1
  go_enter Tryz.func178, Tryz.ntmps178
  go_wp2
  go_loopw [7] (fun i wr => ∃ (k : Nat) (r' : CS) (S' : Nat → Prop), k ≤ n ∧ i = .int .i64 k ∧ XR wr g S' r' ∧ CInv r' ∧ Moved S S' w wr ∧ Hid (cFeed r p = (k + (cFeed r' (p.drop k)).1, (cFeed r' (p.drop k)).2))) (fun i _ => n - (intOf i).toNat)
  case atStart => exact ⟨0, r, S, Nat.zero_le _, rfl, h, hi, Moved.refl _ _, Lib.hid (by simp)⟩
  case round =>
    obtain ⟨k, r', S', hk, rfl, hK, hI, hM, H⟩ := hrel
    have hA2 := hA.frm hB hM.fr hne
    obtain ⟨vl, vb, vt, hS, hKA⟩ := hK
    obtain ⟨j0, j1, j2, j3, j4, j5, j6, j7, i0, i1, i2, i3, i4, i5, i6, i7⟩ := Blk.c8 hKA.blk
    by_cases hlt : k < n
    · obtain ⟨x, hx, hd⟩ := drop_at (l := p) (k := k) (by omega)
      cases ho : r'.on
      · have HR := Lib.hid (show cFeed r p = (k, r') by rw [H.out, cFeed_off _ _ ho]; rfl)
        have hx0 : r'.whole = true ∨ (r'.whole = false ∧ (r'.status == 0) = false) := by
          unfold CS.on at ho
          cases hw : r'.whole
          · rw [hw] at ho
            right
            refine ⟨rfl, ?_⟩
            rw [Bool.eq_false_iff]; intro h0; rw [beq_iff_eq] at h0; rw [h0] at ho; cases ho
          · exact .inl rfl
        clear hd H hx ho
        rcases hx0 with hw | ⟨hw, hst⟩
        · rw [hw] at j2
          go_wp2
          go_quiet (fail)
          go_wp2
          go_ret3
          exact ⟨by rw [HR.out]; simp only; rw [hw]; rfl, S', by rw [HR.out]; exact XR.belowW ⟨vl, vb, vt, hS, hKA⟩ (below_drewN' (Below.refl _ _) _), hM.drewN _⟩
        · rw [hw] at j2
          go_wp2
          go_quiet (fail)
          go_wp2
          go_ret3
          exact ⟨by rw [HR.out]; simp only; rw [hw]; rfl, S', by rw [HR.out]; exact XR.belowW ⟨vl, vb, vt, hS, hKA⟩ (below_drewN' (Below.refl _ _) _), hM.drewN _⟩
      · obtain ⟨hw, hst⟩ := CS.on_parts _ ho
        have HR := Lib.hid (show cFeed r p = ((k + 1) + (cFeed (cByte r' x) (p.drop (k + 1))).1, (cFeed (cByte r' x) (p.drop (k + 1))).2) by rw [H.out, hd, cFeed_on _ _ _ ho]; exact Prod.ext (by simp only; omega) rfl)
        have hI2 := cByte_inv r' x hI ho
        obtain ⟨b, o, rfl, hb, hcell⟩ := hA2.byte k x hx
        rw [hw] at j2
        rw [hst] at j3
        clear hx hd H ho
        go_wp2_with fail
        subst hS
        refine (xref_one g vl vb vt r' x wr hKA hI).mono ?_
        rintro e w1 ⟨rfl, vl', vb', vt', hKA', hM'⟩
        go_wp2_with fail
        go_roundw
        case rel => exact ⟨k + 1, cByte r' x, _, by omega, by go_num, ⟨_, _, _, rfl, hKA'⟩, hI2, hM.trans hM', HR⟩
        case measure => simp [intOf]; omega
    · have HR := Lib.hid (show cFeed r p = (k, r') by rw [H.out, List.drop_of_length_le (by omega)]; rfl)
      clear H
      go_wp2
      go_quiet (fail)
      go_wp2
      go_ret3
      exact ⟨by rw [HR.out]; rfl, S', by rw [HR.out]; exact XR.belowW ⟨vl, vb, vt, hS, hKA⟩ (below_drewN' (Below.refl _ _) _), hM.drewN _⟩
end Go.Proofs.YtlambdccmfnloaaGreatDoor

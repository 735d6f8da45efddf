/- strconv.ParseInt to base 16 on up to twelve hexadecimal digits; ascii.Hex. -/
import Derived.Test.YtmjekdnfkgalbaaGreatDoorAscii
import Derived.Test.YtmjekdnfkgalbaaGreatDoorPlain
import Derived.Deep.CutRange
import Derived.Deep.DeepCutAuto
namespace Go.Proofs.YtmjekdnfkgalbaaGreatDoor
open Go.RowKit
set_option maxRecDepth 100000
set_option maxHeartbeats 2000000

theorem or_lo (b : UInt8) (h : 97 ≤ b.toNat ∧ b.toNat ≤ 122) : (b.toNat ||| 32) = b.toNat := by
  have : ∀ x : Fin 256, 97 ≤ x.val ∧ x.val ≤ 122 → (x.val ||| 32) = x.val := by decide +kernel
  exact this ⟨b.toNat, b.toNat_lt⟩ h
theorem or_up (b : UInt8) (h : 65 ≤ b.toNat ∧ b.toNat ≤ 90) : (b.toNat ||| 32) = b.toNat + 32 := by
  have : ∀ x : Fin 256, 65 ≤ x.val ∧ x.val ≤ 90 → (x.val ||| 32) = x.val + 32 := by decide +kernel
  exact this ⟨b.toNat, b.toNat_lt⟩ h
theorem or_bits (b : UInt8) : bits BinOp.or IntKind.u8 (b.toNat : Int) 32 = ((b.toNat ||| 32 : Nat) : Int) := by
  have : ∀ x : Fin 256, bits BinOp.or IntKind.u8 (x.val : Int) 32 = ((x.val ||| 32 : Nat) : Int) := by decide +kernel
  exact this ⟨b.toNat, b.toNat_lt⟩
theorem lib_lower (b : UInt8) (w : World) :
    Calls Tryz.prog 166 #[.int .u8 b.toNat] w fun e w' => e = .returned (.int .u8 (((b.toNat ||| 32 : Nat) : Int))) ∧ w = w' := by
  go_enter Tryz.func166, Tryz.ntmps166
  go_wp2
  go_ret
  exact ⟨by rw [← or_bits]; rfl, rfl⟩

theorem hex_class (b : UInt8) (h : hexS.contains b = true) : (48 ≤ b.toNat ∧ b.toNat ≤ 57 ∧ digB b.toNat = (b.toNat : Int) - 48) ∨ (97 ≤ b.toNat ∧ b.toNat ≤ 102 ∧ digB b.toNat = (b.toNat : Int) - 87) ∨ (65 ≤ b.toNat ∧ b.toNat ≤ 70 ∧ digB b.toNat = (b.toNat : Int) - 55) := by
  have : ∀ x : Fin 256, hexS.contains (UInt8.ofNat x.val) = true → (48 ≤ (UInt8.ofNat x.val).toNat ∧ (UInt8.ofNat x.val).toNat ≤ 57 ∧ digB (UInt8.ofNat x.val).toNat = ((UInt8.ofNat x.val).toNat : Int) - 48) ∨ (97 ≤ (UInt8.ofNat x.val).toNat ∧ (UInt8.ofNat x.val).toNat ≤ 102 ∧ digB (UInt8.ofNat x.val).toNat = ((UInt8.ofNat x.val).toNat : Int) - 87) ∨ (65 ≤ (UInt8.ofNat x.val).toNat ∧ (UInt8.ofNat x.val).toNat ≤ 70 ∧ digB (UInt8.ofNat x.val).toNat = ((UInt8.ofNat x.val).toNat : Int) - 55) := by decide +kernel
  have h' := this ⟨b.toNat, b.toNat_lt⟩
  have e : UInt8.ofNat b.toNat = b := by simp
  rw [show ((⟨b.toNat, b.toNat_lt⟩ : Fin 256).val) = b.toNat from rfl, e] at h'
  exact h' h

theorem lib_uint16 (s : ByteArray) (w : World) (h0 : 0 < s.size) (h1 : s.size ≤ 12) (hx : ∀ b ∈ s.data.toList, hexS.contains b = true) :
    Calls Tryz.prog 154 #[.string s, .int .i64 16, .int .i64 64] w fun e w' => (∃ n : Int, 0 ≤ n ∧ n < 9223372036854775807 ∧ numF 16 s.data.toList 0 = some n ∧ e = .returned (.tuple #[.int .u64 n, .nilIface])) ∧ Below w.heap.size w w' := by
  have hne := ne_isEmpty h0
  have hw : IntKind.u64.wrap (IntKind.u64.wrap 18446744073709551616 - 1) = 18446744073709551615 := by decide
  go_enter Tryz.func154, Tryz.ntmps154
  go_wp2_with (refine wpList_toBytes _ rfl (.tmp 98) 9 22 rfl 5 w.heap.size s rfl Tryz.underlying9 Tryz.underlying22 Tryz.underlying5 (by unfold maxLen; omega) (Nat.le_refl _) ?_
               intro cap w1 hcap ho1 hg1 hz1)
  have L1 := below_of_none hg1
  have hc1 : ∀ k, k < s.size → w1.cell? ⟨w.heap.size, k, none⟩ = (s.data.toList.map bv)[k]? := fun k hk => by
    have ho1' := ho1
    obtain ⟨_, h⟩ := ho1'
    rcases h with ⟨hv, _⟩ | ⟨g, cap', cur, fr, hv, hg, hblk, hfr, h1', h2', h3', h4'⟩
    · cases hv
    · simp only [Value.slice.injEq, Option.some.injEq, Addr.mk.injEq, true_and, and_true] at hv
      obtain ⟨rfl, -⟩ := hv
      rw [cell_of_row w1 _ k cur _ _ hblk, ← h4', List.getElem?_take_of_lt (by omega)]
      simp
  clear ho1 hg1
  go_loop [12, 13, 101] (fun u v i => ∃ (k : Nat) (n : Int), k ≤ s.size ∧ u = .bool false ∧ v = .int .u64 n ∧ i = .int .i64 k ∧ 0 ≤ n ∧ Hid (n < (16 : Int) ^ k) ∧ Hid (numF 16 s.data.toList 0 = numF 16 (s.data.toList.drop k) n)) (fun _ _ i => s.size - (intOf i).toNat)
  case atStart => exact ⟨0, 0, Nat.zero_le _, rfl, rfl, rfl, Int.le_refl _, Lib.hid (by decide), rfl⟩
  case round =>
    obtain ⟨k, n, hk, rfl, rfl, rfl, hn0, HB, H⟩ := hrel
    by_cases hlt : k < s.size
    · obtain ⟨b, hb, hbt⟩ := drop_bt s k hlt
      have hbm : b ∈ s.data.toList := List.mem_of_mem_drop (i := k) (by rw [hb]; simp)
      have hcell := hc1 k hlt
      have hgb : s.data.toList[k]? = some b := by rw [← List.head?_drop, hb]; rfl
      rw [List.getElem?_map, hgb, Option.map_some] at hcell
      have Hb := Lib.hid hb; clear hb hgb
      have hn11 := pow_le16 n k HB.out (by omega)
      clear hbt
      have hcl := hex_class b (hx b hbm)
      clear hc1 hx hbm
      rcases hcl with ⟨q0, q1, hd⟩ | ⟨q0, q1, hd⟩ | ⟨q0, q1, hd⟩
      · have Hd := Lib.hid hd; clear hd
        go_wp2_with fail
        go_round
        case rel =>
          refine ⟨k + 1, n * 16 + ((b.toNat : Int) - 48), by omega, rfl, by go_num, by go_num, by omega, ?_, ?_⟩
          · have := pow_step n 16 k ((b.toNat : Int) - 48) HB.out (by omega) (by omega)
            exact Lib.hid (by simpa using this)
          · rw [H.out, Hb.out, numF, Hd.out, if_neg (by omega)]; rfl
        case measure => simp [intOf]; omega
      · have Hd := Lib.hid hd; clear hd
        have hor := or_lo b (by omega)
        go_wp2_with (go_at_call 166; refine (lib_lower b _).mono ?_; rintro e w3 ⟨rfl, rfl⟩; rw [hor])
        go_round
        case rel =>
          refine ⟨k + 1, n * 16 + ((b.toNat : Int) - 87), by omega, rfl, by go_num, by go_num, by omega, ?_, ?_⟩
          · have := pow_step n 16 k ((b.toNat : Int) - 87) HB.out (by omega) (by omega)
            exact Lib.hid (by simpa using this)
          · rw [H.out, Hb.out, numF, Hd.out, if_neg (by omega)]; rfl
        case measure => simp [intOf]; omega
      · have Hd := Lib.hid hd; clear hd
        have hor := or_up b (by omega)
        go_wp2_with (go_at_call 166; refine (lib_lower b _).mono ?_; rintro e w3 ⟨rfl, rfl⟩; rw [hor])
        go_round
        case rel =>
          refine ⟨k + 1, n * 16 + ((b.toNat : Int) - 55), by omega, rfl, by go_num, by go_num, by omega, ?_, ?_⟩
          · have := pow_step n 16 k ((b.toNat : Int) - 55) HB.out (by omega) (by omega)
            exact Lib.hid (by simpa using this)
          · rw [H.out, Hb.out, numF, Hd.out, if_neg (by omega)]; rfl
        case measure => simp [intOf]; omega
    · have hkn : k = s.size := by omega
      subst hkn
      have hend : numF 16 s.data.toList 0 = some n := by rw [H.out, drop_end s s.size (Nat.le_refl _)]; rfl
      have hlt12 := pow_le n 16 s.size 12 (by simpa using HB.out) h1 (by omega)
      have Hend := Lib.hid hend
      have H12 := Lib.hid hlt12
      clear hend hlt12 hc1 hx
      go_wp2
      go_ret2
      exact ⟨⟨n, hn0, by have := H12.out; simp at this; omega, Hend.out, rfl⟩, L1⟩

theorem lib_int16 (s : ByteArray) (w : World) (h0 : 0 < s.size) (h1 : s.size ≤ 12) (hx : ∀ b ∈ s.data.toList, hexS.contains b = true) :
    Calls Tryz.prog 131 #[.string s, .int .i64 16, .int .i64 64] w fun e w' => (∃ n : Int, 0 ≤ n ∧ n < 9223372036854775807 ∧ numF 16 s.data.toList 0 = some n ∧ e = .returned (.tuple #[.int .i64 n, .nilIface])) ∧ Below w.heap.size w w' := by
  have hne := ne_isEmpty h0
  have hU := Lib.hid (lib_uint16 s w h0 h1 hx)
  obtain ⟨b, hb, hbt⟩ := drop_bt s 0 h0
  have hbm : b ∈ s.data.toList := List.mem_of_mem_drop (i := 0) (by rw [hb]; simp)
  have hcl := hex_class b (hx b hbm)
  have h43 : (b.toNat : Int) ≠ 43 ∧ (b.toNat : Int) ≠ 45 := by omega
  obtain ⟨h43, h45⟩ := h43
  have hbs := PlainAid.get_bt s
  clear hb hx hbm hcl
  go_enter Tryz.func131, Tryz.ntmps131
  go_wp2_with fail
  refine hU.out.mono ?_
  rintro e w1 ⟨⟨n, n0, n1, HN, rfl⟩, L1⟩
  have HN := Lib.hid HN
  go_wp2
  all_goals go_ret2
  all_goals exact ⟨⟨n, n0, n1, HN.out, rfl⟩, L1⟩

theorem lib_parse16 (s : ByteArray) (w : World) (h0 : 0 < s.size) (h1 : s.size ≤ 12) (hx : ∀ b ∈ s.data.toList, hexS.contains b = true) :
    Calls Tryz.prog 112 #[.string s, .int .i64 16, .int .i64 64] w fun e w' => (∃ n : Int, 0 ≤ n ∧ n < 9223372036854775807 ∧ numF 16 s.data.toList 0 = some n ∧ e = .returned (.tuple #[.int .i64 n, .nilIface])) ∧ Below w.heap.size w w' := by
  have hU := Lib.hid (lib_int16 s w h0 h1 hx)
  clear hx
  go_enter Tryz.func112, Tryz.ntmps112
  go_wp2_with fail
  refine hU.out.mono ?_
  rintro e w1 ⟨⟨n, n0, n1, HN, rfl⟩, L1⟩
  have HN := Lib.hid HN
  go_wp2
  all_goals go_ret2
  all_goals exact ⟨⟨n, n0, n1, HN.out, rfl⟩, L1⟩

theorem asc_Hex (s : ByteArray) (w : World) (hs : s.size ≤ maxLen) :
    Calls Tryz.prog 90 #[.string s] w fun e w' => e = .returned (numV (numR 16 12 s.data.toList)) ∧ Below w.heap.size w w' := by
  have HD := Lib.hid (asc_digits_16 s w hs)
  by_cases h : (numR 16 12 s.data.toList).isSome = true
  · have h' := h
    rw [numR_16, len_data] at h'
    simp only [Bool.and_eq_true, decide_eq_true_eq, List.all_eq_true] at h'
    obtain ⟨⟨h1, h2⟩, h3⟩ := h'
    have HP := Lib.hid (fun W : World => lib_parse16 s W (by omega) h2 h3)
    have hR : numR 16 12 s.data.toList = numF 16 s.data.toList 0 := by unfold numR; rw [len_data, if_neg (by omega)]
    have HR := Lib.hid hR
    have H1 := Lib.hid h
    clear h h3 hR
    go_enter Tryz.func90, Tryz.ntmps90
    go_wp2_with fail
    refine HD.out.mono ?_
    rintro e w1 ⟨rfl, hb1⟩
    rw [H1.out]
    go_wp2_with fail
    refine (HP.out _).mono ?_
    rintro e w2 ⟨⟨n, n0, n1, HN, rfl⟩, L2⟩
    have HN := Lib.hid HN
    go_wp2
    all_goals go_ret2
    all_goals exact ⟨by rw [HR.out, HN.out]; rfl, stepW hb1 L2⟩
  · have h0 : (numR 16 12 s.data.toList).isSome = false := by simpa using h
    have hn : numR 16 12 s.data.toList = none := by simpa using h0
    have HN := Lib.hid hn
    have H0 := Lib.hid h0
    clear h hn h0
    go_enter Tryz.func90, Tryz.ntmps90
    go_wp2_with fail
    refine HD.out.mono ?_
    rintro e w1 ⟨rfl, hb1⟩
    rw [H0.out]
    go_wp2
    go_ret2
    exact ⟨by rw [HN.out]; rfl, hb1⟩
end Go.Proofs.YtmjekdnfkgalbaaGreatDoor

/- usherref9: blanks, token, Quoted, Params. -/
import Derived.Test.YtfapnppgbhlidaaGreatDoorKPl
import Derived.Test.YtfapnppgbhlidaaGreatDoorAppF
import Derived.Test.YtfapnppgbhlidaaGreatDoorRef1c
import Derived.Test.YtfapnppgbhlidaaGreatDoorLst
namespace Go.Proofs.YtfapnppgbhlidaaGreatDoor
open Go.RowKit
set_option maxRecDepth 100000
set_option maxHeartbeats 2000000

def blaN (l : Bs) : Nat := (l.takeWhile isB).length
theorem blaN_cons (b : UInt8) (r : Bs) : blaN (b :: r) = if isB b then blaN r + 1 else 0 := by
  unfold blaN
  rw [List.takeWhile_cons]
  split <;> simp
theorem blaN_drop : ∀ l : Bs, l.drop (blaN l) = trimF l
  | [] => rfl
  | b :: l => by
    rw [blaN_cons, trimF, List.dropWhile_cons]
    split
    · rw [List.drop_succ_cons]; exact blaN_drop l
    · rfl
theorem blaN_le (l : Bs) : blaN l ≤ l.length := (List.takeWhile_sublist _).length_le
theorem isB_cases (b : UInt8) : (isB b = false ∧ ((b.toNat : Int) == 9) = false ∧ ((b.toNat : Int) == 32) = false) ∨ (isB b = true ∧ ((b.toNat : Int) == 9) = true) ∨ (isB b = true ∧ ((b.toNat : Int) == 9) = false ∧ ((b.toNat : Int) == 32) = true) := by
  rw [isB_num]
  cases ((b.toNat : Int) == 9) <;> cases ((b.toNat : Int) == 32) <;> simp
theorem ref9_blanks (s : ByteArray) (w : World) (hs : s.size ≤ 1000000) :
    Calls Tryz.prog 112 #[.string s] w fun e w' => e = .returned (.int .i64 (blaN s.data.toList : Int)) ∧ w = w' := by
  go_enter Tryz.func112, Tryz.ntmps112
  go_wp2
  go_loop [3] (fun i => ∃ k : Nat, k ≤ s.size ∧ i = .int .i64 k ∧ Hid (blaN s.data.toList = k + blaN (s.data.toList.drop k))) (fun i => s.size - (intOf i).toNat)
  case atStart => exact ⟨0, Nat.zero_le _, rfl, Lib.hid (by simp)⟩
  case round =>
    obtain ⟨k, hk, rfl, H⟩ := hrel
    by_cases hlt : k < s.size
    · obtain ⟨b, hb, hbt⟩ := drop_bt s k hlt
      have hbs := PlainAid.get_bt s
      rcases isB_cases b with ⟨h1, c1, c2⟩ | ⟨h1, c1⟩ | ⟨h1, c1, c2⟩
      · have HR := Lib.hid (show blaN s.data.toList = k by rw [H.out, hb, blaN_cons, h1]; rfl)
        clear hb H h1
        go_wp2
        go_ret
        exact ⟨retI (by rw [HR.out]), rfl⟩
      all_goals
        have HR := Lib.hid (show blaN s.data.toList = (k + 1) + blaN (s.data.toList.drop (k + 1)) by rw [H.out, hb, blaN_cons, h1]; simp; omega)
        clear hb H h1
        go_wp2
        go_round
        case rel => exact ⟨k + 1, by omega, by go_num, HR⟩
        case measure => simp [intOf]; omega
    · have HR := Lib.hid (show blaN s.data.toList = k by rw [H.out, drop_end s k (by omega)]; rfl)
      clear H
      go_wp2
      go_ret
      exact ⟨retI (by rw [HR.out]), rfl⟩
theorem ref9_token (s : ByteArray) (w : World) (hs : s.size ≤ 1000000) :
    Calls Tryz.prog 113 #[.string s] w fun e w' => e = .returned (.int .i64 (tokN s.data.toList : Int)) ∧ w = w' := by
  go_enter Tryz.func113, Tryz.ntmps113
  go_wp2
  go_loop [3] (fun i => ∃ k : Nat, k ≤ s.size ∧ i = .int .i64 k ∧ Hid (tokN s.data.toList = k + tokN (s.data.toList.drop k))) (fun i => s.size - (intOf i).toNat)
  case atStart => exact ⟨0, Nat.zero_le _, rfl, Lib.hid (by simp)⟩
  case round =>
    obtain ⟨k, hk, rfl, H⟩ := hrel
    by_cases hlt : k < s.size
    · obtain ⟨b, hb, hbt⟩ := drop_bt s k hlt
      have hbs := PlainAid.get_bt s
      have hb8 := u8lt b
      cases ht : tokB b.toNat
      · have HR := Lib.hid (show tokN s.data.toList = k by rw [H.out, hb, tokN_cons, ht]; rfl)
        clear hb H
        go_wp2_with fail
        refine (ref_TokenByte _ w (by omega) hb8).mono ?_
        rw [ht]
        rintro e w' ⟨rfl, rfl⟩
        go_wp2
        go_ret
        exact ⟨retI (by rw [HR.out]), rfl⟩
      · have HR := Lib.hid (show tokN s.data.toList = (k + 1) + tokN (s.data.toList.drop (k + 1)) by rw [H.out, hb, tokN_cons, ht]; simp; omega)
        clear hb H
        go_wp2_with fail
        refine (ref_TokenByte _ w (by omega) hb8).mono ?_
        rw [ht]
        rintro e w' ⟨rfl, rfl⟩
        go_wp2_with fail
        go_round
        case rel => exact ⟨k + 1, by omega, by go_num, HR⟩
        case measure => simp [intOf]; omega
    · have HR := Lib.hid (show tokN s.data.toList = k by rw [H.out, drop_end s k (by omega)]; rfl)
      clear H
      go_wp2
      go_ret
      exact ⟨retI (by rw [HR.out]), rfl⟩
theorem ref9_Quoted_no (s : ByteArray) (w : World) (h : s.data.toList = [] ∨ ∃ b r, s.data.toList = b :: r ∧ b ≠ 34) :
    Calls Tryz.prog 114 #[.string s] w (QuoPost w (quoN s.data.toList)) := by
  rcases h with h | ⟨b, r, h, hb⟩
  · obtain rfl : s = ⟨#[]⟩ := str_ext h
    go_enter Tryz.func114, Tryz.ntmps114
    go_wp2
    go_ret2
    exact ⟨⟨_, rfl⟩, Below.refl _ _⟩
  · have hp : 0 < s.size := by rw [← len_data, h]; simp
    have HR := Lib.hid (show quoN s.data.toList = 0 by rw [h, quoN, if_neg hb])
    obtain ⟨c, hc, hbt⟩ := drop_bt s 0 hp
    rw [List.drop_zero, h] at hc
    obtain rfl : b = c := (List.cons.inj hc).1
    have hne := ne_isEmpty hp
    have hbs := PlainAid.get_bt s
    have h34 := u8ne' hb (n := 34) rfl
    have h34n : ((b.toNat : Int) != 34) = true := by rw [bne, h34]; rfl
    have hz : ((s.size : Int) == 0) = false := by rw [Bool.eq_false_iff]; intro h0; rw [beq_iff_eq] at h0; omega
    clear h hc
    go_enter Tryz.func114, Tryz.ntmps114
    go_wp2
    go_ret2
    exact ⟨⟨_, by rw [HR.out]; rfl⟩, Below.refl _ _⟩
theorem ref9_Quoted (s : ByteArray) (w : World) (hs : s.size ≤ 1000000) :
    Calls Tryz.prog 114 #[.string s] w (QuoPost w (quoN s.data.toList)) := by
  rcases Nat.eq_zero_or_pos s.size with h0 | hp
  · exact ref9_Quoted_no s w (.inl (List.eq_nil_of_length_eq_zero (by rw [len_data]; exact h0)))
  obtain ⟨b0, hb0, hbt0⟩ := drop_bt s 0 hp
  rw [List.drop_zero] at hb0
  by_cases h34 : b0 = 34
  rotate_left
  · exact ref9_Quoted_no s w (.inr ⟨b0, _, hb0, h34⟩)
  have HQ := Lib.hid (show quoN s.data.toList = quoA s.data.toList 1 by rw [hb0]; exact quoN_of _ _ h34)
  subst h34
  clear hb0
  have hne := ne_isEmpty hp
  have hz : ((s.size : Int) == 0) = false := by rw [Bool.eq_false_iff]; intro h0; rw [beq_iff_eq] at h0; omega
  have hbs := PlainAid.get_bt s
  go_enter Tryz.func114, Tryz.ntmps114
  go_wp2
  clear hbt0 hne hz
  go_loopw [4, 5] (fun v i wr => ∃ (k : Nat) (l : Bs), 1 ≤ k ∧ k ≤ s.size ∧ i = .int .i64 k ∧ l.length ≤ k ∧ OB wr w.heap.size v l ∧ Below w.heap.size w wr ∧ Hid (quoN s.data.toList = quoA s.data.toList k)) (fun _ i _ => s.size - (intOf i).toNat)
  case atStart => exact ⟨1, [], Nat.le_refl _, hp, rfl, by simp, OB.nil _ _, Below.refl _ _, HQ⟩
  case round =>
    obtain ⟨k, l, hk1, hk, rfl, hl, ho, L, H⟩ := hrel
    have hS := L.size
    by_cases hlt : k < s.size
    · obtain ⟨b, hb, hbt⟩ := drop_bt s k hlt
      by_cases h1 : b = 34
      · subst h1
        have HR := Lib.hid (H.out.trans (quoA_q _ _ k hb))
        clear hb H
        go_wp2_with (refine wp_strOB rfl _ rfl _ _ _ rfl ho ?_)
        go_ret2
        exact ⟨⟨_, by rw [HR.out]; rfl⟩, L⟩
      have c1 := u8ne' h1 (n := 34) rfl
      by_cases h2 : b = 92
      · subst h2
        by_cases hlt2 : k + 1 < s.size
        · obtain ⟨d, hd, hdt⟩ := drop_bt s (k + 1) hlt2
          cases hv : valueB d.toNat
          · have HR := Lib.hid (show quoN s.data.toList = 0 by rw [H.out, quoA_s _ k d hb hd, hv]; rfl)
            clear hb hd H
            go_wp2_with fail
            refine (ref_ValueByte _ wr (by omega) (u8lt d)).mono ?_
            rw [hv]
            rintro e w1 ⟨rfl, rfl⟩
            go_wp2
            go_ret2
            exact ⟨⟨_, by rw [HR.out]; rfl⟩, L⟩
          · have HR := Lib.hid (show quoN s.data.toList = quoA s.data.toList (k + 2) by rw [H.out, quoA_s _ k d hb hd, hv]; rfl)
            clear hb hd H
            go_wp2_with fail
            refine (ref_ValueByte _ wr (by omega) (u8lt d)).mono ?_
            rw [hv]
            rintro e w1 ⟨rfl, rfl⟩
            have ho1 := ho
            have L1 := L
            go_wp2_with (at_builtin; refine wp_app1 rfl _ _ rfl w.heap.size _ _ rfl ho1 _ rfl _ rfl d rfl (by omega) L1.size ?_; intro v' w2 ho2 hx)
            go_roundw
            case rel => exact ⟨k + 2, _, by omega, by omega, by go_num, by simp; omega, ho2, L1.trans (hx.below ho1 (Nat.le_refl _) L1.size), HR⟩
            case measure => simp [intOf]; omega
        · have HR := Lib.hid (show quoN s.data.toList = 0 by rw [H.out, quoA_e _ k (by rw [hb, drop_end s (k + 1) (by omega)])])
          have hke : k + 1 = s.size := by omega
          clear hb H
          go_wp2
          go_ret2
          exact ⟨⟨_, by rw [HR.out]; rfl⟩, L⟩
      · have c2 := u8ne' h2 (n := 92) rfl
        cases hv : valueB b.toNat
        · have HR := Lib.hid (show quoN s.data.toList = 0 by rw [H.out, quoA_v _ k b hb h1 h2, hv]; rfl)
          clear hb H
          go_wp2_with fail
          refine (ref_ValueByte _ wr (by omega) (u8lt b)).mono ?_
          rw [hv]
          rintro e w1 ⟨rfl, rfl⟩
          go_wp2
          go_ret2
          exact ⟨⟨_, by rw [HR.out]; rfl⟩, L⟩
        · have HR := Lib.hid (show quoN s.data.toList = quoA s.data.toList (k + 1) by rw [H.out, quoA_v _ k b hb h1 h2, hv]; rfl)
          clear hb H
          go_wp2_with fail
          refine (ref_ValueByte _ wr (by omega) (u8lt b)).mono ?_
          rw [hv]
          rintro e w1 ⟨rfl, rfl⟩
          have ho1 := ho
          have L1 := L
          go_wp2_with (at_builtin; refine wp_app1 rfl _ _ rfl w.heap.size _ _ rfl ho1 _ rfl _ rfl b rfl (by omega) L1.size ?_; intro v' w2 ho2 hx)
          go_roundw
          case rel => exact ⟨k + 1, _, by omega, by omega, by go_num, by simp; omega, ho2, L1.trans (hx.below ho1 (Nat.le_refl _) L1.size), HR⟩
          case measure => simp [intOf]; omega
    · have HR := Lib.hid (show quoN s.data.toList = 0 by rw [H.out, quoA_nil _ k (drop_end s k (by omega))])
      clear H
      go_wp2
      go_ret2
      exact ⟨⟨_, by rw [HR.out]; rfl⟩, L⟩
end Go.Proofs.YtfapnppgbhlidaaGreatDoor

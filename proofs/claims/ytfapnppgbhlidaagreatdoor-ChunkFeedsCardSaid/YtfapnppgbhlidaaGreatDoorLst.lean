/- list: token, Quoted, param, Params. -/
import Derived.Test.YtfapnppgbhlidaaGreatDoorKPl
import Derived.Test.YtfapnppgbhlidaaGreatDoorAppF
import Derived.Test.YtfapnppgbhlidaaGreatDoorAscii2
import Derived.Shelf.Strings.SlTrimAscii
namespace Go.Proofs.YtfapnppgbhlidaaGreatDoor
open Go.RowKit
set_option maxRecDepth 100000
set_option maxHeartbeats 2000000

theorem tokN_cons (b : UInt8) (r : Bs) : tokN (b :: r) = if tokB b.toNat then tokN r + 1 else 0 := by
  unfold tokN
  rw [List.takeWhile_cons]
  split <;> simp
theorem ext_one (s : ByteArray) (k : Nat) (b : UInt8) (hb : s.data.toList.drop k = b :: s.data.toList.drop (k + 1)) : s.extract k (k + 1) = ⟨#[b]⟩ := by
  apply str_ext
  rw [ext_data, hb, show k + 1 - k = 1 by omega]
  rfl
theorem u8ne' {c d : UInt8} (h : c ≠ d) {n : Int} (hn : (d.toNat : Int) = n) : ((c.toNat : Int) == n) = false := by
  rw [Bool.eq_false_iff]
  intro h2
  rw [beq_iff_eq] at h2
  exact h (u8inj (by omega))
theorem tok_b1 (b : UInt8) (w : World) :
    Calls Tryz.prog 54 #[.string ⟨#[b]⟩] w fun e w' => e = .returned (.bool (tokB b.toNat)) ∧ w = w' := by
  refine (asc_IsToken ⟨#[b]⟩ w (by show 1 ≤ _; decide)).mono ?_
  rintro e w' ⟨rfl, rfl⟩
  exact ⟨retB (by simp [allT]), rfl⟩
theorem val_b1 (b : UInt8) (w : World) :
    Calls Tryz.prog 132 #[.string ⟨#[b]⟩] w fun e w' => e = .returned (.bool (valueB b.toNat)) ∧ w = w' := by
  refine (asc_IsValue ⟨#[b]⟩ w (by show 1 ≤ _; decide)).mono ?_
  rintro e w' ⟨rfl, rfl⟩
  exact ⟨retB (by simp [allV]), rfl⟩
theorem lst_token (s : ByteArray) (w : World) (hs : s.size ≤ 1000000) :
    Calls Tryz.prog 164 #[.string s] w fun e w' => e = .returned (sv (s.data.toList.take (tokN s.data.toList))) ∧ w = w' := by
  go_enter Tryz.func164, Tryz.ntmps164
  go_wp2
  go_loop [3] (fun i => ∃ k : Nat, k ≤ s.size ∧ i = .int .i64 k ∧ Hid (tokN s.data.toList = k + tokN (s.data.toList.drop k))) (fun i => s.size - (intOf i).toNat)
  case atStart => exact ⟨0, Nat.zero_le _, rfl, Lib.hid (by simp)⟩
  case round =>
    obtain ⟨k, hk, rfl, H⟩ := hrel
    by_cases hlt : k < s.size
    · obtain ⟨b, hb, hbt⟩ := drop_bt s k hlt
      have hx := ext_one s k b hb
      cases ht : tokB b.toNat
      · have HR := Lib.hid (show tokN s.data.toList = k by rw [H.out, hb, tokN_cons, ht]; rfl)
        clear hb hbt H
        go_wp2_with fail
        refine (tok_b1 b w).mono ?_
        rw [ht]
        rintro e w' ⟨rfl, rfl⟩
        go_wp2
        go_ret
        exact ⟨by rw [HR.out]; exact retStr (ext_to _ _), rfl⟩
      · have HR := Lib.hid (show tokN s.data.toList = (k + 1) + tokN (s.data.toList.drop (k + 1)) by rw [H.out, hb, tokN_cons, ht]; simp; omega)
        clear hb hbt H
        go_wp2_with fail
        refine (tok_b1 b w).mono ?_
        rw [ht]
        rintro e w' ⟨rfl, rfl⟩
        go_wp2_with fail
        go_round
        case rel => exact ⟨k + 1, by omega, by go_num, HR⟩
        case measure => simp [intOf]; omega
    · have HR := Lib.hid (show tokN s.data.toList = k by rw [H.out, drop_end s k (by omega)]; rfl)
      clear H
      go_wp2
      go_ret
      exact ⟨by rw [HR.out]; exact retStr (ext_to _ _), rfl⟩
/-- What a quoted text has, from the k-th byte on. -/
def quoA (l : Bs) (k : Nat) : Nat := ((quoF (l.drop k)).map (· + k)).getD 0
theorem quoN_of (b : UInt8) (r : Bs) (h : b = 34) : quoN (b :: r) = quoA (b :: r) 1 := by rw [quoN, if_pos h]; rfl
theorem quoF_q (r : Bs) : quoF (34 :: r) = some 1 := by rw [quoF.eq_def]; rfl
theorem quoF_v (c : UInt8) (r : Bs) (h1 : c ≠ 34) (h2 : c ≠ 92) : quoF (c :: r) = if valueB c.toNat then (quoF r).map (· + 1) else none := by
  rw [quoF.eq_def]; simp only; rw [if_neg h1, if_neg h2]
theorem quoF_e : quoF [92] = none := by rw [quoF.eq_def]; rfl
theorem quoF_s (d : UInt8) (r : Bs) : quoF (92 :: d :: r) = if valueB d.toNat then (quoF r).map (· + 2) else none := by
  rw [quoF.eq_def]; rfl
theorem quoA_nil (l : Bs) (k : Nat) (h : l.drop k = []) : quoA l k = 0 := by rw [quoA, h]; rfl
theorem quoA_q (l r : Bs) (k : Nat) (h : l.drop k = 34 :: r) : quoA l k = k + 1 := by rw [quoA, h, quoF_q]; simp; omega
theorem quoA_v (l : Bs) (k : Nat) (c : UInt8) (h : l.drop k = c :: l.drop (k + 1)) (h1 : c ≠ 34) (h2 : c ≠ 92) : quoA l k = if valueB c.toNat then quoA l (k + 1) else 0 := by
  rw [quoA, h, quoF_v _ _ h1 h2]
  split
  · rw [quoA]; cases quoF (l.drop (k + 1)) <;> simp; omega
  · rfl
theorem quoA_e (l : Bs) (k : Nat) (h : l.drop k = [92]) : quoA l k = 0 := by rw [quoA, h, quoF_e]; rfl
theorem quoA_s (l : Bs) (k : Nat) (d : UInt8) (h : l.drop k = 92 :: l.drop (k + 1)) (h1 : l.drop (k + 1) = d :: l.drop (k + 2)) : quoA l k = if valueB d.toNat then quoA l (k + 2) else 0 := by
  rw [quoA, h, h1, quoF_s]
  split
  · rw [quoA]; cases quoF (l.drop (k + 2)) <;> simp; omega
  · rfl
def QuoPost (w : World) (n : Nat) (e : Ending) (w' : World) : Prop := (∃ x : ByteArray, e = .returned (.tuple #[.string x, .int .i64 (n : Int)])) ∧ Below w.heap.size w w'
theorem lst_Quoted_no (s : ByteArray) (w : World) (h : s.data.toList = [] ∨ ∃ b r, s.data.toList = b :: r ∧ b ≠ 34) :
    Calls Tryz.prog 165 #[.string s] w (QuoPost w (quoN s.data.toList)) := by
  rcases h with h | ⟨b, r, h, hb⟩
  · obtain rfl : s = ⟨#[]⟩ := str_ext h
    go_enter Tryz.func165, Tryz.ntmps165
    go_wp2
    go_ret2
    exact ⟨⟨_, rfl⟩, Below.refl _ _⟩
  · have hp : 0 < s.size := by rw [← len_data, h]; simp
    have HR := Lib.hid (show quoN s.data.toList = 0 by rw [h, quoN, if_neg hb])
    obtain ⟨c, hc, hbt⟩ := drop_bt s 0 hp
    rw [List.drop_zero, h] at hc
    obtain rfl : b = c := (List.cons.inj hc).1
    have hne := ne_isEmpty hp
    have hbs := PlainAid.get_bt s
    have h34 := u8ne' hb (n := 34) rfl
    clear h hc
    go_enter Tryz.func165, Tryz.ntmps165
    go_wp2
    go_ret2
    exact ⟨⟨_, by rw [HR.out]; rfl⟩, Below.refl _ _⟩
theorem lst_Quoted (s : ByteArray) (w : World) (hs : s.size ≤ 1000000) :
    Calls Tryz.prog 165 #[.string s] w (QuoPost w (quoN s.data.toList)) := by
  rcases Nat.eq_zero_or_pos s.size with h0 | hp
  · exact lst_Quoted_no s w (.inl (List.eq_nil_of_length_eq_zero (by rw [len_data]; exact h0)))
  obtain ⟨b0, hb0, hbt0⟩ := drop_bt s 0 hp
  rw [List.drop_zero] at hb0
  by_cases h34 : b0 = 34
  rotate_left
  · exact lst_Quoted_no s w (.inr ⟨b0, _, hb0, h34⟩)
  have HQ := Lib.hid (show quoN s.data.toList = quoA s.data.toList 1 by rw [hb0]; exact quoN_of _ _ h34)
  subst h34
  clear hb0
  have hne := ne_isEmpty hp
  have hbs := PlainAid.get_bt s
  have hcv := run_byte_str (P := Tryz.prog) 22 5 9 Tryz.underlying22 Tryz.underlying5 Tryz.underlying9
  go_enter Tryz.func165, Tryz.ntmps165
  go_wp2
  clear hbt0 hne
  go_loopw [4, 5] (fun v i wr => ∃ (k : Nat) (l : Bs), 1 ≤ k ∧ k ≤ s.size ∧ i = .int .i64 k ∧ l.length ≤ k ∧ OB wr w.heap.size v l ∧ Below w.heap.size w wr ∧ Hid (quoN s.data.toList = quoA s.data.toList k)) (fun _ i _ => s.size - (intOf i).toNat)
  case atStart => exact ⟨1, [], Nat.le_refl _, hp, rfl, by simp, OB.nil _ _, Below.refl _ _, HQ⟩
  case round =>
    obtain ⟨k, l, hk1, hk, rfl, hl, ho, L, H⟩ := hrel
    have hS := L.size
    by_cases hlt : k < s.size
    · obtain ⟨b, hb, hbt⟩ := drop_bt s k hlt
      by_cases h1 : b = 34
      · subst h1
        have HR := Lib.hid (H.out.trans (quoA_q _ _ k hb))
        clear hb H
        go_wp2_with (refine wp_strOB rfl _ rfl _ _ _ rfl ho ?_)
        go_ret2
        exact ⟨⟨_, by rw [HR.out]; rfl⟩, L⟩
      have c1 := u8ne' h1 (n := 34) rfl
      by_cases h2 : b = 92
      · subst h2
        by_cases hlt2 : k + 1 < s.size
        · obtain ⟨d, hd, hdt⟩ := drop_bt s (k + 1) hlt2
          cases hv : valueB d.toNat
          · have HR := Lib.hid (show quoN s.data.toList = 0 by rw [H.out, quoA_s _ k d hb hd, hv]; rfl)
            clear hb hd H
            go_wp2_with fail
            refine (val_b1 d _).mono ?_
            rw [hv]
            rintro e w1 ⟨rfl, rfl⟩
            go_wp2
            go_ret2
            exact ⟨⟨_, by rw [HR.out]; rfl⟩, allocW L _⟩
          · have HR := Lib.hid (show quoN s.data.toList = quoA s.data.toList (k + 2) by rw [H.out, quoA_s _ k d hb hd, hv]; rfl)
            clear hb hd H
            go_wp2_with fail
            refine (val_b1 d _).mono ?_
            rw [hv]
            rintro e w1 ⟨rfl, rfl⟩
            have ho1 := ho.alloc (.cells #[.int .u8 (d.toNat : Int)] 5)
            have L1 := allocW L (.cells #[.int .u8 (d.toNat : Int)] 5)
            obtain ⟨V, hV⟩ : ∃ V, V = wr.alloc (.cells #[.int .u8 (d.toNat : Int)] 5) := ⟨_, rfl⟩
            rw [← hV] at ho1 L1 ⊢
            clear hV
            go_wp2_with (at_builtin; refine wp_app1 rfl _ _ rfl w.heap.size _ _ rfl ho1 _ rfl _ rfl d rfl (by omega) L1.size ?_; intro v' w2 ho2 hx)
            go_roundw
            case rel => exact ⟨k + 2, _, by omega, by omega, by go_num, by simp; omega, ho2, L1.trans (hx.below ho1 (Nat.le_refl _) L1.size), HR⟩
            case measure => simp [intOf]; omega
        · have HR := Lib.hid (show quoN s.data.toList = 0 by rw [H.out, quoA_e _ k (by rw [hb, drop_end s (k + 1) (by omega)])])
          have hke : k + 1 = s.size := by omega
          clear hb H
          go_wp2
          go_ret2
          exact ⟨⟨_, by rw [HR.out]; rfl⟩, L⟩
      · have c2 := u8ne' h2 (n := 92) rfl
        cases hv : valueB b.toNat
        · have HR := Lib.hid (show quoN s.data.toList = 0 by rw [H.out, quoA_v _ k b hb h1 h2, hv]; rfl)
          clear hb H
          go_wp2_with fail
          refine (val_b1 b _).mono ?_
          rw [hv]
          rintro e w1 ⟨rfl, rfl⟩
          go_wp2
          go_ret2
          exact ⟨⟨_, by rw [HR.out]; rfl⟩, allocW L _⟩
        · have HR := Lib.hid (show quoN s.data.toList = quoA s.data.toList (k + 1) by rw [H.out, quoA_v _ k b hb h1 h2, hv]; rfl)
          clear hb H
          go_wp2_with fail
          refine (val_b1 b _).mono ?_
          rw [hv]
          rintro e w1 ⟨rfl, rfl⟩
          have ho1 := ho.alloc (.cells #[.int .u8 (b.toNat : Int)] 5)
          have L1 := allocW L (.cells #[.int .u8 (b.toNat : Int)] 5)
          obtain ⟨V, hV⟩ : ∃ V, V = wr.alloc (.cells #[.int .u8 (b.toNat : Int)] 5) := ⟨_, rfl⟩
          rw [← hV] at ho1 L1 ⊢
          clear hV
          go_wp2_with (at_builtin; refine wp_app1 rfl _ _ rfl w.heap.size _ _ rfl ho1 _ rfl _ rfl b rfl (by omega) L1.size ?_; intro v' w2 ho2 hx)
          go_roundw
          case rel => exact ⟨k + 1, _, by omega, by omega, by go_num, by simp; omega, ho2, L1.trans (hx.below ho1 (Nat.le_refl _) L1.size), HR⟩
          case measure => simp [intOf]; omega
    · have HR := Lib.hid (show quoN s.data.toList = 0 by rw [H.out, quoA_nil _ k (drop_end s k (by omega))])
      clear H
      go_wp2
      go_ret2
      exact ⟨⟨_, by rw [HR.out]; rfl⟩, L⟩
end Go.Proofs.YtfapnppgbhlidaaGreatDoor

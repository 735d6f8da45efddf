/- list: token, Quoted, param, Params. list: param, Params. list: Params. -/
import Derived.Test.YtlambdccmfnloaaGreatDoorFPl
import Derived.Test.YtlambdccmfnloaaGreatDoorAscii
import Derived.Shelf.Strings.SlTrimAscii
import Derived.BigRegion
import Derived.ChangeAlike
namespace Go.Proofs.YtlambdccmfnloaaGreatDoor
open Go.RowKit
set_option maxRecDepth 100000
set_option maxHeartbeats 2000000

theorem tokN_cons (b : UInt8) (r : Bs) : tokN (b :: r) = if tokB b.toNat then tokN r + 1 else 0 := by
  unfold tokN
  rw [List.takeWhile_cons]
  split <;> simp
theorem ext_one (s : ByteArray) (k : Nat) (b : UInt8) (hb : s.data.toList.drop k = b :: s.data.toList.drop (k + 1)) : s.extract k (k + 1) = ⟨#[b]⟩ := by
  apply str_ext
  rw [ext_data, hb, show k + 1 - k = 1 by omega]
  rfl
theorem u8ne' {c d : UInt8} (h : c ≠ d) {n : Int} (hn : (d.toNat : Int) = n) : ((c.toNat : Int) == n) = false := by
  rw [Bool.eq_false_iff]
  intro h2
  rw [beq_iff_eq] at h2
  exact h (u8inj (by omega))
theorem tok_b1 (b : UInt8) (w : World) :
    Calls Tryz.prog 185 #[.string ⟨#[b]⟩] w fun e w' => e = .returned (.bool (tokB b.toNat)) ∧ w = w' := by
  refine (asc_IsToken ⟨#[b]⟩ w (by show 1 ≤ _; decide)).mono ?_
  rintro e w' ⟨rfl, rfl⟩
  exact ⟨retB (by simp [allT]), rfl⟩
theorem val_b1 (b : UInt8) (w : World) :
    Calls Tryz.prog 186 #[.string ⟨#[b]⟩] w fun e w' => e = .returned (.bool (valueB b.toNat)) ∧ w = w' := by
  refine (asc_IsValue ⟨#[b]⟩ w (by show 1 ≤ _; decide)).mono ?_
  rintro e w' ⟨rfl, rfl⟩
  exact ⟨retB (by simp [allV]), rfl⟩
theorem lst_token (s : ByteArray) (w : World) (hs : s.size ≤ 1000000) :
    Calls Tryz.prog 291 #[.string s] w fun e w' => e = .returned (sv (s.data.toList.take (tokN s.data.toList))) ∧ w = w' := by
  go_enter Tryz.func291, Tryz.ntmps291
  go_wp2
  go_loop [3] (fun i => ∃ k : Nat, k ≤ s.size ∧ i = .int .i64 k ∧ Hid (tokN s.data.toList = k + tokN (s.data.toList.drop k))) (fun i => s.size - (intOf i).toNat)
  case atStart => exact ⟨0, Nat.zero_le _, rfl, Lib.hid (by simp)⟩
  case round =>
    obtain ⟨k, hk, rfl, H⟩ := hrel
    by_cases hlt : k < s.size
    · obtain ⟨b, hb, hbt⟩ := drop_bt s k hlt
      have hx := ext_one s k b hb
      cases ht : tokB b.toNat
      · have HR := Lib.hid (show tokN s.data.toList = k by rw [H.out, hb, tokN_cons, ht]; rfl)
        clear hb hbt H
        go_wp2_with fail
        refine (tok_b1 b w).mono ?_
        rw [ht]
        rintro e w' ⟨rfl, rfl⟩
        go_wp2
        go_ret
        exact ⟨by rw [HR.out]; exact retStr (ext_to _ _), rfl⟩
      · have HR := Lib.hid (show tokN s.data.toList = (k + 1) + tokN (s.data.toList.drop (k + 1)) by rw [H.out, hb, tokN_cons, ht]; simp; omega)
        clear hb hbt H
        go_wp2_with fail
        refine (tok_b1 b w).mono ?_
        rw [ht]
        rintro e w' ⟨rfl, rfl⟩
        go_wp2_with fail
        go_round
        case rel => exact ⟨k + 1, by omega, by go_num, HR⟩
        case measure => simp [intOf]; omega
    · have HR := Lib.hid (show tokN s.data.toList = k by rw [H.out, drop_end s k (by omega)]; rfl)
      clear H
      go_wp2
      go_ret
      exact ⟨by rw [HR.out]; exact retStr (ext_to _ _), rfl⟩
/-- What a quoted text has, from the k-th byte on. -/
def quoA (l : Bs) (k : Nat) : Nat := ((quoF (l.drop k)).map (· + k)).getD 0
theorem quoN_of (b : UInt8) (r : Bs) (h : b = 34) : quoN (b :: r) = quoA (b :: r) 1 := by rw [quoN, if_pos h]; rfl
theorem quoF_q (r : Bs) : quoF (34 :: r) = some 1 := by rw [quoF.eq_def]; rfl
theorem quoF_v (c : UInt8) (r : Bs) (h1 : c ≠ 34) (h2 : c ≠ 92) : quoF (c :: r) = if valueB c.toNat then (quoF r).map (· + 1) else none := by
  rw [quoF.eq_def]; simp only; rw [if_neg h1, if_neg h2]
theorem quoF_e : quoF [92] = none := by rw [quoF.eq_def]; rfl
theorem quoF_s (d : UInt8) (r : Bs) : quoF (92 :: d :: r) = if valueB d.toNat then (quoF r).map (· + 2) else none := by
  rw [quoF.eq_def]; rfl
theorem quoA_nil (l : Bs) (k : Nat) (h : l.drop k = []) : quoA l k = 0 := by rw [quoA, h]; rfl
theorem quoA_q (l r : Bs) (k : Nat) (h : l.drop k = 34 :: r) : quoA l k = k + 1 := by rw [quoA, h, quoF_q]; simp; omega
theorem quoA_v (l : Bs) (k : Nat) (c : UInt8) (h : l.drop k = c :: l.drop (k + 1)) (h1 : c ≠ 34) (h2 : c ≠ 92) : quoA l k = if valueB c.toNat then quoA l (k + 1) else 0 := by
  rw [quoA, h, quoF_v _ _ h1 h2]
  split
  · rw [quoA]; cases quoF (l.drop (k + 1)) <;> simp; omega
  · rfl
theorem quoA_e (l : Bs) (k : Nat) (h : l.drop k = [92]) : quoA l k = 0 := by rw [quoA, h, quoF_e]; rfl
theorem quoA_s (l : Bs) (k : Nat) (d : UInt8) (h : l.drop k = 92 :: l.drop (k + 1)) (h1 : l.drop (k + 1) = d :: l.drop (k + 2)) : quoA l k = if valueB d.toNat then quoA l (k + 2) else 0 := by
  rw [quoA, h, h1, quoF_s]
  split
  · rw [quoA]; cases quoF (l.drop (k + 2)) <;> simp; omega
  · rfl
def QuoPost (w : World) (n : Nat) (e : Ending) (w' : World) : Prop := (∃ x : ByteArray, e = .returned (.tuple #[.string x, .int .i64 (n : Int)])) ∧ Below w.heap.size w w'
theorem lst_Quoted_no (s : ByteArray) (w : World) (h : s.data.toList = [] ∨ ∃ b r, s.data.toList = b :: r ∧ b ≠ 34) :
    Calls Tryz.prog 292 #[.string s] w (QuoPost w (quoN s.data.toList)) := by
  rcases h with h | ⟨b, r, h, hb⟩
  · obtain rfl : s = ⟨#[]⟩ := str_ext h
    go_enter Tryz.func292, Tryz.ntmps292
    go_wp2
    go_ret2
    exact ⟨⟨_, rfl⟩, Below.refl _ _⟩
  · have hp : 0 < s.size := by rw [← len_data, h]; simp
    have HR := Lib.hid (show quoN s.data.toList = 0 by rw [h, quoN, if_neg hb])
    obtain ⟨c, hc, hbt⟩ := drop_bt s 0 hp
    rw [List.drop_zero, h] at hc
    obtain rfl : b = c := (List.cons.inj hc).1
    have hne := ne_isEmpty hp
    have hbs := PlainAid.get_bt s
    have h34 := u8ne' hb (n := 34) rfl
    clear h hc
    go_enter Tryz.func292, Tryz.ntmps292
    go_wp2
    go_ret2
    exact ⟨⟨_, by rw [HR.out]; rfl⟩, Below.refl _ _⟩
theorem lst_Quoted (s : ByteArray) (w : World) (hs : s.size ≤ 1000000) :
    Calls Tryz.prog 292 #[.string s] w (QuoPost w (quoN s.data.toList)) := by
  rcases Nat.eq_zero_or_pos s.size with h0 | hp
  · exact lst_Quoted_no s w (.inl (List.eq_nil_of_length_eq_zero (by rw [len_data]; exact h0)))
  obtain ⟨b0, hb0, hbt0⟩ := drop_bt s 0 hp
  rw [List.drop_zero] at hb0
  by_cases h34 : b0 = 34
  rotate_left
  · exact lst_Quoted_no s w (.inr ⟨b0, _, hb0, h34⟩)
  have HQ := Lib.hid (show quoN s.data.toList = quoA s.data.toList 1 by rw [hb0]; exact quoN_of _ _ h34)
  subst h34
  clear hb0
  have hne := ne_isEmpty hp
  have hbs := PlainAid.get_bt s
  have hcv := run_byte_str (P := Tryz.prog) 25 5 9 Tryz.underlying25 Tryz.underlying5 Tryz.underlying9
  go_enter Tryz.func292, Tryz.ntmps292
  go_wp2
  clear hbt0 hne
  go_loopw [4, 5] (fun v i wr => ∃ (k : Nat) (l : Bs), 1 ≤ k ∧ k ≤ s.size ∧ i = .int .i64 k ∧ l.length ≤ k ∧ OB wr w.heap.size v l ∧ Below w.heap.size w wr ∧ Hid (quoN s.data.toList = quoA s.data.toList k)) (fun _ i _ => s.size - (intOf i).toNat)
  case atStart => exact ⟨1, [], Nat.le_refl _, hp, rfl, by simp, OB.nil _ _, Below.refl _ _, HQ⟩
  case round =>
    obtain ⟨k, l, hk1, hk, rfl, hl, ho, L, H⟩ := hrel
    have hS := L.size
    by_cases hlt : k < s.size
    · obtain ⟨b, hb, hbt⟩ := drop_bt s k hlt
      by_cases h1 : b = 34
      · subst h1
        have HR := Lib.hid (H.out.trans (quoA_q _ _ k hb))
        clear hb H
        go_wp2_with (refine wp_strOB rfl _ rfl _ _ _ rfl ho ?_)
        go_ret2
        exact ⟨⟨_, by rw [HR.out]; rfl⟩, L⟩
      have c1 := u8ne' h1 (n := 34) rfl
      by_cases h2 : b = 92
      · subst h2
        by_cases hlt2 : k + 1 < s.size
        · obtain ⟨d, hd, hdt⟩ := drop_bt s (k + 1) hlt2
          cases hv : valueB d.toNat
          · have HR := Lib.hid (show quoN s.data.toList = 0 by rw [H.out, quoA_s _ k d hb hd, hv]; rfl)
            clear hb hd H
            go_wp2_with fail
            refine (val_b1 d _).mono ?_
            rw [hv]
            rintro e w1 ⟨rfl, rfl⟩
            go_wp2
            go_ret2
            exact ⟨⟨_, by rw [HR.out]; rfl⟩, allocW L _⟩
          · have HR := Lib.hid (show quoN s.data.toList = quoA s.data.toList (k + 2) by rw [H.out, quoA_s _ k d hb hd, hv]; rfl)
            clear hb hd H
            go_wp2_with fail
            refine (val_b1 d _).mono ?_
            rw [hv]
            rintro e w1 ⟨rfl, rfl⟩
            have ho1 := ho.alloc (.cells #[.int .u8 (d.toNat : Int)] 5)
            have L1 := allocW L (.cells #[.int .u8 (d.toNat : Int)] 5)
            obtain ⟨V, hV⟩ : ∃ V, V = wr.alloc (.cells #[.int .u8 (d.toNat : Int)] 5) := ⟨_, rfl⟩
            rw [← hV] at ho1 L1 ⊢
            clear hV
            go_wp2_with (at_builtin; refine wp_app1 rfl _ _ rfl w.heap.size _ _ rfl ho1 _ rfl _ rfl d rfl (by omega) L1.size ?_; intro v' w2 ho2 hx)
            go_roundw
            case rel => exact ⟨k + 2, _, by omega, by omega, by go_num, by simp; omega, ho2, L1.trans (hx.below ho1 (Nat.le_refl _) L1.size), HR⟩
            case measure => simp [intOf]; omega
        · have HR := Lib.hid (show quoN s.data.toList = 0 by rw [H.out, quoA_e _ k (by rw [hb, drop_end s (k + 1) (by omega)])])
          have hke : k + 1 = s.size := by omega
          clear hb H
          go_wp2
          go_ret2
          exact ⟨⟨_, by rw [HR.out]; rfl⟩, L⟩
      · have c2 := u8ne' h2 (n := 92) rfl
        cases hv : valueB b.toNat
        · have HR := Lib.hid (show quoN s.data.toList = 0 by rw [H.out, quoA_v _ k b hb h1 h2, hv]; rfl)
          clear hb H
          go_wp2_with fail
          refine (val_b1 b _).mono ?_
          rw [hv]
          rintro e w1 ⟨rfl, rfl⟩
          go_wp2
          go_ret2
          exact ⟨⟨_, by rw [HR.out]; rfl⟩, allocW L _⟩
        · have HR := Lib.hid (show quoN s.data.toList = quoA s.data.toList (k + 1) by rw [H.out, quoA_v _ k b hb h1 h2, hv]; rfl)
          clear hb H
          go_wp2_with fail
          refine (val_b1 b _).mono ?_
          rw [hv]
          rintro e w1 ⟨rfl, rfl⟩
          have ho1 := ho.alloc (.cells #[.int .u8 (b.toNat : Int)] 5)
          have L1 := allocW L (.cells #[.int .u8 (b.toNat : Int)] 5)
          obtain ⟨V, hV⟩ : ∃ V, V = wr.alloc (.cells #[.int .u8 (b.toNat : Int)] 5) := ⟨_, rfl⟩
          rw [← hV] at ho1 L1 ⊢
          clear hV
          go_wp2_with (at_builtin; refine wp_app1 rfl _ _ rfl w.heap.size _ _ rfl ho1 _ rfl _ rfl b rfl (by omega) L1.size ?_; intro v' w2 ho2 hx)
          go_roundw
          case rel => exact ⟨k + 1, _, by omega, by omega, by go_num, by simp; omega, ho2, L1.trans (hx.below ho1 (Nat.le_refl _) L1.size), HR⟩
          case measure => simp [intOf]; omega
    · have HR := Lib.hid (show quoN s.data.toList = 0 by rw [H.out, quoA_nil _ k (drop_end s k (by omega))])
      clear H
      go_wp2
      go_ret2
      exact ⟨⟨_, by rw [HR.out]; rfl⟩, L⟩
end Go.Proofs.YtlambdccmfnloaaGreatDoor
namespace Go.Proofs.YtlambdccmfnloaaGreatDoor
open Go.RowKit
set_option maxRecDepth 100000
set_option maxHeartbeats 2000000

theorem trimLeft_eq (l : Bs) : Lib.trimLeftS l [9, 32] = trimF l := by
  have e : (fun b : UInt8 => ([9, 32] : Bs).contains b) = isB := by
    funext b
    cases h1 : (b == 9) <;> cases h2 : (b == 32) <;> simp [isB, List.contains, List.elem, h1, h2]
  unfold Lib.trimLeftS trimF
  rw [e]
theorem lib_TrimLeft (s : ByteArray) (w : World) :
    Calls Tryz.prog 191 #[.string s, .string ⟨#[9, 32]⟩] w fun e w' => ∃ X : ByteArray, e = .returned (.string X) ∧ X.data.toList = trimF s.data.toList ∧ Below w.heap.size w w' := by
  refine (Any.strings_TrimLeft_laid Tryz.lays161 (by kernel_rfl) s ⟨#[9, 32]⟩ _ (by decide) (ascii_of_all (by decide))).mono ?_
  rintro e w' ⟨rfl, hb⟩
  exact ⟨_, rfl, by rw [← trimLeft_eq], hb⟩
theorem lst_token' (s : ByteArray) (w : World) (hs : s.size ≤ 1000000) :
    Calls Tryz.prog 291 #[.string s] w fun e w' => ∃ X : ByteArray, e = .returned (.string X) ∧ X.data.toList = s.data.toList.take (tokN s.data.toList) ∧ X.size = tokN s.data.toList ∧ w = w' := by
  refine (lst_token s w hs).mono ?_
  rintro e w' ⟨rfl, rfl⟩
  refine ⟨_, rfl, rfl, ?_, rfl⟩
  rw [← len_data, List.length_take, Nat.min_eq_left (tokN_le _)]
def ParPost (w : World) (s : Bs) (e : Ending) (w' : World) : Prop :=
  ∃ (p1 p2 R : ByteArray) (ok : Bool), e = .returned (.tuple #[.agg #[.string p1, .string p2], .string R, .bool ok]) ∧ parS s = (if ok then some R.data.toList else none) ∧ Below w.heap.size w w'
theorem par_no (s : Bs) (h : s = [] ∨ ∃ b r, s = b :: r ∧ b ≠ 59) : parS s = none := by
  rcases h with rfl | ⟨b, r, rfl, hb⟩
  · rfl
  · rw [parS, if_neg hb]
theorem par_no_name (s r x : Bs) (h : s = 59 :: r) (hx : x = trimF r) (hn : tokN x = 0) : parS s = none := by
  subst h hx; rw [parS, if_pos rfl, if_pos hn]
theorem par_name (s r x y : Bs) (h : s = 59 :: r) (hx : x = trimF r) (hn : tokN x ≠ 0) (hy : y = x.drop (tokN x)) : parS s = parV y := by
  subst h hx hy; rw [parS, if_pos rfl, if_neg hn]
theorem lst_param_no (s : ByteArray) (w : World) (h : s.data.toList = [] ∨ ∃ b r, s.data.toList = b :: r ∧ b ≠ 59) :
    Calls Tryz.prog 280 #[.string s] w (ParPost w s.data.toList) := by
  have HR := Lib.hid (par_no _ h)
  have B1 : Blk (w.alloc (.cells #[.string ⟨#[]⟩, .string ⟨#[]⟩] 273)) w.heap.size 273 #[.string ⟨#[]⟩, .string ⟨#[]⟩] := Blk.new' _ _ rfl _ _
  obtain ⟨j0, j1, i0, i1⟩ := B1.c2
  rcases h with h | ⟨b, r, h, hb⟩
  · obtain rfl : s = ⟨#[]⟩ := str_ext h
    go_enter Tryz.func280, Tryz.ntmps280
    go_wp2
    refine bodyPost_ret (v := .tuple #[.agg #[.string ⟨#[]⟩, .string ⟨#[]⟩], .string ⟨#[]⟩, .bool false]) (by simp [results, Tryz.results280, go_sem]) rfl ⟨_, _, _, false, rfl, HR.out, ?_⟩
    repeat refine setW ?_ (by simp) _
    exact allocW (Below.refl _ _) _
  · have hp : 0 < s.size := by rw [← len_data, h]; simp
    obtain ⟨c, hc, hbt⟩ := drop_bt s 0 hp
    rw [List.drop_zero, h] at hc
    obtain rfl : b = c := (List.cons.inj hc).1
    have hne := ne_isEmpty hp
    have hbs := PlainAid.get_bt s
    have h34 := u8ne' hb (n := 59) rfl
    clear h hc
    go_enter Tryz.func280, Tryz.ntmps280
    go_wp2
    refine bodyPost_ret (v := .tuple #[.agg #[.string ⟨#[]⟩, .string ⟨#[]⟩], .string s, .bool false]) (by simp [results, Tryz.results280, go_sem]) rfl ⟨_, _, _, false, rfl, HR.out, ?_⟩
    repeat refine setW ?_ (by simp) _
    exact allocW (Below.refl _ _) _
theorem drew1W {B : Nat} {a w : World} (h : Below B a w) : Below B a w.drew := below_drewN' h 1
theorem quo_some (s : Bs) (n : Nat) (h : quoN s = n) (hn : n ≠ 0) : parV (61 :: s) = some (s.drop n) := by
  subst h; rw [parV, if_pos rfl, if_neg hn]
theorem quo_tok (s : Bs) (n : Nat) (h : quoN s = 0) (h2 : tokN s = n) : parV (61 :: s) = if n = 0 then none else some (s.drop n) := by
  subst h2; rw [parV, if_pos rfl, if_pos h]
theorem lst_param (s : ByteArray) (w : World) (hs : s.size ≤ 1000000) :
    Calls Tryz.prog 280 #[.string s] w (ParPost w s.data.toList) := by
  rcases Nat.eq_zero_or_pos s.size with h0 | hp
  · exact lst_param_no s w (.inl (List.eq_nil_of_length_eq_zero (by rw [len_data]; exact h0)))
  obtain ⟨b0, hb0, hbt0⟩ := drop_bt s 0 hp
  rw [List.drop_zero] at hb0
  by_cases h59 : b0 = 59
  rotate_left
  · exact lst_param_no s w (.inr ⟨b0, _, hb0, h59⟩)
  subst h59
  have hne := ne_isEmpty hp
  have hbs := PlainAid.get_bt s
  have H0 := Lib.hid hb0
  have E1 := Lib.hid (ext_from s 1)
  clear hb0
  have B1 : Blk (w.alloc (.cells #[.string ⟨#[]⟩, .string ⟨#[]⟩] 273)) w.heap.size 273 #[.string ⟨#[]⟩, .string ⟨#[]⟩] := Blk.new' _ _ rfl _ _
  have LW : Below w.heap.size w (w.alloc (.cells #[.string ⟨#[]⟩, .string ⟨#[]⟩] 273)) := allocW (Below.refl _ _) _
  go_enter Tryz.func280, Tryz.ntmps280
  go_wp2_with fail
  obtain ⟨V, hV⟩ : ∃ V, V = w.alloc (.cells #[.string ⟨#[]⟩, .string ⟨#[]⟩] 273) := ⟨_, rfl⟩
  rw [← hV] at B1 LW ⊢
  clear hV hbt0 hne hbs
  refine (lib_TrimLeft _ V).mono ?_
  rintro e w1 ⟨X, rfl, hX, L1⟩
  have HX := Lib.hid (hX.trans (congrArg trimF E1.out))
  have hXs : X.size ≤ 1000000 := by
    rw [← len_data, HX.out]
    refine Nat.le_trans (trimF_le _) ?_
    rw [List.length_drop, len_data]; omega
  have B2 := B1.belowW L1
  have L2 := stepW LW L1
  clear hX B1 LW L1 E1
  go_wp2_with fail
  refine (lst_token' X w1 hXs).mono ?_
  rintro e w2 ⟨N, rfl, hN, hNs, rfl⟩
  obtain ⟨j0, j1, i0, i1⟩ := B2.c2
  have hlt := B2.lt
  by_cases hn0 : tokN X.data.toList = 0
  · have HR := Lib.hid (par_no_name _ _ _ H0.out HX.out hn0)
    rw [hn0] at hNs hN
    have hX0 : 0 ≤ X.size := Nat.zero_le _
    obtain rfl : N = ⟨#[]⟩ := str_ext hN
    have hR : X.extract 0 X.size = X := str_ext (by rw [ext_from]; rfl)
    clear hN hNs hn0
    go_wp2
    refine bodyPost_ret (v := .tuple #[.agg #[.string ⟨#[]⟩, .string ⟨#[]⟩], .string X, .bool false]) (by simp [results, Tryz.results280, go_sem, j0, j1]) rfl ⟨_, _, _, false, rfl, HR.out, ?_⟩
    repeat refine setW ?_ (by simp) _
    exact L2
  have hNX : N.size ≤ X.size := by rw [hNs, ← len_data X]; exact tokN_le _
  obtain ⟨R, hR⟩ : ∃ R, R = X.extract N.size X.size := ⟨_, rfl⟩
  have HP := Lib.hid (par_name _ _ _ R.data.toList H0.out HX.out hn0 (by rw [hR, ext_from, hNs]))
  have hRs : R.size ≤ 1000000 := by rw [hR, ext_size _ _ _ hNX (Nat.le_refl _)]; omega
  have hNp : 0 < N.size := by omega
  have hNe := ne_isEmpty hNp
  have hRe := hR.symm
  clear hR hN hNs hn0 HX H0
  rcases Nat.eq_zero_or_pos R.size with h0 | hRp
  · have HR := Lib.hid (HP.out.trans (show parV R.data.toList = some [] by rw [List.eq_nil_of_length_eq_zero (by rw [len_data]; exact h0 : R.data.toList.length = 0)]; rfl))
    obtain rfl := empty_size h0
    go_wp2
    refine bodyPost_ret (v := .tuple #[.agg #[.string N, .string ⟨#[]⟩], .string ⟨#[]⟩, .bool true]) (by simp [results, Tryz.results280, go_sem, j0, j1]) rfl ⟨_, _, _, true, rfl, HR.out, ?_⟩
    repeat refine setW ?_ (by simp) _
    exact L2
  have hRne := ne_isEmpty hRp
  obtain ⟨b, hb, hbt⟩ := drop_bt R 0 hRp
  rw [List.drop_zero] at hb
  have hbs := PlainAid.get_bt R
  by_cases h61 : b = 61
  rotate_left
  · have HR := Lib.hid (HP.out.trans (show parV R.data.toList = some R.data.toList by rw [hb, parV, if_neg h61]))
    have c1 := u8ne' h61 (n := 61) rfl
    clear hb h61
    go_wp2
    refine bodyPost_ret (v := .tuple #[.agg #[.string N, .string ⟨#[]⟩], .string R, .bool true]) (by simp [results, Tryz.results280, go_sem, j0, j1]) rfl ⟨_, _, _, true, rfl, HR.out, ?_⟩
    repeat refine setW ?_ (by simp) _
    exact L2
  subst h61
  obtain ⟨T, hT⟩ : ∃ T, T = R.extract 1 R.size := ⟨_, rfl⟩
  have hTl : R.data.toList = 61 :: T.data.toList := by rw [hT, ext_from]; exact hb
  have hTs : T.size ≤ 1000000 := by rw [hT, ext_size _ _ _ hRp (Nat.le_refl _)]; omega
  have HQ := Lib.hid (HP.out.trans (congrArg parV hTl))
  have hTe := hT.symm
  clear hb hT hTl HP
  go_wp2_with fail
  have B3 := B2.set_ 0 (.string N)
  have L3 := setW L2 (p := ⟨w.heap.size, 0, none⟩) (Nat.le_refl _) (.string N)
  obtain ⟨V, hV⟩ : ∃ V, V = w1.setCell ⟨w.heap.size, 0, none⟩ (.string N) := ⟨_, rfl⟩
  rw [← hV] at B3 L3 ⊢
  clear hV B2 L2 j0 j1 i0 i1 hbt hbs hRne hNe hlt
  refine (lst_Quoted T V hTs).mono ?_
  rintro e w3 ⟨⟨x, rfl⟩, L4⟩
  have B4 := B3.belowW L4
  have L5 := stepW L3 L4
  obtain ⟨j0, j1, i0, i1⟩ := B4.c2
  have hq := quoN_le T.data.toList
  rw [len_data] at hq
  clear B3 L3 L4
  by_cases hq0 : quoN T.data.toList = 0
  rotate_left
  · obtain ⟨n, hn⟩ : ∃ n, n = quoN T.data.toList := ⟨_, rfl⟩
    have HR := Lib.hid (HQ.out.trans (quo_some _ n hn.symm (by omega)))
    rw [← hn] at hq hq0 ⊢
    have hn1 : 1 ≤ n := by omega
    clear hn hq0
    go_wp2
    go_region
    all_goals
      go_wp2
      refine bodyPost_ret (v := .tuple #[.agg #[.string N, .string x], .string (T.extract n T.size), .bool true]) (by simp [results, Tryz.results280, go_sem, j0, j1]) rfl ⟨_, _, _, true, rfl, by rw [ext_from]; exact HR.out, ?_⟩
      repeat first | refine setW ?_ (by simp) _ | refine drew1W ?_
      exact L5
  rw [hq0]
  go_wp2_with fail
  refine (lst_token' T w3 hTs).mono ?_
  rintro e w4 ⟨M, rfl, hM, hMs, rfl⟩
  have HR := Lib.hid (HQ.out.trans (quo_tok _ M.size hq0 hMs.symm))
  have hMT : M.size ≤ T.size := by rw [hMs, ← len_data T]; exact tokN_le _
  clear hM hMs hq hq0 HQ
  rcases Nat.eq_zero_or_pos M.size with h0 | hMp
  · have HR2 := Lib.hid (HR.out.trans (if_pos h0))
    obtain rfl := empty_size h0
    have hT0 : 0 ≤ T.size := Nat.zero_le _
    clear HR h0
    go_wp2
    go_region
    all_goals
      go_wp2
      refine bodyPost_ret (v := .tuple #[.agg #[.string N, .string ⟨#[]⟩], .string (T.extract 0 T.size), .bool false]) (by simp [results, Tryz.results280, go_sem, j0, j1]) rfl ⟨_, _, _, false, rfl, HR2.out, ?_⟩
      repeat first | refine setW ?_ (by simp) _ | refine drew1W ?_
      exact L5
  · have HR2 := Lib.hid (HR.out.trans (if_neg (by omega)))
    have hMe := ne_isEmpty hMp
    clear HR
    go_wp2
    go_region
    all_goals
      go_wp2
      refine bodyPost_ret (v := .tuple #[.agg #[.string N, .string M], .string (T.extract M.size T.size), .bool true]) (by simp [results, Tryz.results280, go_sem, j0, j1]) rfl ⟨_, _, _, true, rfl, by rw [ext_from]; exact HR2.out, ?_⟩
      repeat first | refine setW ?_ (by simp) _ | refine drew1W ?_
      exact L5
end Go.Proofs.YtlambdccmfnloaaGreatDoor
namespace Go.Proofs.YtlambdccmfnloaaGreatDoor
open Go.RowKit
set_option maxRecDepth 100000
set_option maxHeartbeats 2000000

theorem info_par : (Tryz.prog.info? 273).map (fun i => (i.zero, i.size, i.bytes)) = some (some (.agg #[.string ⟨#[]⟩, .string ⟨#[]⟩]), 2, 32) := by kernel_rfl
/-- A row of so many parameters that the call owns. -/
def OPr (w : World) (base : Nat) (v : Value) (n : Nat) : Prop := ∃ xs, Own w base 273 2 v n xs
theorem OPr.nil (w : World) (base : Nat) : OPr w base (.slice none 0 0) 0 := ⟨[], Own.nil w base _ 2⟩
theorem OPr.belowW {w w' : World} {base : Nat} {v : Value} {n : Nat} (h : OPr w base v n) (hb : Below w.heap.size w w') : OPr w' base v n := by
  obtain ⟨xs, h⟩ := h
  exact ⟨xs, h.belowW hb⟩
theorem OPr.alloc {w : World} {base : Nat} {v : Value} {n : Nat} (h : OPr w base v n) (o : Obj) : OPr (w.alloc o) base v n := by
  obtain ⟨xs, h⟩ := h
  exact ⟨xs, h.alloc o⟩
theorem OPr.form {w : World} {base : Nat} {v : Value} {n : Nat} (h : OPr w base v n) : ∃ A c, v = .slice A n c := by
  obtain ⟨xs, h⟩ := h
  obtain ⟨A, c, e, _⟩ := h.rd
  exact ⟨A, c, e⟩
theorem wp_appP {ops : Array Oper} {rest : List Oper} {o : Oper} {a : Act} {Q : Exit → Act → World → Prop} {w0 : World} (hgd : o.guard = none) (s x : Operand)
    (ho : o.op = .call { callee := .builtin .append, args := #[s, x], argTypes := #[255, 255] })
    (base : Nat) (v : Value) (n : Nat) (hs : a.eval s = v) (hown : OPr w0 base v n) (g : Nat) (hg : g = w0.heap.size) (p q : ByteArray) (hx : a.eval x = .slice (some ⟨g, 0, none⟩) 1 1)
    (hlen : n + 1 ≤ 1000000) (hbase : base ≤ w0.heap.size)
    (h : ∀ v' w', OPr w' base v' (n + 1) → Below base w0 w' → wpList Tryz.prog ops Q rest (a.put o.dst v') w') : wpList Tryz.prog ops Q (o :: rest) a (w0.alloc (.cells #[.string p, .string q] 273)) := by
  obtain ⟨i0, hi, hz0, hz1, hz2⟩ := info_parts info_par
  subst hg
  obtain ⟨xs, hown⟩ := hown
  refine wpList_append_Own _ hgd s x 255 255 ho base 273 i0 _ 2 32 Tryz.underlying255 (.inl Tryz.underlying255) hi hz0 hz1 hz2 rfl (by decide) v n _ hs (hown.alloc _) _ 1 [.string p, .string q] hx (Src.of_rd (Rd.new w0 _ rfl [.string p, .string q] _ 1 2 rfl) (by intro u hu; simp at hu; rcases hu with rfl | rfl <;> rfl)) (by unfold maxLen; omega) (by omega) (Nat.le_trans hbase (by simp)) ?_
  intro v' w' ho' hg' ha
  exact h v' w' ⟨_, ho'⟩ (((Below.refl base w0).alloc hbase _).grown hg' (Nat.le_trans hbase (by simp)) fun k hk => (hown.lt k hk).1)
def PrmPost (w : World) (b : Bool) (e : Ending) (w' : World) : Prop := (∃ v, e = .returned (.tuple #[v, .bool b])) ∧ Below w.heap.size w w'
theorem lst_Params (s : ByteArray) (w : World) (hs : s.size ≤ 1000000) :
    Calls Tryz.prog 266 #[.string s] w (PrmPost w (parOk s.data.toList)) := by
  go_enter Tryz.func266, Tryz.ntmps266
  go_wp2
  go_loopw [4, 0] (fun v t wr => ∃ (T : ByteArray) (n : Nat), t = .string T ∧ T.size ≤ s.size ∧ n ≤ 16 ∧ OPr wr w.heap.size v n ∧ Below w.heap.size w wr ∧ Hid (parOk s.data.toList = parG T.data.toList n)) (fun _ t _ => match t with | .string T => T.size | _ => 0)
  case atStart => exact ⟨s, 0, rfl, Nat.le_refl _, by omega, OPr.nil _ _, Below.refl _ _, Lib.hid rfl⟩
  case round =>
    obtain ⟨T, n, rfl, hT, hn, ho, L, H⟩ := hrel
    have hS := L.size
    go_wp2_with fail
    refine (lib_TrimLeft T wr).mono ?_
    rintro e w1 ⟨X, rfl, hX, L1⟩
    have hXT : X.size ≤ T.size := by rw [← len_data, ← len_data, hX]; exact trimF_le _
    have ho1 := ho.belowW L1
    have L2 := stepW L L1
    rcases Nat.eq_zero_or_pos X.size with h0 | hp
    · have HR := Lib.hid (H.out.trans (parG_end _ n (by rw [← hX]; exact List.eq_nil_of_length_eq_zero (by rw [len_data]; exact h0))))
      obtain rfl := empty_size h0
      clear hX H
      go_wp2
      go_ret2
      exact ⟨⟨_, by rw [HR.out]; rfl⟩, L2⟩
    have hne := ne_isEmpty hp
    have hnn : trimF T.data.toList ≠ [] := by rw [← hX]; intro h; rw [← len_data, h] at hp; simp at hp
    go_wp2_with fail
    refine (lst_param X w1 (by omega)).mono ?_
    rintro e w2 ⟨p1, p2, R, ok, rfl, hps, L3⟩
    rw [hX] at hps
    have ho2 := ho1.belowW L3
    have L4 := stepW L2 L3
    obtain ⟨A, c, rfl⟩ := ho2.form
    cases ok
    · have HR := Lib.hid (H.out.trans (parG_bad _ n hnn (hps.trans (if_neg (by decide)))))
      clear hps H hnn hX
      go_wp2
      go_ret2
      refine ⟨⟨_, by rw [HR.out]; rfl⟩, ?_⟩
      exact allocW L4 _
    · by_cases h16 : n = 16
      · have HR := Lib.hid (H.out.trans (parG_not _ n hnn h16))
        subst h16
        clear hps H hnn hX
        go_wp2
        go_ret2
        refine ⟨⟨_, by rw [HR.out]; rfl⟩, ?_⟩
        exact allocW L4 _
      · have hps2 : parS (trimF T.data.toList) = some R.data.toList := hps.trans (if_pos rfl)
        have HR := Lib.hid (H.out.trans (parG_one _ _ n hnn hps2 h16))
        have hlt := parS_lt _ _ hps2
        rw [len_data, ← hX, len_data] at hlt
        clear hps H hnn hX hps2
        go_wp2_with (at_builtin; refine wp_appP rfl _ _ rfl w.heap.size (.slice A n c) n rfl (ho2.alloc _) _ (by simp) p1 p2 rfl (by omega) (allocW L4 _).size ?_; intro v' w3 ho3 hx)
        go_roundw
        case rel => exact ⟨R, n + 1, rfl, by omega, by omega, ho3, (allocW L4 _).trans hx, HR⟩
        case measure => simp; omega
end Go.Proofs.YtlambdccmfnloaaGreatDoor

/- list: param, Params. -/
import Derived.Test.YtfapnppgbhlidaaGreatDoorLst
import Derived.BigRegion
import Derived.ChangeAlike
namespace Go.Proofs.YtfapnppgbhlidaaGreatDoor
open Go.RowKit
set_option maxRecDepth 100000
set_option maxHeartbeats 2000000

theorem trimLeft_eq (l : Bs) : Lib.trimLeftS l [9, 32] = trimF l := by
  have e : (fun b : UInt8 => ([9, 32] : Bs).contains b) = isB := by
    funext b
    cases h1 : (b == 9) <;> cases h2 : (b == 32) <;> simp [isB, List.contains, List.elem, h1, h2]
  unfold Lib.trimLeftS trimF
  rw [e]
theorem lib_TrimLeft (s : ByteArray) (w : World) :
    Calls Tryz.prog 138 #[.string s, .string ⟨#[9, 32]⟩] w fun e w' => ∃ X : ByteArray, e = .returned (.string X) ∧ X.data.toList = trimF s.data.toList ∧ Below w.heap.size w w' := by
  refine (Any.strings_TrimLeft_laid Tryz.lays161 (by kernel_rfl) s ⟨#[9, 32]⟩ _ (by decide) (ascii_of_all (by decide))).mono ?_
  rintro e w' ⟨rfl, hb⟩
  exact ⟨_, rfl, by rw [← trimLeft_eq], hb⟩
theorem lst_token' (s : ByteArray) (w : World) (hs : s.size ≤ 1000000) :
    Calls Tryz.prog 164 #[.string s] w fun e w' => ∃ X : ByteArray, e = .returned (.string X) ∧ X.data.toList = s.data.toList.take (tokN s.data.toList) ∧ X.size = tokN s.data.toList ∧ w = w' := by
  refine (lst_token s w hs).mono ?_
  rintro e w' ⟨rfl, rfl⟩
  refine ⟨_, rfl, rfl, ?_, rfl⟩
  rw [← len_data, List.length_take, Nat.min_eq_left (tokN_le _)]
def ParPost (w : World) (s : Bs) (e : Ending) (w' : World) : Prop :=
  ∃ (p1 p2 R : ByteArray) (ok : Bool), e = .returned (.tuple #[.agg #[.string p1, .string p2], .string R, .bool ok]) ∧ parS s = (if ok then some R.data.toList else none) ∧ Below w.heap.size w w'
theorem par_no (s : Bs) (h : s = [] ∨ ∃ b r, s = b :: r ∧ b ≠ 59) : parS s = none := by
  rcases h with rfl | ⟨b, r, rfl, hb⟩
  · rfl
  · rw [parS, if_neg hb]
theorem par_no_name (s r x : Bs) (h : s = 59 :: r) (hx : x = trimF r) (hn : tokN x = 0) : parS s = none := by
  subst h hx; rw [parS, if_pos rfl, if_pos hn]
theorem par_name (s r x y : Bs) (h : s = 59 :: r) (hx : x = trimF r) (hn : tokN x ≠ 0) (hy : y = x.drop (tokN x)) : parS s = parV y := by
  subst h hx hy; rw [parS, if_pos rfl, if_neg hn]
theorem lst_param_no (s : ByteArray) (w : World) (h : s.data.toList = [] ∨ ∃ b r, s.data.toList = b :: r ∧ b ≠ 59) :
    Calls Tryz.prog 139 #[.string s] w (ParPost w s.data.toList) := by
  have HR := Lib.hid (par_no _ h)
  have B1 : Blk (w.alloc (.cells #[.string ⟨#[]⟩, .string ⟨#[]⟩] 163)) w.heap.size 163 #[.string ⟨#[]⟩, .string ⟨#[]⟩] := Blk.new' _ _ rfl _ _
  obtain ⟨j0, j1, i0, i1⟩ := B1.c2
  rcases h with h | ⟨b, r, h, hb⟩
  · obtain rfl : s = ⟨#[]⟩ := str_ext h
    go_enter Tryz.func139, Tryz.ntmps139
    go_wp2
    refine bodyPost_ret (v := .tuple #[.agg #[.string ⟨#[]⟩, .string ⟨#[]⟩], .string ⟨#[]⟩, .bool false]) (by simp [results, Tryz.results139, go_sem]) rfl ⟨_, _, _, false, rfl, HR.out, ?_⟩
    repeat refine setW ?_ (by simp) _
    exact allocW (Below.refl _ _) _
  · have hp : 0 < s.size := by rw [← len_data, h]; simp
    obtain ⟨c, hc, hbt⟩ := drop_bt s 0 hp
    rw [List.drop_zero, h] at hc
    obtain rfl : b = c := (List.cons.inj hc).1
    have hne := ne_isEmpty hp
    have hbs := PlainAid.get_bt s
    have h34 := u8ne' hb (n := 59) rfl
    clear h hc
    go_enter Tryz.func139, Tryz.ntmps139
    go_wp2
    refine bodyPost_ret (v := .tuple #[.agg #[.string ⟨#[]⟩, .string ⟨#[]⟩], .string s, .bool false]) (by simp [results, Tryz.results139, go_sem]) rfl ⟨_, _, _, false, rfl, HR.out, ?_⟩
    repeat refine setW ?_ (by simp) _
    exact allocW (Below.refl _ _) _
theorem drew1W {B : Nat} {a w : World} (h : Below B a w) : Below B a w.drew := below_drewN' h 1
theorem quo_some (s : Bs) (n : Nat) (h : quoN s = n) (hn : n ≠ 0) : parV (61 :: s) = some (s.drop n) := by
  subst h; rw [parV, if_pos rfl, if_neg hn]
theorem quo_tok (s : Bs) (n : Nat) (h : quoN s = 0) (h2 : tokN s = n) : parV (61 :: s) = if n = 0 then none else some (s.drop n) := by
  subst h2; rw [parV, if_pos rfl, if_pos h]
theorem lst_param (s : ByteArray) (w : World) (hs : s.size ≤ 1000000) :
    Calls Tryz.prog 139 #[.string s] w (ParPost w s.data.toList) := by
  rcases Nat.eq_zero_or_pos s.size with h0 | hp
  · exact lst_param_no s w (.inl (List.eq_nil_of_length_eq_zero (by rw [len_data]; exact h0)))
  obtain ⟨b0, hb0, hbt0⟩ := drop_bt s 0 hp
  rw [List.drop_zero] at hb0
  by_cases h59 : b0 = 59
  rotate_left
  · exact lst_param_no s w (.inr ⟨b0, _, hb0, h59⟩)
  subst h59
  have hne := ne_isEmpty hp
  have hbs := PlainAid.get_bt s
  have H0 := Lib.hid hb0
  have E1 := Lib.hid (ext_from s 1)
  clear hb0
  have B1 : Blk (w.alloc (.cells #[.string ⟨#[]⟩, .string ⟨#[]⟩] 163)) w.heap.size 163 #[.string ⟨#[]⟩, .string ⟨#[]⟩] := Blk.new' _ _ rfl _ _
  have LW : Below w.heap.size w (w.alloc (.cells #[.string ⟨#[]⟩, .string ⟨#[]⟩] 163)) := allocW (Below.refl _ _) _
  go_enter Tryz.func139, Tryz.ntmps139
  go_wp2_with fail
  obtain ⟨V, hV⟩ : ∃ V, V = w.alloc (.cells #[.string ⟨#[]⟩, .string ⟨#[]⟩] 163) := ⟨_, rfl⟩
  rw [← hV] at B1 LW ⊢
  clear hV hbt0 hne hbs
  refine (lib_TrimLeft _ V).mono ?_
  rintro e w1 ⟨X, rfl, hX, L1⟩
  have HX := Lib.hid (hX.trans (congrArg trimF E1.out))
  have hXs : X.size ≤ 1000000 := by
    rw [← len_data, HX.out]
    refine Nat.le_trans (trimF_le _) ?_
    rw [List.length_drop, len_data]; omega
  have B2 := B1.belowW L1
  have L2 := stepW LW L1
  clear hX B1 LW L1 E1
  go_wp2_with fail
  refine (lst_token' X w1 hXs).mono ?_
  rintro e w2 ⟨N, rfl, hN, hNs, rfl⟩
  obtain ⟨j0, j1, i0, i1⟩ := B2.c2
  have hlt := B2.lt
  by_cases hn0 : tokN X.data.toList = 0
  · have HR := Lib.hid (par_no_name _ _ _ H0.out HX.out hn0)
    rw [hn0] at hNs hN
    have hX0 : 0 ≤ X.size := Nat.zero_le _
    obtain rfl : N = ⟨#[]⟩ := str_ext hN
    have hR : X.extract 0 X.size = X := str_ext (by rw [ext_from]; rfl)
    clear hN hNs hn0
    go_wp2
    refine bodyPost_ret (v := .tuple #[.agg #[.string ⟨#[]⟩, .string ⟨#[]⟩], .string X, .bool false]) (by simp [results, Tryz.results139, go_sem, j0, j1]) rfl ⟨_, _, _, false, rfl, HR.out, ?_⟩
    repeat refine setW ?_ (by simp) _
    exact L2
  have hNX : N.size ≤ X.size := by rw [hNs, ← len_data X]; exact tokN_le _
  obtain ⟨R, hR⟩ : ∃ R, R = X.extract N.size X.size := ⟨_, rfl⟩
  have HP := Lib.hid (par_name _ _ _ R.data.toList H0.out HX.out hn0 (by rw [hR, ext_from, hNs]))
  have hRs : R.size ≤ 1000000 := by rw [hR, ext_size _ _ _ hNX (Nat.le_refl _)]; omega
  have hNp : 0 < N.size := by omega
  have hNe := ne_isEmpty hNp
  have hRe := hR.symm
  clear hR hN hNs hn0 HX H0
  rcases Nat.eq_zero_or_pos R.size with h0 | hRp
  · have HR := Lib.hid (HP.out.trans (show parV R.data.toList = some [] by rw [List.eq_nil_of_length_eq_zero (by rw [len_data]; exact h0 : R.data.toList.length = 0)]; rfl))
    obtain rfl := empty_size h0
    go_wp2
    refine bodyPost_ret (v := .tuple #[.agg #[.string N, .string ⟨#[]⟩], .string ⟨#[]⟩, .bool true]) (by simp [results, Tryz.results139, go_sem, j0, j1]) rfl ⟨_, _, _, true, rfl, HR.out, ?_⟩
    repeat refine setW ?_ (by simp) _
    exact L2
  have hRne := ne_isEmpty hRp
  obtain ⟨b, hb, hbt⟩ := drop_bt R 0 hRp
  rw [List.drop_zero] at hb
  have hbs := PlainAid.get_bt R
  by_cases h61 : b = 61
  rotate_left
  · have HR := Lib.hid (HP.out.trans (show parV R.data.toList = some R.data.toList by rw [hb, parV, if_neg h61]))
    have c1 := u8ne' h61 (n := 61) rfl
    clear hb h61
    go_wp2
    refine bodyPost_ret (v := .tuple #[.agg #[.string N, .string ⟨#[]⟩], .string R, .bool true]) (by simp [results, Tryz.results139, go_sem, j0, j1]) rfl ⟨_, _, _, true, rfl, HR.out, ?_⟩
    repeat refine setW ?_ (by simp) _
    exact L2
  subst h61
  obtain ⟨T, hT⟩ : ∃ T, T = R.extract 1 R.size := ⟨_, rfl⟩
  have hTl : R.data.toList = 61 :: T.data.toList := by rw [hT, ext_from]; exact hb
  have hTs : T.size ≤ 1000000 := by rw [hT, ext_size _ _ _ hRp (Nat.le_refl _)]; omega
  have HQ := Lib.hid (HP.out.trans (congrArg parV hTl))
  have hTe := hT.symm
  clear hb hT hTl HP
  go_wp2_with fail
  have B3 := B2.set_ 0 (.string N)
  have L3 := setW L2 (p := ⟨w.heap.size, 0, none⟩) (Nat.le_refl _) (.string N)
  obtain ⟨V, hV⟩ : ∃ V, V = w1.setCell ⟨w.heap.size, 0, none⟩ (.string N) := ⟨_, rfl⟩
  rw [← hV] at B3 L3 ⊢
  clear hV B2 L2 j0 j1 i0 i1 hbt hbs hRne hNe hlt
  refine (lst_Quoted T V hTs).mono ?_
  rintro e w3 ⟨⟨x, rfl⟩, L4⟩
  have B4 := B3.belowW L4
  have L5 := stepW L3 L4
  obtain ⟨j0, j1, i0, i1⟩ := B4.c2
  have hq := quoN_le T.data.toList
  rw [len_data] at hq
  clear B3 L3 L4
  by_cases hq0 : quoN T.data.toList = 0
  rotate_left
  · obtain ⟨n, hn⟩ : ∃ n, n = quoN T.data.toList := ⟨_, rfl⟩
    have HR := Lib.hid (HQ.out.trans (quo_some _ n hn.symm (by omega)))
    rw [← hn] at hq hq0 ⊢
    have hn1 : 1 ≤ n := by omega
    clear hn hq0
    go_wp2
    go_region
    all_goals
      go_wp2
      refine bodyPost_ret (v := .tuple #[.agg #[.string N, .string x], .string (T.extract n T.size), .bool true]) (by simp [results, Tryz.results139, go_sem, j0, j1]) rfl ⟨_, _, _, true, rfl, by rw [ext_from]; exact HR.out, ?_⟩
      repeat first | refine setW ?_ (by simp) _ | refine drew1W ?_
      exact L5
  rw [hq0]
  go_wp2_with fail
  refine (lst_token' T w3 hTs).mono ?_
  rintro e w4 ⟨M, rfl, hM, hMs, rfl⟩
  have HR := Lib.hid (HQ.out.trans (quo_tok _ M.size hq0 hMs.symm))
  have hMT : M.size ≤ T.size := by rw [hMs, ← len_data T]; exact tokN_le _
  clear hM hMs hq hq0 HQ
  rcases Nat.eq_zero_or_pos M.size with h0 | hMp
  · have HR2 := Lib.hid (HR.out.trans (if_pos h0))
    obtain rfl := empty_size h0
    have hT0 : 0 ≤ T.size := Nat.zero_le _
    clear HR h0
    go_wp2
    go_region
    all_goals
      go_wp2
      refine bodyPost_ret (v := .tuple #[.agg #[.string N, .string ⟨#[]⟩], .string (T.extract 0 T.size), .bool false]) (by simp [results, Tryz.results139, go_sem, j0, j1]) rfl ⟨_, _, _, false, rfl, HR2.out, ?_⟩
      repeat first | refine setW ?_ (by simp) _ | refine drew1W ?_
      exact L5
  · have HR2 := Lib.hid (HR.out.trans (if_neg (by omega)))
    have hMe := ne_isEmpty hMp
    clear HR
    go_wp2
    go_region
    all_goals
      go_wp2
      refine bodyPost_ret (v := .tuple #[.agg #[.string N, .string M], .string (T.extract M.size T.size), .bool true]) (by simp [results, Tryz.results139, go_sem, j0, j1]) rfl ⟨_, _, _, true, rfl, by rw [ext_from]; exact HR2.out, ?_⟩
      repeat first | refine setW ?_ (by simp) _ | refine drew1W ?_
      exact L5
end Go.Proofs.YtfapnppgbhlidaaGreatDoor

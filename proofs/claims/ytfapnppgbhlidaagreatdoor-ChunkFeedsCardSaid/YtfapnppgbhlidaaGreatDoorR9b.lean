/- usherref9.Params. -/
import Derived.Test.YtfapnppgbhlidaaGreatDoorR9
import Derived.Test.YtfapnppgbhlidaaGreatDoorLst3
namespace Go.Proofs.YtfapnppgbhlidaaGreatDoor
open Go.RowKit
set_option maxRecDepth 100000
set_option maxHeartbeats 4000000

theorem info_par9 : (Tryz.prog.info? 140).map (fun i => (i.zero, i.size, i.bytes)) = some (some (.agg #[.string ⟨#[]⟩, .string ⟨#[]⟩]), 2, 32) := by kernel_rfl
/-- A row of so many parameters that the call owns. -/
def OPq (w : World) (base : Nat) (v : Value) (n : Nat) : Prop := ∃ xs, Own w base 140 2 v n xs
theorem OPq.nil (w : World) (base : Nat) : OPq w base (.slice none 0 0) 0 := ⟨[], Own.nil w base _ 2⟩
theorem OPq.belowW {w w' : World} {base : Nat} {v : Value} {n : Nat} (h : OPq w base v n) (hb : Below w.heap.size w w') : OPq w' base v n := by
  obtain ⟨xs, h⟩ := h
  exact ⟨xs, h.belowW hb⟩
theorem OPq.alloc {w : World} {base : Nat} {v : Value} {n : Nat} (h : OPq w base v n) (o : Obj) : OPq (w.alloc o) base v n := by
  obtain ⟨xs, h⟩ := h
  exact ⟨xs, h.alloc o⟩
theorem OPq.form {w : World} {base : Nat} {v : Value} {n : Nat} (h : OPq w base v n) : ∃ A c, v = .slice A n c := by
  obtain ⟨xs, h⟩ := h
  obtain ⟨A, c, e, _⟩ := h.rd
  exact ⟨A, c, e⟩
theorem wp_appQ {ops : Array Oper} {rest : List Oper} {o : Oper} {a : Act} {Q : Exit → Act → World → Prop} {w0 : World} (hgd : o.guard = none) (s x : Operand)
    (ho : o.op = .call { callee := .builtin .append, args := #[s, x], argTypes := #[120, 120] })
    (base : Nat) (v : Value) (n : Nat) (hs : a.eval s = v) (hown : OPq w0 base v n) (g : Nat) (hg : g = w0.heap.size) (p q : ByteArray) (hx : a.eval x = .slice (some ⟨g, 0, none⟩) 1 1)
    (hlen : n + 1 ≤ 1000000) (hbase : base ≤ w0.heap.size)
    (h : ∀ v' w', OPq w' base v' (n + 1) → Below base w0 w' → wpList Tryz.prog ops Q rest (a.put o.dst v') w') : wpList Tryz.prog ops Q (o :: rest) a (w0.alloc (.cells #[.string p, .string q] 140)) := by
  obtain ⟨i0, hi, hz0, hz1, hz2⟩ := info_parts info_par9
  subst hg
  obtain ⟨xs, hown⟩ := hown
  refine wpList_append_Own _ hgd s x 120 120 ho base 140 i0 _ 2 32 Tryz.underlying120 (.inl Tryz.underlying120) hi hz0 hz1 hz2 rfl (by decide) v n _ hs (hown.alloc _) _ 1 [.string p, .string q] hx (Src.of_rd (Rd.new w0 _ rfl [.string p, .string q] _ 1 2 rfl) (by intro u hu; simp at hu; rcases hu with rfl | rfl <;> rfl)) (by unfold maxLen; omega) (by omega) (Nat.le_trans hbase (by simp)) ?_
  intro v' w' ho' hg' ha
  exact h v' w' ⟨_, ho'⟩ (((Below.refl base w0).alloc hbase _).grown hg' (Nat.le_trans hbase (by simp)) fun k hk => (hown.lt k hk).1)
theorem OPq.far {w : World} {base : Nat} {v : Value} {n : Nat} (h : OPq w base v n) {p : Addr} (hp : ∀ k, v.ownBlock = some k → k ≠ p.block) (u : Value) : OPq (w.setCell p u) base v n := by
  obtain ⟨xs, h⟩ := h
  exact ⟨xs, h.far hp u⟩
theorem OPq.lt {w : World} {base : Nat} {v : Value} {n : Nat} (h : OPq w base v n) {k : Nat} (hk : v.ownBlock = some k) : k < w.heap.size := by
  obtain ⟨xs, h⟩ := h
  exact (h.lt k hk).2
theorem quo_tok0 (s : Bs) (h : tokN s ≠ 0) : quoN s = 0 := by
  cases s with
  | nil => rfl
  | cons c r =>
    rw [quoN]
    split
    · rename_i hc
      subst hc
      rw [tokN_cons, show tokB ((34 : UInt8).toNat : Int) = false by decide] at h
      exact absurd rfl h
    · rfl
theorem parV_tok (s : Bs) (n : Nat) (h : tokN s = n) (hn : n ≠ 0) : parV (61 :: s) = some (s.drop n) := by
  subst h
  rw [parV, if_pos rfl, if_pos (quo_tok0 s hn), if_neg hn]
theorem parV_quo (s : Bs) (n : Nat) (h0 : tokN s = 0) (h : quoN s = n) : parV (61 :: s) = if n = 0 then none else some (s.drop n) := by
  subst h
  rw [parV, if_pos rfl, if_pos h0]
theorem ref9_Params (s : ByteArray) (w : World) (hs : s.size ≤ 1000000) :
    Calls Tryz.prog 82 #[.string s] w (PrmPost w (parOk s.data.toList)) := by
  go_enter Tryz.func82, Tryz.ntmps82
  go_wp2
  go_loopw [4, 0] (fun v t wr => ∃ (T : ByteArray) (n : Nat), t = .string T ∧ T.size ≤ s.size ∧ n ≤ 16 ∧ OPq wr w.heap.size v n ∧ Below w.heap.size w wr ∧ Hid (parOk s.data.toList = parG T.data.toList n)) (fun _ t _ => match t with | .string T => T.size | _ => 0)
  case atStart => exact ⟨s, 0, rfl, Nat.le_refl _, by omega, OPq.nil _ _, Below.refl _ _, Lib.hid rfl⟩
  case round =>
    obtain ⟨T, n, rfl, hT, hn, ho, L, H⟩ := hrel
    have hS := L.size
    obtain ⟨A, c, rfl⟩ := ho.form
    have hbl := blaN_le T.data.toList
    rw [len_data] at hbl
    go_wp2_with fail
    refine (ref9_blanks T wr (by omega)).mono ?_
    rintro e w1 ⟨rfl, rfl⟩
    obtain ⟨X, hX⟩ : ∃ X, X = T.extract (blaN T.data.toList) T.size := ⟨_, rfl⟩
    have hXl : X.data.toList = trimF T.data.toList := by rw [hX, ext_from, blaN_drop]
    have hXs : X.size ≤ T.size := by rw [hX, ext_size _ _ _ hbl (Nat.le_refl _)]; omega
    have hXe := hX.symm
    have HX := Lib.hid hXl
    generalize blaN T.data.toList = k at hbl hXe
    clear hX hXl
    rcases Nat.eq_zero_or_pos X.size with h0 | hp
    · have HR := Lib.hid (H.out.trans (parG_end _ n (by rw [← HX.out]; exact List.eq_nil_of_length_eq_zero (by rw [len_data]; exact h0))))
      obtain rfl := empty_size h0
      clear H
      go_wp2
      go_ret2
      exact ⟨⟨_, by rw [HR.out]; rfl⟩, L⟩
    have hne := ne_isEmpty hp
    have hnn : trimF T.data.toList ≠ [] := by rw [← HX.out]; intro h; rw [← len_data, h] at hp; simp at hp
    obtain ⟨b, hb, hbt⟩ := drop_bt X 0 hp
    rw [List.drop_zero] at hb
    have hbs := PlainAid.get_bt X
    by_cases h59 : b = 59
    rotate_left
    · have HR := Lib.hid (H.out.trans (parG_bad _ n hnn (by rw [← HX.out]; exact par_no _ (.inr ⟨b, _, hb, h59⟩))))
      have c1 := u8ne' h59 (n := 59) rfl
      clear H hb h59 hnn
      go_wp2
      go_ret2
      exact ⟨⟨_, by rw [HR.out]; rfl⟩, L⟩
    subst h59
    by_cases h16 : n = 16
    · have HR := Lib.hid (H.out.trans (parG_not _ n hnn h16))
      subst h16
      clear H hb hnn
      go_wp2
      go_ret2
      exact ⟨⟨_, by rw [HR.out]; rfl⟩, L⟩
    have h16e : ((n : Int) == 16) = false := by rw [Bool.eq_false_iff]; intro h9; rw [beq_iff_eq] at h9; omega
    obtain ⟨Y0, hY0⟩ : ∃ Y, Y = X.extract 1 X.size := ⟨_, rfl⟩
    have hY0l : X.data.toList = 59 :: Y0.data.toList := by rw [hY0, ext_from]; exact hb
    have hY0s : Y0.size < X.size := by rw [hY0, ext_size _ _ _ hp (Nat.le_refl _)]; omega
    have hY0e := hY0.symm
    have HY0 := Lib.hid hY0l
    have hbl2 := blaN_le Y0.data.toList
    rw [len_data] at hbl2
    clear hb hY0 hY0l
    go_wp2_with fail
    refine (ref9_blanks Y0 wr (by omega)).mono ?_
    rintro e w2 ⟨rfl, rfl⟩
    obtain ⟨Y, hY⟩ : ∃ Y, Y = Y0.extract (blaN Y0.data.toList) Y0.size := ⟨_, rfl⟩
    have HY := Lib.hid (show Y.data.toList = trimF Y0.data.toList by rw [hY, ext_from, blaN_drop])
    have hYs : Y.size ≤ Y0.size := by rw [hY, ext_size _ _ _ hbl2 (Nat.le_refl _)]; omega
    have hYe := hY.symm
    generalize blaN Y0.data.toList = k2 at hbl2 hYe
    clear hY hne hbs hbt
    have hte := tokN_le Y.data.toList
    rw [len_data] at hte
    go_wp2_with fail
    refine (ref9_token Y wr (by omega)).mono ?_
    rintro e w2 ⟨rfl, rfl⟩
    by_cases hn0 : tokN Y.data.toList = 0
    · have HR := Lib.hid (H.out.trans (parG_bad _ n hnn (by rw [← HX.out]; exact par_no_name _ _ _ HY0.out HY.out hn0)))
      clear H hnn
      rw [hn0]
      clear hn0 hte
      go_wp2
      go_ret2
      exact ⟨⟨_, by rw [HR.out]; rfl⟩, L⟩
    obtain ⟨R, hR⟩ : ∃ R, R = Y.extract (tokN Y.data.toList) Y.size := ⟨_, rfl⟩
    have HP := Lib.hid (show parS (trimF T.data.toList) = parV R.data.toList by rw [← HX.out]; exact par_name _ _ _ R.data.toList HY0.out HY.out hn0 (by rw [hR, ext_from]))
    have HG := Lib.hid (fun r hr => H.out.trans (parG_one _ r n hnn hr h16))
    have HB := Lib.hid (fun hr => H.out.trans (parG_bad _ n hnn hr))
    have hRs : R.size ≤ Y.size := by rw [hR, ext_size _ _ _ hte (Nat.le_refl _)]; omega
    have hRe := hR.symm
    have hn0' : ((tokN Y.data.toList : Int) == 0) = false := by rw [Bool.eq_false_iff]; intro h9; rw [beq_iff_eq] at h9; omega
    obtain ⟨N, hN⟩ : ∃ N, N = Y.extract 0 (tokN Y.data.toList) := ⟨_, rfl⟩
    have hNe := hN.symm
    generalize tokN Y.data.toList = m at hte hRe hn0' hNe hn0
    clear H hnn hR hN
    have L9 := allocW L (.cells #[.string N, .string ⟨#[]⟩] 140)
    have ho9 := ho.alloc (.cells #[.string N, .string ⟨#[]⟩] 140)
    have B9 : Blk (wr.alloc (.cells #[.string N, .string ⟨#[]⟩] 140)) wr.heap.size 140 #[.string N, .string ⟨#[]⟩] := Blk.new' _ _ rfl _ _
    obtain ⟨j0, j1, i0, i1⟩ := B9.c2
    rcases Nat.eq_zero_or_pos R.size with h0 | hRp
    · have hPs : parS (trimF T.data.toList) = some R.data.toList := by rw [HP.out, List.eq_nil_of_length_eq_zero (by rw [len_data]; exact h0 : R.data.toList.length = 0)]; rfl
      have HR := Lib.hid (HG.out _ hPs)
      obtain rfl := empty_size h0
      clear hPs
      go_wp2_with (at_builtin; refine wp_appQ rfl _ _ rfl w.heap.size (.slice A n c) n rfl ho9 _ (by simp) N ⟨#[]⟩ rfl (by omega) L9.size ?_; intro v' w9 ho10 hx)
      go_roundw
      case rel => exact ⟨⟨#[]⟩, n + 1, rfl, by show 0 ≤ _; omega, by omega, ho10, L9.trans hx, HR⟩
      case measure => simp; show 0 < _; omega
    have hRne := ne_isEmpty hRp
    obtain ⟨b, hb, hbt⟩ := drop_bt R 0 hRp
    rw [List.drop_zero] at hb
    have hbs := PlainAid.get_bt R
    by_cases h61 : b = 61
    rotate_left
    · have hPs : parS (trimF T.data.toList) = some R.data.toList := by rw [HP.out, hb, parV, if_neg h61]
      have HR := Lib.hid (HG.out _ hPs)
      have c1 := u8ne' h61 (n := 61) rfl
      clear hPs hb h61
      go_wp2_with (at_builtin; refine wp_appQ rfl _ _ rfl w.heap.size (.slice A n c) n rfl ho9 _ (by simp) N ⟨#[]⟩ rfl (by omega) L9.size ?_; intro v' w9 ho10 hx)
      go_roundw
      case rel => exact ⟨R, n + 1, rfl, by omega, by omega, ho10, L9.trans hx, HR⟩
      case measure => simp; omega
    subst h61
    obtain ⟨Z, hZ⟩ : ∃ Z, Z = R.extract 1 R.size := ⟨_, rfl⟩
    have hZl : R.data.toList = 61 :: Z.data.toList := by rw [hZ, ext_from]; exact hb
    have hZs : Z.size < R.size := by rw [hZ, ext_size _ _ _ hRp (Nat.le_refl _)]; omega
    have HQ := Lib.hid (HP.out.trans (congrArg parV hZl))
    have hZe := hZ.symm
    have hte2 := tokN_le Z.data.toList
    rw [len_data] at hte2
    clear hb hZ hZl
    go_wp2_with fail
    obtain ⟨V, hV⟩ : ∃ V, V = wr.alloc (.cells #[.string N, .string ⟨#[]⟩] 140) := ⟨_, rfl⟩
    rw [← hV] at L9 ho9 B9 ⊢
    clear hV j0 j1 i0 i1 hRne hbs hbt
    obtain ⟨j0, j1, i0, i1⟩ := B9.c2
    have hgl : wr.heap.size < V.heap.size := B9.lt
    refine (ref9_token Z V (by omega)).mono ?_
    rintro e w2 ⟨rfl, rfl⟩
    obtain ⟨Z0, hZ0⟩ : ∃ Z0, Z0 = Z.extract 0 (tokN Z.data.toList) := ⟨_, rfl⟩
    have hZ0e := hZ0.symm
    have hofar : ∀ u, OPq (V.setCell ⟨wr.heap.size, 1, none⟩ u) w.heap.size (.slice A n c) n := fun u => ho9.far (p := ⟨wr.heap.size, 1, none⟩) (fun k hk e => by have := ho.lt hk; rw [e] at this; exact absurd this (Nat.lt_irrefl _)) u
    have L9s : ∀ u, Below w.heap.size w (V.setCell ⟨wr.heap.size, 1, none⟩ u) := fun u => setW L9 (p := ⟨wr.heap.size, 1, none⟩) hS u
    have hLs : ∀ u, w.heap.size ≤ (V.setCell ⟨wr.heap.size, 1, none⟩ u).heap.size := fun u => (L9s u).size
    by_cases hm0 : tokN Z.data.toList = 0
    rotate_left
    · have HR := Lib.hid (HG.out _ (HQ.out.trans (parV_tok _ _ rfl hm0)))
      have hm0' : ((tokN Z.data.toList : Int) == 0) = false := by rw [Bool.eq_false_iff]; intro h9; rw [beq_iff_eq] at h9; omega
      generalize tokN Z.data.toList = m2 at hte2 hm0' hZ0e hm0 HR ⊢
      clear hZ0 HQ
      go_wp2_with (at_builtin; refine wp_appQ rfl _ _ rfl w.heap.size (.slice A n c) n rfl (hofar _) _ (by simp [World.setCell]) N Z0 rfl (by omega) (hLs _) ?_; intro v' w9 ho10 hx)
      go_roundw
      case rel => exact ⟨Z.extract m2 Z.size, n + 1, rfl, by rw [ext_size _ _ _ hte2 (Nat.le_refl _)]; omega, by omega, ho10, (L9s _).trans hx, by rw [ext_from]; exact HR⟩
      case measure => simp; omega
    have HQ2 := Lib.hid (parV_quo Z.data.toList _ hm0 rfl)
    rw [hm0] at hZ0e hte2 ⊢
    clear hZ0 hm0
    go_wp2_with fail
    have B10 := B9.set_ 1 (.string ByteArray.empty)
    have ho10 := hofar (.string ByteArray.empty)
    have L10 := L9s (.string ByteArray.empty)
    obtain ⟨V2, hV2⟩ : ∃ V2, V2 = V.setCell ⟨wr.heap.size, 1, none⟩ (.string ByteArray.empty) := ⟨_, rfl⟩
    rw [← hV2] at B10 ho10 L10 ⊢
    clear hV2 hofar L9s hLs B9 L9 ho9 j0 j1 i0 i1
    refine (ref9_Quoted Z V2 (by omega)).mono ?_
    rintro e w3 ⟨⟨x, rfl⟩, L11⟩
    have B11 := B10.belowW L11
    have ho11 := ho10.belowW L11
    have L12 := stepW L10 L11
    obtain ⟨j0, j1, i0, i1⟩ := B11.c2
    have hq := quoN_le Z.data.toList
    rw [len_data] at hq
    have hofar : ∀ u, OPq (w3.setCell ⟨wr.heap.size, 1, none⟩ u) w.heap.size (.slice A n c) n := fun u => ho11.far (p := ⟨wr.heap.size, 1, none⟩) (fun k hk e => by have := ho.lt hk; rw [e] at this; exact absurd this (Nat.lt_irrefl _)) u
    have L9s : ∀ u, Below w.heap.size w (w3.setCell ⟨wr.heap.size, 1, none⟩ u) := fun u => setW L12 (p := ⟨wr.heap.size, 1, none⟩) hS u
    have hLs : ∀ u, w.heap.size ≤ (w3.setCell ⟨wr.heap.size, 1, none⟩ u).heap.size := fun u => (L9s u).size
    clear B10 ho10 L10 L11
    by_cases hq0 : quoN Z.data.toList = 0
    · have HR := Lib.hid (HB.out (HQ.out.trans (HQ2.out.trans (if_pos hq0))))
      rw [hq0]
      clear HQ HQ2 hq0 hq
      go_wp2
      go_ret2
      exact ⟨⟨_, by rw [HR.out]; rfl⟩, L9s _⟩
    · have HR := Lib.hid (HG.out _ (HQ.out.trans (HQ2.out.trans (if_neg hq0))))
      have hm0' : ((quoN Z.data.toList : Int) == 0) = false := by rw [Bool.eq_false_iff]; intro h9; rw [beq_iff_eq] at h9; omega
      generalize quoN Z.data.toList = m2 at hq hm0' hq0 HR ⊢
      clear HQ HQ2
      go_wp2_with (at_builtin; refine wp_appQ rfl _ _ rfl w.heap.size (.slice A n c) n rfl (hofar _) _ (by simp [World.setCell]) N x rfl (by omega) (hLs _) ?_; intro v' w9 ho10 hx)
      go_roundw
      case rel => exact ⟨Z.extract m2 Z.size, n + 1, rfl, by rw [ext_size _ _ _ hq (Nat.le_refl _)]; omega, by omega, ho10, (L9s _).trans hx, by rw [ext_from]; exact HR⟩
      case measure => simp; omega
end Go.Proofs.YtfapnppgbhlidaaGreatDoor

/- usherref9: blanks, token, Quoted, Params. usherref9.Params. -/
import Derived.Test.YtlambdccmfnloaaGreatDoorFPl
import Derived.Test.YtlambdccmfnloaaGreatDoorPlain
import Derived.Test.YtlambdccmfnloaaGreatDoorLst
namespace Go.Proofs.YtlambdccmfnloaaGreatDoor
open Go.RowKit
set_option maxRecDepth 100000
set_option maxHeartbeats 2000000

def blaN (l : Bs) : Nat := (l.takeWhile isB).length
theorem blaN_cons (b : UInt8) (r : Bs) : blaN (b :: r) = if isB b then blaN r + 1 else 0 := by
  unfold blaN
  rw [List.takeWhile_cons]
  split <;> simp
theorem blaN_drop : ∀ l : Bs, l.drop (blaN l) = trimF l
  | [] => rfl
  | b :: l => by
    rw [blaN_cons, trimF, List.dropWhile_cons]
    split
    · rw [List.drop_succ_cons]; exact blaN_drop l
    · rfl
theorem blaN_le (l : Bs) : blaN l ≤ l.length := (List.takeWhile_sublist _).length_le
theorem isB_cases (b : UInt8) : (isB b = false ∧ ((b.toNat : Int) == 9) = false ∧ ((b.toNat : Int) == 32) = false) ∨ (isB b = true ∧ ((b.toNat : Int) == 9) = true) ∨ (isB b = true ∧ ((b.toNat : Int) == 9) = false ∧ ((b.toNat : Int) == 32) = true) := by
  rw [isB_num]
  cases ((b.toNat : Int) == 9) <;> cases ((b.toNat : Int) == 32) <;> simp
theorem ref9_blanks (s : ByteArray) (w : World) (hs : s.size ≤ 1000000) :
    Calls Tryz.prog 288 #[.string s] w fun e w' => e = .returned (.int .i64 (blaN s.data.toList : Int)) ∧ w = w' := by
  go_enter Tryz.func288, Tryz.ntmps288
  go_wp2
  go_loop [3] (fun i => ∃ k : Nat, k ≤ s.size ∧ i = .int .i64 k ∧ Hid (blaN s.data.toList = k + blaN (s.data.toList.drop k))) (fun i => s.size - (intOf i).toNat)
  case atStart => exact ⟨0, Nat.zero_le _, rfl, Lib.hid (by simp)⟩
  case round =>
    obtain ⟨k, hk, rfl, H⟩ := hrel
    by_cases hlt : k < s.size
    · obtain ⟨b, hb, hbt⟩ := drop_bt s k hlt
      have hbs := PlainAid.get_bt s
      rcases isB_cases b with ⟨h1, c1, c2⟩ | ⟨h1, c1⟩ | ⟨h1, c1, c2⟩
      · have HR := Lib.hid (show blaN s.data.toList = k by rw [H.out, hb, blaN_cons, h1]; rfl)
        clear hb H h1
        go_wp2
        go_ret
        exact ⟨retI (by rw [HR.out]), rfl⟩
      all_goals
        have HR := Lib.hid (show blaN s.data.toList = (k + 1) + blaN (s.data.toList.drop (k + 1)) by rw [H.out, hb, blaN_cons, h1]; simp; omega)
        clear hb H h1
        go_wp2
        go_round
        case rel => exact ⟨k + 1, by omega, by go_num, HR⟩
        case measure => simp [intOf]; omega
    · have HR := Lib.hid (show blaN s.data.toList = k by rw [H.out, drop_end s k (by omega)]; rfl)
      clear H
      go_wp2
      go_ret
      exact ⟨retI (by rw [HR.out]), rfl⟩
theorem ref9_token (s : ByteArray) (w : World) (hs : s.size ≤ 1000000) :
    Calls Tryz.prog 289 #[.string s] w fun e w' => e = .returned (.int .i64 (tokN s.data.toList : Int)) ∧ w = w' := by
  go_enter Tryz.func289, Tryz.ntmps289
  go_wp2
  go_loop [3] (fun i => ∃ k : Nat, k ≤ s.size ∧ i = .int .i64 k ∧ Hid (tokN s.data.toList = k + tokN (s.data.toList.drop k))) (fun i => s.size - (intOf i).toNat)
  case atStart => exact ⟨0, Nat.zero_le _, rfl, Lib.hid (by simp)⟩
  case round =>
    obtain ⟨k, hk, rfl, H⟩ := hrel
    by_cases hlt : k < s.size
    · obtain ⟨b, hb, hbt⟩ := drop_bt s k hlt
      have hbs := PlainAid.get_bt s
      have hb8 := u8lt b
      cases ht : tokB b.toNat
      · have HR := Lib.hid (show tokN s.data.toList = k by rw [H.out, hb, tokN_cons, ht]; rfl)
        clear hb H
        go_wp2_with fail
        refine (ref_TokenByte _ w (by omega) hb8).mono ?_
        rw [ht]
        rintro e w' ⟨rfl, rfl⟩
        go_wp2
        go_ret
        exact ⟨retI (by rw [HR.out]), rfl⟩
      · have HR := Lib.hid (show tokN s.data.toList = (k + 1) + tokN (s.data.toList.drop (k + 1)) by rw [H.out, hb, tokN_cons, ht]; simp; omega)
        clear hb H
        go_wp2_with fail
        refine (ref_TokenByte _ w (by omega) hb8).mono ?_
        rw [ht]
        rintro e w' ⟨rfl, rfl⟩
        go_wp2_with fail
        go_round
        case rel => exact ⟨k + 1, by omega, by go_num, HR⟩
        case measure => simp [intOf]; omega
    · have HR := Lib.hid (show tokN s.data.toList = k by rw [H.out, drop_end s k (by omega)]; rfl)
      clear H
      go_wp2
      go_ret
      exact ⟨retI (by rw [HR.out]), rfl⟩
theorem ref9_Quoted_no (s : ByteArray) (w : World) (h : s.data.toList = [] ∨ ∃ b r, s.data.toList = b :: r ∧ b ≠ 34) :
    Calls Tryz.prog 290 #[.string s] w (QuoPost w (quoN s.data.toList)) := by
  rcases h with h | ⟨b, r, h, hb⟩
  · obtain rfl : s = ⟨#[]⟩ := str_ext h
    go_enter Tryz.func290, Tryz.ntmps290
    go_wp2
    go_ret2
    exact ⟨⟨_, rfl⟩, Below.refl _ _⟩
  · have hp : 0 < s.size := by rw [← len_data, h]; simp
    have HR := Lib.hid (show quoN s.data.toList = 0 by rw [h, quoN, if_neg hb])
    obtain ⟨c, hc, hbt⟩ := drop_bt s 0 hp
    rw [List.drop_zero, h] at hc
    obtain rfl : b = c := (List.cons.inj hc).1
    have hne := ne_isEmpty hp
    have hbs := PlainAid.get_bt s
    have h34 := u8ne' hb (n := 34) rfl
    have h34n : ((b.toNat : Int) != 34) = true := by rw [bne, h34]; rfl
    have hz : ((s.size : Int) == 0) = false := by rw [Bool.eq_false_iff]; intro h0; rw [beq_iff_eq] at h0; omega
    clear h hc
    go_enter Tryz.func290, Tryz.ntmps290
    go_wp2
    go_ret2
    exact ⟨⟨_, by rw [HR.out]; rfl⟩, Below.refl _ _⟩
theorem ref9_Quoted (s : ByteArray) (w : World) (hs : s.size ≤ 1000000) :
    Calls Tryz.prog 290 #[.string s] w (QuoPost w (quoN s.data.toList)) := by
  rcases Nat.eq_zero_or_pos s.size with h0 | hp
  · exact ref9_Quoted_no s w (.inl (List.eq_nil_of_length_eq_zero (by rw [len_data]; exact h0)))
  obtain ⟨b0, hb0, hbt0⟩ := drop_bt s 0 hp
  rw [List.drop_zero] at hb0
  by_cases h34 : b0 = 34
  rotate_left
  · exact ref9_Quoted_no s w (.inr ⟨b0, _, hb0, h34⟩)
  have HQ := Lib.hid (show quoN s.data.toList = quoA s.data.toList 1 by rw [hb0]; exact quoN_of _ _ h34)
  subst h34
  clear hb0
  have hne := ne_isEmpty hp
  have hz : ((s.size : Int) == 0) = false := by rw [Bool.eq_false_iff]; intro h0; rw [beq_iff_eq] at h0; omega
  have hbs := PlainAid.get_bt s
  go_enter Tryz.func290, Tryz.ntmps290
  go_wp2
  clear hbt0 hne hz
  go_loopw [4, 5] (fun v i wr => ∃ (k : Nat) (l : Bs), 1 ≤ k ∧ k ≤ s.size ∧ i = .int .i64 k ∧ l.length ≤ k ∧ OB wr w.heap.size v l ∧ Below w.heap.size w wr ∧ Hid (quoN s.data.toList = quoA s.data.toList k)) (fun _ i _ => s.size - (intOf i).toNat)
  case atStart => exact ⟨1, [], Nat.le_refl _, hp, rfl, by simp, OB.nil _ _, Below.refl _ _, HQ⟩
  case round =>
    obtain ⟨k, l, hk1, hk, rfl, hl, ho, L, H⟩ := hrel
    have hS := L.size
    by_cases hlt : k < s.size
    · obtain ⟨b, hb, hbt⟩ := drop_bt s k hlt
      by_cases h1 : b = 34
      · subst h1
        have HR := Lib.hid (H.out.trans (quoA_q _ _ k hb))
        clear hb H
        go_wp2_with (refine wp_strOB rfl _ rfl _ _ _ rfl ho ?_)
        go_ret2
        exact ⟨⟨_, by rw [HR.out]; rfl⟩, L⟩
      have c1 := u8ne' h1 (n := 34) rfl
      by_cases h2 : b = 92
      · subst h2
        by_cases hlt2 : k + 1 < s.size
        · obtain ⟨d, hd, hdt⟩ := drop_bt s (k + 1) hlt2
          cases hv : valueB d.toNat
          · have HR := Lib.hid (show quoN s.data.toList = 0 by rw [H.out, quoA_s _ k d hb hd, hv]; rfl)
            clear hb hd H
            go_wp2_with fail
            refine (ref_ValueByte _ wr (by omega) (u8lt d)).mono ?_
            rw [hv]
            rintro e w1 ⟨rfl, rfl⟩
            go_wp2
            go_ret2
            exact ⟨⟨_, by rw [HR.out]; rfl⟩, L⟩
          · have HR := Lib.hid (show quoN s.data.toList = quoA s.data.toList (k + 2) by rw [H.out, quoA_s _ k d hb hd, hv]; rfl)
            clear hb hd H
            go_wp2_with fail
            refine (ref_ValueByte _ wr (by omega) (u8lt d)).mono ?_
            rw [hv]
            rintro e w1 ⟨rfl, rfl⟩
            have ho1 := ho
            have L1 := L
            go_wp2_with (at_builtin; refine wp_app1 rfl _ _ rfl w.heap.size _ _ rfl ho1 _ rfl _ rfl d rfl (by omega) L1.size ?_; intro v' w2 ho2 hx)
            go_roundw
            case rel => exact ⟨k + 2, _, by omega, by omega, by go_num, by simp; omega, ho2, L1.trans (hx.below ho1 (Nat.le_refl _) L1.size), HR⟩
            case measure => simp [intOf]; omega
        · have HR := Lib.hid (show quoN s.data.toList = 0 by rw [H.out, quoA_e _ k (by rw [hb, drop_end s (k + 1) (by omega)])])
          have hke : k + 1 = s.size := by omega
          clear hb H
          go_wp2
          go_ret2
          exact ⟨⟨_, by rw [HR.out]; rfl⟩, L⟩
      · have c2 := u8ne' h2 (n := 92) rfl
        cases hv : valueB b.toNat
        · have HR := Lib.hid (show quoN s.data.toList = 0 by rw [H.out, quoA_v _ k b hb h1 h2, hv]; rfl)
          clear hb H
          go_wp2_with fail
          refine (ref_ValueByte _ wr (by omega) (u8lt b)).mono ?_
          rw [hv]
          rintro e w1 ⟨rfl, rfl⟩
          go_wp2
          go_ret2
          exact ⟨⟨_, by rw [HR.out]; rfl⟩, L⟩
        · have HR := Lib.hid (show quoN s.data.toList = quoA s.data.toList (k + 1) by rw [H.out, quoA_v _ k b hb h1 h2, hv]; rfl)
          clear hb H
          go_wp2_with fail
          refine (ref_ValueByte _ wr (by omega) (u8lt b)).mono ?_
          rw [hv]
          rintro e w1 ⟨rfl, rfl⟩
          have ho1 := ho
          have L1 := L
          go_wp2_with (at_builtin; refine wp_app1 rfl _ _ rfl w.heap.size _ _ rfl ho1 _ rfl _ rfl b rfl (by omega) L1.size ?_; intro v' w2 ho2 hx)
          go_roundw
          case rel => exact ⟨k + 1, _, by omega, by omega, by go_num, by simp; omega, ho2, L1.trans (hx.below ho1 (Nat.le_refl _) L1.size), HR⟩
          case measure => simp [intOf]; omega
    · have HR := Lib.hid (show quoN s.data.toList = 0 by rw [H.out, quoA_nil _ k (drop_end s k (by omega))])
      clear H
      go_wp2
      go_ret2
      exact ⟨⟨_, by rw [HR.out]; rfl⟩, L⟩
end Go.Proofs.YtlambdccmfnloaaGreatDoor
namespace Go.Proofs.YtlambdccmfnloaaGreatDoor
open Go.RowKit
set_option maxRecDepth 100000
set_option maxHeartbeats 4000000

theorem info_par9 : (Tryz.prog.info? 282).map (fun i => (i.zero, i.size, i.bytes)) = some (some (.agg #[.string ⟨#[]⟩, .string ⟨#[]⟩]), 2, 32) := by kernel_rfl
/-- A row of so many parameters that the call owns. -/
def OPq (w : World) (base : Nat) (v : Value) (n : Nat) : Prop := ∃ xs, Own w base 282 2 v n xs
theorem OPq.nil (w : World) (base : Nat) : OPq w base (.slice none 0 0) 0 := ⟨[], Own.nil w base _ 2⟩
theorem OPq.belowW {w w' : World} {base : Nat} {v : Value} {n : Nat} (h : OPq w base v n) (hb : Below w.heap.size w w') : OPq w' base v n := by
  obtain ⟨xs, h⟩ := h
  exact ⟨xs, h.belowW hb⟩
theorem OPq.alloc {w : World} {base : Nat} {v : Value} {n : Nat} (h : OPq w base v n) (o : Obj) : OPq (w.alloc o) base v n := by
  obtain ⟨xs, h⟩ := h
  exact ⟨xs, h.alloc o⟩
theorem OPq.form {w : World} {base : Nat} {v : Value} {n : Nat} (h : OPq w base v n) : ∃ A c, v = .slice A n c := by
  obtain ⟨xs, h⟩ := h
  obtain ⟨A, c, e, _⟩ := h.rd
  exact ⟨A, c, e⟩
theorem wp_appQ {ops : Array Oper} {rest : List Oper} {o : Oper} {a : Act} {Q : Exit → Act → World → Prop} {w0 : World} (hgd : o.guard = none) (s x : Operand)
    (ho : o.op = .call { callee := .builtin .append, args := #[s, x], argTypes := #[270, 270] })
    (base : Nat) (v : Value) (n : Nat) (hs : a.eval s = v) (hown : OPq w0 base v n) (g : Nat) (hg : g = w0.heap.size) (p q : ByteArray) (hx : a.eval x = .slice (some ⟨g, 0, none⟩) 1 1)
    (hlen : n + 1 ≤ 1000000) (hbase : base ≤ w0.heap.size)
    (h : ∀ v' w', OPq w' base v' (n + 1) → Below base w0 w' → wpList Tryz.prog ops Q rest (a.put o.dst v') w') : wpList Tryz.prog ops Q (o :: rest) a (w0.alloc (.cells #[.string p, .string q] 282)) := by
  obtain ⟨i0, hi, hz0, hz1, hz2⟩ := info_parts info_par9
  subst hg
  obtain ⟨xs, hown⟩ := hown
  refine wpList_append_Own _ hgd s x 270 270 ho base 282 i0 _ 2 32 Tryz.underlying270 (.inl Tryz.underlying270) hi hz0 hz1 hz2 rfl (by decide) v n _ hs (hown.alloc _) _ 1 [.string p, .string q] hx (Src.of_rd (Rd.new w0 _ rfl [.string p, .string q] _ 1 2 rfl) (by intro u hu; simp at hu; rcases hu with rfl | rfl <;> rfl)) (by unfold maxLen; omega) (by omega) (Nat.le_trans hbase (by simp)) ?_
  intro v' w' ho' hg' ha
  exact h v' w' ⟨_, ho'⟩ (((Below.refl base w0).alloc hbase _).grown hg' (Nat.le_trans hbase (by simp)) fun k hk => (hown.lt k hk).1)
theorem OPq.far {w : World} {base : Nat} {v : Value} {n : Nat} (h : OPq w base v n) {p : Addr} (hp : ∀ k, v.ownBlock = some k → k ≠ p.block) (u : Value) : OPq (w.setCell p u) base v n := by
  obtain ⟨xs, h⟩ := h
  exact ⟨xs, h.far hp u⟩
theorem OPq.lt {w : World} {base : Nat} {v : Value} {n : Nat} (h : OPq w base v n) {k : Nat} (hk : v.ownBlock = some k) : k < w.heap.size := by
  obtain ⟨xs, h⟩ := h
  exact (h.lt k hk).2
theorem quo_tok0 (s : Bs) (h : tokN s ≠ 0) : quoN s = 0 := by
  cases s with
  | nil => rfl
  | cons c r =>
    rw [quoN]
    split
    · rename_i hc
      subst hc
      rw [tokN_cons, show tokB ((34 : UInt8).toNat : Int) = false by decide] at h
      exact absurd rfl h
    · rfl
theorem parV_tok (s : Bs) (n : Nat) (h : tokN s = n) (hn : n ≠ 0) : parV (61 :: s) = some (s.drop n) := by
  subst h
  rw [parV, if_pos rfl, if_pos (quo_tok0 s hn), if_neg hn]
theorem parV_quo (s : Bs) (n : Nat) (h0 : tokN s = 0) (h : quoN s = n) : parV (61 :: s) = if n = 0 then none else some (s.drop n) := by
  subst h
  rw [parV, if_pos rfl, if_pos h0]
theorem ref9_Params (s : ByteArray) (w : World) (hs : s.size ≤ 1000000) :
    Calls Tryz.prog 279 #[.string s] w (PrmPost w (parOk s.data.toList)) := by
  go_enter Tryz.func279, Tryz.ntmps279
  go_wp2
  go_loopw [4, 0] (fun v t wr => ∃ (T : ByteArray) (n : Nat), t = .string T ∧ T.size ≤ s.size ∧ n ≤ 16 ∧ OPq wr w.heap.size v n ∧ Below w.heap.size w wr ∧ Hid (parOk s.data.toList = parG T.data.toList n)) (fun _ t _ => match t with | .string T => T.size | _ => 0)
  case atStart => exact ⟨s, 0, rfl, Nat.le_refl _, by omega, OPq.nil _ _, Below.refl _ _, Lib.hid rfl⟩
  case round =>
    obtain ⟨T, n, rfl, hT, hn, ho, L, H⟩ := hrel
    have hS := L.size
    obtain ⟨A, c, rfl⟩ := ho.form
    have hbl := blaN_le T.data.toList
    rw [len_data] at hbl
    go_wp2_with fail
    refine (ref9_blanks T wr (by omega)).mono ?_
    rintro e w1 ⟨rfl, rfl⟩
    obtain ⟨X, hX⟩ : ∃ X, X = T.extract (blaN T.data.toList) T.size := ⟨_, rfl⟩
    have hXl : X.data.toList = trimF T.data.toList := by rw [hX, ext_from, blaN_drop]
    have hXs : X.size ≤ T.size := by rw [hX, ext_size _ _ _ hbl (Nat.le_refl _)]; omega
    have hXe := hX.symm
    have HX := Lib.hid hXl
    generalize blaN T.data.toList = k at hbl hXe
    clear hX hXl
    rcases Nat.eq_zero_or_pos X.size with h0 | hp
    · have HR := Lib.hid (H.out.trans (parG_end _ n (by rw [← HX.out]; exact List.eq_nil_of_length_eq_zero (by rw [len_data]; exact h0))))
      obtain rfl := empty_size h0
      clear H
      go_wp2
      go_ret2
      exact ⟨⟨_, by rw [HR.out]; rfl⟩, L⟩
    have hne := ne_isEmpty hp
    have hnn : trimF T.data.toList ≠ [] := by rw [← HX.out]; intro h; rw [← len_data, h] at hp; simp at hp
    obtain ⟨b, hb, hbt⟩ := drop_bt X 0 hp
    rw [List.drop_zero] at hb
    have hbs := PlainAid.get_bt X
    by_cases h59 : b = 59
    rotate_left
    · have HR := Lib.hid (H.out.trans (parG_bad _ n hnn (by rw [← HX.out]; exact par_no _ (.inr ⟨b, _, hb, h59⟩))))
      have c1 := u8ne' h59 (n := 59) rfl
      clear H hb h59 hnn
      go_wp2
      go_ret2
      exact ⟨⟨_, by rw [HR.out]; rfl⟩, L⟩
    subst h59
    by_cases h16 : n = 16
    · have HR := Lib.hid (H.out.trans (parG_not _ n hnn h16))
      subst h16
      clear H hb hnn
      go_wp2
      go_ret2
      exact ⟨⟨_, by rw [HR.out]; rfl⟩, L⟩
    have h16e : ((n : Int) == 16) = false := by rw [Bool.eq_false_iff]; intro h9; rw [beq_iff_eq] at h9; omega
    obtain ⟨Y0, hY0⟩ : ∃ Y, Y = X.extract 1 X.size := ⟨_, rfl⟩
    have hY0l : X.data.toList = 59 :: Y0.data.toList := by rw [hY0, ext_from]; exact hb
    have hY0s : Y0.size < X.size := by rw [hY0, ext_size _ _ _ hp (Nat.le_refl _)]; omega
    have hY0e := hY0.symm
    have HY0 := Lib.hid hY0l
    have hbl2 := blaN_le Y0.data.toList
    rw [len_data] at hbl2
    clear hb hY0 hY0l
    go_wp2_with fail
    refine (ref9_blanks Y0 wr (by omega)).mono ?_
    rintro e w2 ⟨rfl, rfl⟩
    obtain ⟨Y, hY⟩ : ∃ Y, Y = Y0.extract (blaN Y0.data.toList) Y0.size := ⟨_, rfl⟩
    have HY := Lib.hid (show Y.data.toList = trimF Y0.data.toList by rw [hY, ext_from, blaN_drop])
    have hYs : Y.size ≤ Y0.size := by rw [hY, ext_size _ _ _ hbl2 (Nat.le_refl _)]; omega
    have hYe := hY.symm
    generalize blaN Y0.data.toList = k2 at hbl2 hYe
    clear hY hne hbs hbt
    have hte := tokN_le Y.data.toList
    rw [len_data] at hte
    go_wp2_with fail
    refine (ref9_token Y wr (by omega)).mono ?_
    rintro e w2 ⟨rfl, rfl⟩
    by_cases hn0 : tokN Y.data.toList = 0
    · have HR := Lib.hid (H.out.trans (parG_bad _ n hnn (by rw [← HX.out]; exact par_no_name _ _ _ HY0.out HY.out hn0)))
      clear H hnn
      rw [hn0]
      clear hn0 hte
      go_wp2
      go_ret2
      exact ⟨⟨_, by rw [HR.out]; rfl⟩, L⟩
    obtain ⟨R, hR⟩ : ∃ R, R = Y.extract (tokN Y.data.toList) Y.size := ⟨_, rfl⟩
    have HP := Lib.hid (show parS (trimF T.data.toList) = parV R.data.toList by rw [← HX.out]; exact par_name _ _ _ R.data.toList HY0.out HY.out hn0 (by rw [hR, ext_from]))
    have HG := Lib.hid (fun r hr => H.out.trans (parG_one _ r n hnn hr h16))
    have HB := Lib.hid (fun hr => H.out.trans (parG_bad _ n hnn hr))
    have hRs : R.size ≤ Y.size := by rw [hR, ext_size _ _ _ hte (Nat.le_refl _)]; omega
    have hRe := hR.symm
    have hn0' : ((tokN Y.data.toList : Int) == 0) = false := by rw [Bool.eq_false_iff]; intro h9; rw [beq_iff_eq] at h9; omega
    obtain ⟨N, hN⟩ : ∃ N, N = Y.extract 0 (tokN Y.data.toList) := ⟨_, rfl⟩
    have hNe := hN.symm
    generalize tokN Y.data.toList = m at hte hRe hn0' hNe hn0
    clear H hnn hR hN
    have L9 := allocW L (.cells #[.string N, .string ⟨#[]⟩] 282)
    have ho9 := ho.alloc (.cells #[.string N, .string ⟨#[]⟩] 282)
    have B9 : Blk (wr.alloc (.cells #[.string N, .string ⟨#[]⟩] 282)) wr.heap.size 282 #[.string N, .string ⟨#[]⟩] := Blk.new' _ _ rfl _ _
    obtain ⟨j0, j1, i0, i1⟩ := B9.c2
    rcases Nat.eq_zero_or_pos R.size with h0 | hRp
    · have hPs : parS (trimF T.data.toList) = some R.data.toList := by rw [HP.out, List.eq_nil_of_length_eq_zero (by rw [len_data]; exact h0 : R.data.toList.length = 0)]; rfl
      have HR := Lib.hid (HG.out _ hPs)
      obtain rfl := empty_size h0
      clear hPs
      go_wp2_with (at_builtin; refine wp_appQ rfl _ _ rfl w.heap.size (.slice A n c) n rfl ho9 _ (by simp) N ⟨#[]⟩ rfl (by omega) L9.size ?_; intro v' w9 ho10 hx)
      go_roundw
      case rel => exact ⟨⟨#[]⟩, n + 1, rfl, by show 0 ≤ _; omega, by omega, ho10, L9.trans hx, HR⟩
      case measure => simp; show 0 < _; omega
    have hRne := ne_isEmpty hRp
    obtain ⟨b, hb, hbt⟩ := drop_bt R 0 hRp
    rw [List.drop_zero] at hb
    have hbs := PlainAid.get_bt R
    by_cases h61 : b = 61
    rotate_left
    · have hPs : parS (trimF T.data.toList) = some R.data.toList := by rw [HP.out, hb, parV, if_neg h61]
      have HR := Lib.hid (HG.out _ hPs)
      have c1 := u8ne' h61 (n := 61) rfl
      clear hPs hb h61
      go_wp2_with (at_builtin; refine wp_appQ rfl _ _ rfl w.heap.size (.slice A n c) n rfl ho9 _ (by simp) N ⟨#[]⟩ rfl (by omega) L9.size ?_; intro v' w9 ho10 hx)
      go_roundw
      case rel => exact ⟨R, n + 1, rfl, by omega, by omega, ho10, L9.trans hx, HR⟩
      case measure => simp; omega
    subst h61
    obtain ⟨Z, hZ⟩ : ∃ Z, Z = R.extract 1 R.size := ⟨_, rfl⟩
    have hZl : R.data.toList = 61 :: Z.data.toList := by rw [hZ, ext_from]; exact hb
    have hZs : Z.size < R.size := by rw [hZ, ext_size _ _ _ hRp (Nat.le_refl _)]; omega
    have HQ := Lib.hid (HP.out.trans (congrArg parV hZl))
    have hZe := hZ.symm
    have hte2 := tokN_le Z.data.toList
    rw [len_data] at hte2
    clear hb hZ hZl
    go_wp2_with fail
    obtain ⟨V, hV⟩ : ∃ V, V = wr.alloc (.cells #[.string N, .string ⟨#[]⟩] 282) := ⟨_, rfl⟩
    rw [← hV] at L9 ho9 B9 ⊢
    clear hV j0 j1 i0 i1 hRne hbs hbt
    obtain ⟨j0, j1, i0, i1⟩ := B9.c2
    have hgl : wr.heap.size < V.heap.size := B9.lt
    refine (ref9_token Z V (by omega)).mono ?_
    rintro e w2 ⟨rfl, rfl⟩
    obtain ⟨Z0, hZ0⟩ : ∃ Z0, Z0 = Z.extract 0 (tokN Z.data.toList) := ⟨_, rfl⟩
    have hZ0e := hZ0.symm
    have hofar : ∀ u, OPq (V.setCell ⟨wr.heap.size, 1, none⟩ u) w.heap.size (.slice A n c) n := fun u => ho9.far (p := ⟨wr.heap.size, 1, none⟩) (fun k hk e => by have := ho.lt hk; rw [e] at this; exact absurd this (Nat.lt_irrefl _)) u
    have L9s : ∀ u, Below w.heap.size w (V.setCell ⟨wr.heap.size, 1, none⟩ u) := fun u => setW L9 (p := ⟨wr.heap.size, 1, none⟩) hS u
    have hLs : ∀ u, w.heap.size ≤ (V.setCell ⟨wr.heap.size, 1, none⟩ u).heap.size := fun u => (L9s u).size
    by_cases hm0 : tokN Z.data.toList = 0
    rotate_left
    · have HR := Lib.hid (HG.out _ (HQ.out.trans (parV_tok _ _ rfl hm0)))
      have hm0' : ((tokN Z.data.toList : Int) == 0) = false := by rw [Bool.eq_false_iff]; intro h9; rw [beq_iff_eq] at h9; omega
      generalize tokN Z.data.toList = m2 at hte2 hm0' hZ0e hm0 HR ⊢
      clear hZ0 HQ
      go_wp2_with (at_builtin; refine wp_appQ rfl _ _ rfl w.heap.size (.slice A n c) n rfl (hofar _) _ (by simp [World.setCell]) N Z0 rfl (by omega) (hLs _) ?_; intro v' w9 ho10 hx)
      go_roundw
      case rel => exact ⟨Z.extract m2 Z.size, n + 1, rfl, by rw [ext_size _ _ _ hte2 (Nat.le_refl _)]; omega, by omega, ho10, (L9s _).trans hx, by rw [ext_from]; exact HR⟩
      case measure => simp; omega
    have HQ2 := Lib.hid (parV_quo Z.data.toList _ hm0 rfl)
    rw [hm0] at hZ0e hte2 ⊢
    clear hZ0 hm0
    go_wp2_with fail
    have B10 := B9.set_ 1 (.string ByteArray.empty)
    have ho10 := hofar (.string ByteArray.empty)
    have L10 := L9s (.string ByteArray.empty)
    obtain ⟨V2, hV2⟩ : ∃ V2, V2 = V.setCell ⟨wr.heap.size, 1, none⟩ (.string ByteArray.empty) := ⟨_, rfl⟩
    rw [← hV2] at B10 ho10 L10 ⊢
    clear hV2 hofar L9s hLs B9 L9 ho9 j0 j1 i0 i1
    refine (ref9_Quoted Z V2 (by omega)).mono ?_
    rintro e w3 ⟨⟨x, rfl⟩, L11⟩
    have B11 := B10.belowW L11
    have ho11 := ho10.belowW L11
    have L12 := stepW L10 L11
    obtain ⟨j0, j1, i0, i1⟩ := B11.c2
    have hq := quoN_le Z.data.toList
    rw [len_data] at hq
    have hofar : ∀ u, OPq (w3.setCell ⟨wr.heap.size, 1, none⟩ u) w.heap.size (.slice A n c) n := fun u => ho11.far (p := ⟨wr.heap.size, 1, none⟩) (fun k hk e => by have := ho.lt hk; rw [e] at this; exact absurd this (Nat.lt_irrefl _)) u
    have L9s : ∀ u, Below w.heap.size w (w3.setCell ⟨wr.heap.size, 1, none⟩ u) := fun u => setW L12 (p := ⟨wr.heap.size, 1, none⟩) hS u
    have hLs : ∀ u, w.heap.size ≤ (w3.setCell ⟨wr.heap.size, 1, none⟩ u).heap.size := fun u => (L9s u).size
    clear B10 ho10 L10 L11
    by_cases hq0 : quoN Z.data.toList = 0
    · have HR := Lib.hid (HB.out (HQ.out.trans (HQ2.out.trans (if_pos hq0))))
      rw [hq0]
      clear HQ HQ2 hq0 hq
      go_wp2
      go_ret2
      exact ⟨⟨_, by rw [HR.out]; rfl⟩, L9s _⟩
    · have HR := Lib.hid (HG.out _ (HQ.out.trans (HQ2.out.trans (if_neg hq0))))
      have hm0' : ((quoN Z.data.toList : Int) == 0) = false := by rw [Bool.eq_false_iff]; intro h9; rw [beq_iff_eq] at h9; omega
      generalize quoN Z.data.toList = m2 at hq hm0' hq0 HR ⊢
      clear HQ HQ2
      go_wp2_with (at_builtin; refine wp_appQ rfl _ _ rfl w.heap.size (.slice A n c) n rfl (hofar _) _ (by simp [World.setCell]) N x rfl (by omega) (hLs _) ?_; intro v' w9 ho10 hx)
      go_roundw
      case rel => exact ⟨Z.extract m2 Z.size, n + 1, rfl, by rw [ext_size _ _ _ hq (Nat.le_refl _)]; omega, by omega, ho10, (L9s _).trans hx, by rw [ext_from]; exact HR⟩
      case measure => simp; omega
end Go.Proofs.YtlambdccmfnloaaGreatDoor

/- list: Params. -/
import Derived.Test.YtfapnppgbhlidaaGreatDoorLst2
namespace Go.Proofs.YtfapnppgbhlidaaGreatDoor
open Go.RowKit
set_option maxRecDepth 100000
set_option maxHeartbeats 2000000

theorem info_par : (Tryz.prog.info? 163).map (fun i => (i.zero, i.size, i.bytes)) = some (some (.agg #[.string ⟨#[]⟩, .string ⟨#[]⟩]), 2, 32) := by kernel_rfl
/-- A row of so many parameters that the call owns. -/
def OPr (w : World) (base : Nat) (v : Value) (n : Nat) : Prop := ∃ xs, Own w base 163 2 v n xs
theorem OPr.nil (w : World) (base : Nat) : OPr w base (.slice none 0 0) 0 := ⟨[], Own.nil w base _ 2⟩
theorem OPr.belowW {w w' : World} {base : Nat} {v : Value} {n : Nat} (h : OPr w base v n) (hb : Below w.heap.size w w') : OPr w' base v n := by
  obtain ⟨xs, h⟩ := h
  exact ⟨xs, h.belowW hb⟩
theorem OPr.alloc {w : World} {base : Nat} {v : Value} {n : Nat} (h : OPr w base v n) (o : Obj) : OPr (w.alloc o) base v n := by
  obtain ⟨xs, h⟩ := h
  exact ⟨xs, h.alloc o⟩
theorem OPr.form {w : World} {base : Nat} {v : Value} {n : Nat} (h : OPr w base v n) : ∃ A c, v = .slice A n c := by
  obtain ⟨xs, h⟩ := h
  obtain ⟨A, c, e, _⟩ := h.rd
  exact ⟨A, c, e⟩
theorem wp_appP {ops : Array Oper} {rest : List Oper} {o : Oper} {a : Act} {Q : Exit → Act → World → Prop} {w0 : World} (hgd : o.guard = none) (s x : Operand)
    (ho : o.op = .call { callee := .builtin .append, args := #[s, x], argTypes := #[137, 137] })
    (base : Nat) (v : Value) (n : Nat) (hs : a.eval s = v) (hown : OPr w0 base v n) (g : Nat) (hg : g = w0.heap.size) (p q : ByteArray) (hx : a.eval x = .slice (some ⟨g, 0, none⟩) 1 1)
    (hlen : n + 1 ≤ 1000000) (hbase : base ≤ w0.heap.size)
    (h : ∀ v' w', OPr w' base v' (n + 1) → Below base w0 w' → wpList Tryz.prog ops Q rest (a.put o.dst v') w') : wpList Tryz.prog ops Q (o :: rest) a (w0.alloc (.cells #[.string p, .string q] 163)) := by
  obtain ⟨i0, hi, hz0, hz1, hz2⟩ := info_parts info_par
  subst hg
  obtain ⟨xs, hown⟩ := hown
  refine wpList_append_Own _ hgd s x 137 137 ho base 163 i0 _ 2 32 Tryz.underlying137 (.inl Tryz.underlying137) hi hz0 hz1 hz2 rfl (by decide) v n _ hs (hown.alloc _) _ 1 [.string p, .string q] hx (Src.of_rd (Rd.new w0 _ rfl [.string p, .string q] _ 1 2 rfl) (by intro u hu; simp at hu; rcases hu with rfl | rfl <;> rfl)) (by unfold maxLen; omega) (by omega) (Nat.le_trans hbase (by simp)) ?_
  intro v' w' ho' hg' ha
  exact h v' w' ⟨_, ho'⟩ (((Below.refl base w0).alloc hbase _).grown hg' (Nat.le_trans hbase (by simp)) fun k hk => (hown.lt k hk).1)
def PrmPost (w : World) (b : Bool) (e : Ending) (w' : World) : Prop := (∃ v, e = .returned (.tuple #[v, .bool b])) ∧ Below w.heap.size w w'
theorem lst_Params (s : ByteArray) (w : World) (hs : s.size ≤ 1000000) :
    Calls Tryz.prog 111 #[.string s] w (PrmPost w (parOk s.data.toList)) := by
  go_enter Tryz.func111, Tryz.ntmps111
  go_wp2
  go_loopw [4, 0] (fun v t wr => ∃ (T : ByteArray) (n : Nat), t = .string T ∧ T.size ≤ s.size ∧ n ≤ 16 ∧ OPr wr w.heap.size v n ∧ Below w.heap.size w wr ∧ Hid (parOk s.data.toList = parG T.data.toList n)) (fun _ t _ => match t with | .string T => T.size | _ => 0)
  case atStart => exact ⟨s, 0, rfl, Nat.le_refl _, by omega, OPr.nil _ _, Below.refl _ _, Lib.hid rfl⟩
  case round =>
    obtain ⟨T, n, rfl, hT, hn, ho, L, H⟩ := hrel
    have hS := L.size
    go_wp2_with fail
    refine (lib_TrimLeft T wr).mono ?_
    rintro e w1 ⟨X, rfl, hX, L1⟩
    have hXT : X.size ≤ T.size := by rw [← len_data, ← len_data, hX]; exact trimF_le _
    have ho1 := ho.belowW L1
    have L2 := stepW L L1
    rcases Nat.eq_zero_or_pos X.size with h0 | hp
    · have HR := Lib.hid (H.out.trans (parG_end _ n (by rw [← hX]; exact List.eq_nil_of_length_eq_zero (by rw [len_data]; exact h0))))
      obtain rfl := empty_size h0
      clear hX H
      go_wp2
      go_ret2
      exact ⟨⟨_, by rw [HR.out]; rfl⟩, L2⟩
    have hne := ne_isEmpty hp
    have hnn : trimF T.data.toList ≠ [] := by rw [← hX]; intro h; rw [← len_data, h] at hp; simp at hp
    go_wp2_with fail
    refine (lst_param X w1 (by omega)).mono ?_
    rintro e w2 ⟨p1, p2, R, ok, rfl, hps, L3⟩
    rw [hX] at hps
    have ho2 := ho1.belowW L3
    have L4 := stepW L2 L3
    obtain ⟨A, c, rfl⟩ := ho2.form
    cases ok
    · have HR := Lib.hid (H.out.trans (parG_bad _ n hnn (hps.trans (if_neg (by decide)))))
      clear hps H hnn hX
      go_wp2
      go_ret2
      refine ⟨⟨_, by rw [HR.out]; rfl⟩, ?_⟩
      exact allocW L4 _
    · by_cases h16 : n = 16
      · have HR := Lib.hid (H.out.trans (parG_not _ n hnn h16))
        subst h16
        clear hps H hnn hX
        go_wp2
        go_ret2
        refine ⟨⟨_, by rw [HR.out]; rfl⟩, ?_⟩
        exact allocW L4 _
      · have hps2 : parS (trimF T.data.toList) = some R.data.toList := hps.trans (if_pos rfl)
        have HR := Lib.hid (H.out.trans (parG_one _ _ n hnn hps2 h16))
        have hlt := parS_lt _ _ hps2
        rw [len_data, ← hX, len_data] at hlt
        clear hps H hnn hX hps2
        go_wp2_with (at_builtin; refine wp_appP rfl _ _ rfl w.heap.size (.slice A n c) n rfl (ho2.alloc _) _ (by simp) p1 p2 rfl (by omega) (allocW L4 _).size ?_; intro v' w3 ho3 hx)
        go_roundw
        case rel => exact ⟨R, n + 1, rfl, by omega, by omega, ho3, (allocW L4 _).trans hx, HR⟩
        case measure => simp; omega
end Go.Proofs.YtfapnppgbhlidaaGreatDoor

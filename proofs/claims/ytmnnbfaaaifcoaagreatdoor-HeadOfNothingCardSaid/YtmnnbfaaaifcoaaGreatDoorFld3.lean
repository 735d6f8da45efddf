/- field: Values, Has, Get, Len. -/
import Derived.Test.YtmnnbfaaaifcoaaGreatDoorFld2
namespace Go.Proofs.YtmnnbfaaaifcoaaGreatDoor
open Go.RowKit
set_option maxRecDepth 100000
set_option maxHeartbeats 2000000

theorem valsL_one (n : Bs) (l : List Fd) (k : Nat) (f : Fd) (h : l[k]? = some f) : valsL n (l.take (k + 1)) = valsL n (l.take k) ++ if nmEq f.1 n then [f.2] else [] := by
  rw [List.take_add_one, h, Option.toList_some, valsL_app]
  congr 1
  cases hn : nmEq f.1 n
  · rw [valsL_no _ _ _ hn]; rfl
  · rw [valsL_yes _ _ _ hn]; rfl
theorem fld_Values (g : Nat) (l : List Fd) (name : ByteArray) (w : World) (hF : FR w 104 g l) (hl : l.length ≤ 1000000) (hsz : FdSz l) (hnm : name.size ≤ maxLen) :
    Calls Tryz.prog 74 #[.pointer (some ⟨g, 0, none⟩), .string name] w (ValPost w (valsL name.data.toList l)) := by
  obtain ⟨A, c, hB, hc, hA⟩ := hF
  obtain ⟨j0, i0⟩ := hB.c1
  go_enter Tryz.func74, Tryz.ntmps74
  go_wp2
  go_loopw [5, 15] (fun v i wr => ∃ k : Nat, k ≤ l.length ∧ i = .int .i64 k ∧ OS wr w.heap.size v (valsL name.data.toList (l.take k)) ∧ Below w.heap.size w wr) (fun _ i _ => l.length - (intOf i).toNat)
  case atStart => exact ⟨0, Nat.zero_le _, rfl, OS.nil _ _, Below.refl _ _⟩
  case round =>
    obtain ⟨k, hk, rfl, ho, L⟩ := hrel
    have hS := L.size
    by_cases hlt : k < l.length
    · obtain ⟨f, hf, hd⟩ := drop_fd hlt
      obtain ⟨s1, s2⟩ := hsz.at hf
      have hA1 := hA.belowW (Nat.le_refl _) L
      obtain ⟨b, o, rfl, hbB, x0, x1⟩ := hA1.fd rfl k f hf
      have hV := valsL_one name.data.toList l k f hf
      have hvl : (valsL name.data.toList (l.take k)).length ≤ 1000000 := Nat.le_trans (valsL_len _ _) (Nat.le_trans (List.length_take_le _ _) (by omega))
      have HV := Lib.hid hV
      clear hf hd hV
      go_wp2_with fail
      obtain ⟨V, hV⟩ : ∃ V, V = wr.alloc (.cells #[sv f.1, sv f.2] 49) := ⟨_, rfl⟩
      rw [← hV]
      have LV : Below wr.heap.size wr V := by rw [hV]; exact allocW (Below.refl _ _) _
      have BV : Blk V wr.heap.size 49 #[sv f.1, sv f.2] := by rw [hV]; exact Blk.new' _ _ rfl _ _
      clear hV
      refine (asc_Same ⟨f.1.toArray⟩ name V (fsz_max s1) hnm).mono ?_
      rw [show (lowL (⟨f.1.toArray⟩ : ByteArray).data.toList == lowL name.data.toList) = nmEq f.1 name.data.toList from rfl]
      rintro e w1 ⟨rfl, L1⟩
      have LW := stepW LV L1
      obtain ⟨z0, z1, z2, z3⟩ := (BV.belowW L1).c2
      have ho1 := ho.belowW LW
      have hS1 := LW.size
      clear x0 x1 BV LV L1 ho
      cases hN : nmEq f.1 name.data.toList
      · have HR := Lib.hid (show valsL name.data.toList (l.take (k + 1)) = valsL name.data.toList (l.take k) by rw [HV.out, hN]; simp)
        clear hN HV
        go_wp2
        go_roundw
        case rel => exact ⟨k + 1, by omega, by go_num, by rw [HR.out]; exact ho1, stepW L LW⟩
        case measure => simp [intOf]; omega
      · have HR := Lib.hid (show valsL name.data.toList (l.take (k + 1)) = valsL name.data.toList (l.take k) ++ [f.2] by rw [HV.out, hN]; rfl)
        clear hN HV
        go_wp2_with (at_builtin; refine wp_appS1 rfl _ _ rfl w.heap.size _ _ rfl ho1 _ rfl ⟨f.2.toArray⟩ rfl (by omega) (by omega) ?_; intro v' w2 ho2 hx)
        go_roundw
        case rel => exact ⟨k + 1, by omega, by go_num, by rw [HR.out]; exact ho2, (stepW L LW).trans (hx.below ho1 (Nat.le_refl _) (by omega))⟩
        case measure => simp [intOf]; omega
    · go_wp2
      go_ret
      exact val_ret ho (by rw [List.take_of_length_le (by omega)]) L
theorem fld_Values_nil (name : ByteArray) (w : World) :
    Calls Tryz.prog 74 #[.pointer none, .string name] w (ValPost w []) := by
  go_enter Tryz.func74, Tryz.ntmps74
  go_wp2
  go_ret
  exact val_ret (OS.nil _ w.heap.size) rfl (Below.refl _ _)
theorem fld_Has (g : Nat) (l : List Fd) (name : ByteArray) (w : World) (hF : FR w 104 g l) (hl : l.length ≤ 1000000) (hsz : FdSz l) (hnm : name.size ≤ maxLen) :
    Calls Tryz.prog 46 #[.pointer (some ⟨g, 0, none⟩), .string name] w fun e w' => e = .returned (.bool (!(valsL name.data.toList l).isEmpty)) ∧ Below w.heap.size w w' := by
  go_enter Tryz.func46, Tryz.ntmps46
  go_wp2_with fail
  refine (fld_Values g l name w hF hl hsz hnm).mono ?_
  rintro e w1 ⟨⟨A, c, rfl, h1, h2, h3⟩, L⟩
  go_wp2
  go_ret
  exact ⟨by cases valsL name.data.toList l <;> simp, L⟩
theorem fld_Has_nil (name : ByteArray) (w : World) :
    Calls Tryz.prog 46 #[.pointer none, .string name] w fun e w' => e = .returned (.bool false) ∧ Below w.heap.size w w' := by
  go_enter Tryz.func46, Tryz.ntmps46
  go_wp2_with fail
  refine (fld_Values_nil name w).mono ?_
  rintro e w1 ⟨⟨A, c, rfl, h1, h2, h3⟩, L⟩
  go_wp2
  go_ret
  exact ⟨rfl, L⟩
theorem joinC_lib : ∀ l : List Bs, Lib.join l [44, 32] = joinC l
  | [] => rfl
  | [a] => Lib.join_one _ _
  | a :: b :: r => by
    have := joinC_lib (b :: r)
    rw [Lib.join_cons] at this ⊢
    rw [joinC, ← this]
    simp [Lib.joinTail]
theorem joinC_len (M : Nat) : ∀ l : List Bs, (∀ v ∈ l, v.length ≤ M) → (joinC l).length ≤ l.length * (M + 2)
  | [], _ => by simp [joinC]
  | [a], h => by have := h a (by simp); simp [joinC]; omega
  | a :: b :: r, h => by
    have h1 := h a (by simp)
    have h2 := joinC_len M (b :: r) (fun v hv => h v (by simp [List.mem_cons.1 hv]))
    rw [joinC]
    simp only [List.length_append, List.length_cons, List.length_nil] at h2 ⊢
    rw [Nat.add_mul (r.length + 1) 1]
    omega
theorem lib_Join (A : Option Addr) (c B : Nat) (vs : List Bs) (w : World) (hA : Rd w B 1 A vs.length (vs.map tv)) (hB : B ≤ w.heap.size) (hc : vs.length ≤ c) (hl : (joinC vs).length ≤ 140737488355328) (hn : vs.length ≤ 140737488355328) :
    Calls Tryz.prog 100 #[.slice A vs.length c, .string ⟨#[44, 32]⟩] w fun e w' => e = .returned (sv (joinC vs)) ∧ Below w.heap.size w w' := by
  rcases Nat.eq_zero_or_pos vs.length with h0 | h0
  · obtain rfl : vs = [] := List.eq_nil_of_length_eq_zero h0
    refine (Tryz.strings_Join_none A c ⟨#[44, 32]⟩ w).mono ?_
    rintro e w' ⟨rfl, rfl⟩
    exact ⟨rfl, Below.refl _ _⟩
  · obtain ⟨b, o, rfl, hb, hcell⟩ := hA.2 h0
    have e1 : (vs.map fun l => (⟨l.toArray⟩ : ByteArray)).map (·.data.toList) = vs := by rw [List.map_map]; exact (List.map_congr_left (g := id) fun x _ => rfl).trans (List.map_id vs)
    have hx := Tryz.strings_Join b o c (vs.map fun l => (⟨l.toArray⟩ : ByteArray)) ⟨#[44, 32]⟩ w (fun j x hj => ?_) (by omega) (by rw [List.length_map]; exact hn) (by rw [List.length_map]; exact hc) (by rw [e1]; rw [show (⟨#[44, 32]⟩ : ByteArray).data.toList = [44, 32] from rfl, joinC_lib]; exact hl)
    · rw [e1, show (⟨#[44, 32]⟩ : ByteArray).data.toList = [44, 32] from rfl, joinC_lib, List.length_map] at hx
      exact hx
    · rw [List.getElem?_map, Option.map_eq_some_iff] at hj
      obtain ⟨l, hl1, rfl⟩ := hj
      exact hcell j _ (by rw [List.getElem?_map, hl1]; rfl)
theorem fld_Get (g : Nat) (l : List Fd) (name : ByteArray) (w : World) (hF : FR w 104 g l) (hl : l.length ≤ 1000000) (hsz : FdSz l) (hnm : name.size ≤ maxLen) :
    Calls Tryz.prog 82 #[.pointer (some ⟨g, 0, none⟩), .string name] w fun e w' => e = .returned (sv (joinC (valsL name.data.toList l))) ∧ Below w.heap.size w w' := by
  have hvl := valsL_len name.data.toList l
  have hjl := joinC_len 1000000 (valsL name.data.toList l) (fun v hv => by obtain ⟨f, h1, rfl⟩ := valsL_mem _ _ v hv; exact (hsz f h1).2)
  have hm : (valsL name.data.toList l).length * (1000000 + 2) ≤ 1000000 * (1000000 + 2) := Nat.mul_le_mul_right _ (by omega)
  go_enter Tryz.func82, Tryz.ntmps82
  go_wp2_with fail
  refine (fld_Values g l name w hF hl hsz hnm).mono ?_
  rintro e w1 ⟨⟨A, c, rfl, h1, h2, h3⟩, L⟩
  obtain ⟨vs, hvs⟩ : ∃ vs, vs = valsL name.data.toList l := ⟨_, rfl⟩
  rw [← hvs] at hvl hjl hm h1 h3 ⊢
  have HV := Lib.hid hvs
  clear hvs
  go_wp2_with fail
  refine (lib_Join A c _ vs w1 h3 (Nat.le_refl _) h1 (by omega) (by omega)).mono ?_
  rintro e w2 ⟨rfl, L2⟩
  go_wp2
  go_ret
  exact ⟨by rw [← HV.out]; rfl, stepW L L2⟩
end Go.Proofs.YtmnnbfaaaifcoaaGreatDoor

/- usherref10: Is, Add, Values, Get. -/
import Derived.Test.YtfpojnijjpojlaaGreatDoorFld3
import Derived.Test.YtfpojnijjpojlaaGreatDoorTok9
import Derived.Test.YtfpojnijjpojlaaGreatDoorTRef4
namespace Go.Proofs.YtfpojnijjpojlaaGreatDoor
open Go.RowKit
set_option maxRecDepth 100000
set_option maxHeartbeats 2000000

theorem ref10_Is (f : Fd) (w : World) (h1 : f.1.length ≤ 1000000) (h2 : f.2.length ≤ 1000000) :
    Calls Tryz.prog 80 #[.agg #[sv f.1, sv f.2]] w fun e w' => e = .returned (.bool (isF f)) ∧ Below w.heap.size w w' := by
  have e1 : (⟨f.1.toArray⟩ : ByteArray).data.toList = f.1 := rfl
  have e2 : (⟨f.2.toArray⟩ : ByteArray).data.toList = f.2 := rfl
  have hT := fun w => ref_IsToken ⟨f.1.toArray⟩ w (fsz_max h1)
  have hV := fun w => ref_IsValue ⟨f.2.toArray⟩ w (fsz_max h2)
  have hM := fun w => ref_Trim' f.2 w (fsz_max h2)
  rw [e1, show (allT f.1 && decide (0 < f.1.length)) = tkL f.1 from rfl] at hT
  rw [e2] at hV
  have LW : Below w.heap.size w (w.alloc (.cells #[sv f.1, sv f.2] 39)) := allocW (Below.refl _ _) _
  have B1 : Blk (w.alloc (.cells #[sv f.1, sv f.2] 39)) w.heap.size 39 #[sv f.1, sv f.2] := Blk.new' _ _ rfl _ _
  cases t1 : tkL f.1
  · have HR := Lib.hid (show isF f = false by rw [isF, t1]; rfl)
    rw [t1] at hT
    go_enter Tryz.func80, Tryz.ntmps80
    go_wp2_with fail
    obtain ⟨V, hV'⟩ : ∃ V, V = w.alloc (.cells #[sv f.1, sv f.2] 39) := ⟨_, rfl⟩
    rw [← hV'] at B1 LW ⊢
    obtain ⟨j0, j1, i0, i1⟩ := B1.c2
    clear hV'
    go_quiet ((go_at_call 79; exact quiet_lf (hT _)))
    go_wp2
    go_ret
    exact ⟨by rw [HR.out]; rfl, below_drewN' LW _⟩
  · rw [t1] at hT
    cases t2 : allV f.2
    · have HR := Lib.hid (show isF f = false by rw [isF, t1, t2]; rfl)
      rw [t2] at hV
      clear t1 t2
      go_enter Tryz.func80, Tryz.ntmps80
      go_wp2_with fail
      obtain ⟨V, hV'⟩ : ∃ V, V = w.alloc (.cells #[sv f.1, sv f.2] 39) := ⟨_, rfl⟩
      rw [← hV'] at B1 LW ⊢
      obtain ⟨j0, j1, i0, i1⟩ := B1.c2
      clear hV'
      go_quiet ((first | (go_at_call 79; exact quiet_lf (hT _)) | (go_at_call 98; exact quiet_lf (hV _))))
      go_wp2
      go_ret
      exact ⟨by rw [HR.out]; rfl, below_drewN' LW _⟩
    · have HR := Lib.hid (show isF f = decide (trimL f.2 = f.2) by rw [isF, t1, t2]; rfl)
      rw [t2] at hV
      clear t1 t2
      go_enter Tryz.func80, Tryz.ntmps80
      go_wp2_with fail
      obtain ⟨V, hV'⟩ : ∃ V, V = w.alloc (.cells #[sv f.1, sv f.2] 39) := ⟨_, rfl⟩
      rw [← hV'] at B1 LW ⊢
      obtain ⟨j0, j1, i0, i1⟩ := B1.c2
      clear hV'
      go_quiet ((first | (go_at_call 79; exact quiet_lf (hT _)) | (go_at_call 98; exact quiet_lf (hV _)) | (go_at_call 78; exact quiet_lf (hM _))))
      go_wp2
      refine bodyPost_ret (v := .bool (decide (trimL f.2 = f.2))) ?_ rfl ⟨by rw [HR.out], below_drewN' LW _⟩
      simp [results, Tryz.results80, go_sem]
      rw [Bool.eq_iff_iff, beq_iff_eq, decide_eq_true_eq]

theorem ref10_Add (g base n c B : Nat) (A : Option Addr) (v : Value) (acc l : List Fd) (w : World) (hF : FA w 77 g base v acc) (hA : Rd w B 2 A n (fcells l)) (hB : B ≤ w.heap.size)
    (hne : 0 < n → ∀ a, A = some a → ¬ FS g v a.block) (hsz : FdSz l) (hacc : acc.length ≤ 24) (hb : base ≤ w.heap.size) (hn : n ≤ 140737488355328) :
    Calls Tryz.prog 53 #[.pointer (some ⟨g, 0, none⟩), .slice A n c] w (AddPost 77 w g base v (addL acc l 0)) := by
  have hln := fcells_n hA
  go_enter Tryz.func53, Tryz.ntmps53
  go_wp2
  go_loopw [6] (fun i wr => ∃ (k : Nat) (vk : Value) (ak : List Fd), k ≤ n ∧ i = .int .i64 k ∧ FA wr 77 g base vk ak ∧ ak.length ≤ 24 ∧ Hid (addL acc l 0 = addL ak (l.drop k) k) ∧ Fr (FS g v) w wr ∧ (∀ j, vk.ownBlock = some j → v.ownBlock = some j ∨ w.heap.size ≤ j)) (fun i _ => n - (intOf i).toNat)
  case atStart => exact ⟨0, v, acc, Nat.zero_le _, rfl, hF, hacc, rfl, Fr.refl _ _, fun j h => .inl h⟩
  case round =>
    obtain ⟨k, vk, ak, hk, rfl, hFk, hak, H, hfr, hown⟩ := hrel
    by_cases hlt : k < n
    · obtain ⟨f, hf, hd⟩ := drop_fd (by omega : k < l.length)
      obtain ⟨s1, s2⟩ := hsz.at hf
      have hAk := hA.frm hB hfr hne
      obtain ⟨b, o, rfl, hbB, x0, x1⟩ := hAk.fd hln k f hf
      obtain ⟨Ak, ck, rfl, hc1, hc2, hc3⟩ := hFk.own.form
      have hS := hfr.size
      have H2 := Lib.hid (show addL acc l 0 = addL ak (f :: l.drop (k + 1)) k by rw [H.out, hd])
      have Hf := Lib.hid hf
      clear hf hd H
      go_wp2_with fail
      refine (ref10_Is f wr s1 s2).mono ?_
      rintro e w1 ⟨rfl, LW⟩
      have hF1 := hFk.belowW LW
      have hA1 := hAk.belowW (by omega) LW
      obtain ⟨y0, y1⟩ := hF1.blk.c1
      have hfr1 := hfr.belowW LW
      have hS1 := LW.size
      obtain ⟨b', o', e', hb', z0, z1⟩ := hA1.fd hln k f Hf.out
      injection e' with e'
      injection e' with e1 e2
      subst e1 e2
      clear x0 x1 hc3 hFk hfr
      cases hI : isF f
      · have HR := Lib.hid (H2.out.trans (addL_bad _ _ _ _ hI))
        clear hI
        go_wp2
        go_ret2
        exact ⟨by rw [HR.out]; rfl, by rw [HR.out]; exact ⟨_, hF1, hown⟩, hfr1⟩
      · by_cases h24 : 24 ≤ ak.length
        · have HR := Lib.hid (H2.out.trans (addL_full _ _ _ _ hI h24))
          clear hI
          go_wp2
          go_ret2
          exact ⟨by rw [HR.out]; rfl, by rw [HR.out]; exact ⟨_, hF1, hown⟩, hfr1⟩
        · have HR := Lib.hid (H2.out.trans (addL_one _ _ _ _ hI (by omega)))
          obtain ⟨y2, y3⟩ := (hF1.blk.alloc (.cells #[sv f.1, sv f.2] 39)).c1
          have hkn : (k : Int) < (n : Int) := by omega
          clear hI H2
          go_wp2
          go_region_law (refine step_appF rfl (.tmp 31) (.tmp 36) rfl base (.slice Ak ak.length ck) ak rfl hF1.own (allocW ((Below.refl _ _).drew) _) _ 1 1 (w1.heap.size + 1) rfl [f] rfl (Rd.new w1.drew _ rfl [sv f.1, sv f.2] _ 1 2 rfl) (by simp; omega) (by omega) ?_; intro v' w3 ho3 hx3; obtain ⟨A3, c3, hv3, hc31, hc32, hc33⟩ := ho3.form; rw [show (ak ++ [f]).length = ak.length + 1 by simp] at hv3; subst hv3; have BB := hF1.blk.fr hx3.fr hF1.ne; obtain ⟨q0, q1⟩ := BB.c1)
          all_goals
            go_wp2
            go_roundw
            case rel => exact ⟨k + 1, _, ak ++ [f], by omega, by go_num, hF1.app hx3 ho3, by simp; omega, HR, FS.trans hfr1 (FA.app_fr hx3 _) hown, FS.own hown (by omega) hx3.own⟩
            case measure => simp [intOf]; omega
    · have HR := Lib.hid (H.out.trans (show addL ak (l.drop k) k = (ak, k, 0) by rw [List.drop_of_length_le (by omega)]; rfl))
      obtain rfl : k = n := by omega
      go_wp2
      go_ret2
      exact ⟨by rw [HR.out]; rfl, by rw [HR.out]; exact ⟨_, hFk, hown⟩, hfr⟩
theorem ref10_Values (g : Nat) (l : List Fd) (name : ByteArray) (w : World) (hF : FR w 77 g l) (hl : l.length ≤ 1000000) (hsz : FdSz l) (hnm : name.size ≤ 1000000) :
    Calls Tryz.prog 47 #[.pointer (some ⟨g, 0, none⟩), .string name] w (ValPost w (valsL name.data.toList l)) := by
  obtain ⟨A, c, hB, hc, hA⟩ := hF
  go_enter Tryz.func47, Tryz.ntmps47
  go_wp2
  go_loopw [5, 6] (fun v i wr => ∃ k : Nat, k ≤ l.length ∧ i = .int .i64 k ∧ OS wr w.heap.size v (valsL name.data.toList (l.take k)) ∧ Below w.heap.size w wr) (fun _ i _ => l.length - (intOf i).toNat)
  case atStart => exact ⟨0, Nat.zero_le _, rfl, OS.nil _ _, Below.refl _ _⟩
  case round =>
    obtain ⟨k, hk, rfl, ho, L⟩ := hrel
    have hS := L.size
    obtain ⟨j0, i0⟩ := (hB.belowW L).c1
    by_cases hlt : k < l.length
    · obtain ⟨f, hf, hd⟩ := drop_fd hlt
      obtain ⟨s1, s2⟩ := hsz.at hf
      have hA1 := hA.belowW (Nat.le_refl _) L
      obtain ⟨b, o, rfl, hbB, x0, x1⟩ := hA1.fd rfl k f hf
      have hV := valsL_one name.data.toList l k f hf
      have hvl : (valsL name.data.toList (l.take k)).length ≤ 1000000 := Nat.le_trans (valsL_len _ _) (Nat.le_trans (List.length_take_le _ _) (by omega))
      have HV := Lib.hid hV
      have Hf := Lib.hid hf
      clear hf hd hV
      go_wp2_with fail
      refine (rSame ⟨f.1.toArray⟩ name wr (Nat.le_trans s1 (by decide)) (Nat.le_trans hnm (by decide))).mono ?_
      rw [show (lowL (⟨f.1.toArray⟩ : ByteArray).data.toList == lowL name.data.toList) = nmEq f.1 name.data.toList from rfl]
      rintro e w1 ⟨rfl, LW⟩
      have ho1 := ho.belowW LW
      have hS1 := LW.size
      obtain ⟨b', o', e', hb', z0, z1⟩ := (hA1.belowW (by omega) LW).fd rfl k f Hf.out
      injection e' with e'
      injection e' with e1 e2
      subst e1 e2
      obtain ⟨j2, i2⟩ := ((hB.belowW L).belowW LW).c1
      clear x0 x1 ho j0 i0
      cases hN : nmEq f.1 name.data.toList
      · have HR := Lib.hid (show valsL name.data.toList (l.take (k + 1)) = valsL name.data.toList (l.take k) by rw [HV.out, hN]; simp)
        clear hN HV
        go_wp2
        go_roundw
        case rel => exact ⟨k + 1, by omega, by go_num, by rw [HR.out]; exact ho1, stepW L LW⟩
        case measure => simp [intOf]; omega
      · have HR := Lib.hid (show valsL name.data.toList (l.take (k + 1)) = valsL name.data.toList (l.take k) ++ [f.2] by rw [HV.out, hN]; rfl)
        clear hN HV
        go_wp2_with (at_builtin; refine wp_appS1 rfl _ _ rfl w.heap.size _ _ rfl ho1 _ rfl ⟨f.2.toArray⟩ rfl (by omega) (by omega) ?_; intro v' w2 ho2 hx)
        go_roundw
        case rel => exact ⟨k + 1, by omega, by go_num, by rw [HR.out]; exact ho2, (stepW L LW).trans (hx.below ho1 (Nat.le_refl _) (by omega))⟩
        case measure => simp [intOf]; omega
    · go_wp2
      go_ret
      exact val_ret ho (by rw [List.take_of_length_le (by omega)]) L
end Go.Proofs.YtfpojnijjpojlaaGreatDoor

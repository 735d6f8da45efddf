/- usherref10.Is. -/
import Derived.Test.YtfapnppgbhlidaaGreatDoorFld
import Derived.Test.YtfapnppgbhlidaaGreatDoorRef1c
namespace Go.Proofs.YtfapnppgbhlidaaGreatDoor
open Go.RowKit
set_option maxRecDepth 100000
set_option maxHeartbeats 2000000

theorem ref_Trim' (l : Bs) (w : World) (hs : l.length ≤ maxLen) :
    Calls Tryz.prog 73 #[sv l] w fun e w' => e = .returned (sv (trimL l)) ∧ w = w' := by
  refine (ref_Trim ⟨l.toArray⟩ w hs).mono ?_
  rintro e w' ⟨t, rfl, ht, rfl⟩
  refine ⟨?_, rfl⟩
  rw [show t = ⟨(trimL l).toArray⟩ from str_ext ht]

theorem ref10_Is (f : Fd) (w : World) (h1 : f.1.length ≤ 1000000) (h2 : f.2.length ≤ 1000000) :
    Calls Tryz.prog 38 #[.agg #[sv f.1, sv f.2]] w fun e w' => e = .returned (.bool (isF f)) ∧ Below w.heap.size w w' := by
  have e1 : (⟨f.1.toArray⟩ : ByteArray).data.toList = f.1 := rfl
  have e2 : (⟨f.2.toArray⟩ : ByteArray).data.toList = f.2 := rfl
  have hT := fun w => ref_IsToken ⟨f.1.toArray⟩ w (fsz_max h1)
  have hV := fun w => ref_IsValue ⟨f.2.toArray⟩ w (fsz_max h2)
  have hM := fun w => ref_Trim' f.2 w (fsz_max h2)
  rw [e1, show (allT f.1 && decide (0 < f.1.length)) = tkL f.1 from rfl] at hT
  rw [e2] at hV
  have LW : Below w.heap.size w (w.alloc (.cells #[sv f.1, sv f.2] 63)) := allocW (Below.refl _ _) _
  have B1 : Blk (w.alloc (.cells #[sv f.1, sv f.2] 63)) w.heap.size 63 #[sv f.1, sv f.2] := Blk.new' _ _ rfl _ _
  cases t1 : tkL f.1
  · have HR := Lib.hid (show isF f = false by rw [isF, t1]; rfl)
    rw [t1] at hT
    go_enter Tryz.func38, Tryz.ntmps38
    go_wp2_with fail
    obtain ⟨V, hV'⟩ : ∃ V, V = w.alloc (.cells #[sv f.1, sv f.2] 63) := ⟨_, rfl⟩
    rw [← hV'] at B1 LW ⊢
    obtain ⟨j0, j1, i0, i1⟩ := B1.c2
    clear hV'
    go_quiet ((go_at_call 71; exact quiet_lf (hT _)))
    go_wp2
    go_ret
    exact ⟨by rw [HR.out]; rfl, below_drewN' LW _⟩
  · rw [t1] at hT
    cases t2 : allV f.2
    · have HR := Lib.hid (show isF f = false by rw [isF, t1, t2]; rfl)
      rw [t2] at hV
      clear t1 t2
      go_enter Tryz.func38, Tryz.ntmps38
      go_wp2_with fail
      obtain ⟨V, hV'⟩ : ∃ V, V = w.alloc (.cells #[sv f.1, sv f.2] 63) := ⟨_, rfl⟩
      rw [← hV'] at B1 LW ⊢
      obtain ⟨j0, j1, i0, i1⟩ := B1.c2
      clear hV'
      go_quiet ((first | (go_at_call 71; exact quiet_lf (hT _)) | (go_at_call 72; exact quiet_lf (hV _))))
      go_wp2
      go_ret
      exact ⟨by rw [HR.out]; rfl, below_drewN' LW _⟩
    · have HR := Lib.hid (show isF f = decide (trimL f.2 = f.2) by rw [isF, t1, t2]; rfl)
      rw [t2] at hV
      clear t1 t2
      go_enter Tryz.func38, Tryz.ntmps38
      go_wp2_with fail
      obtain ⟨V, hV'⟩ : ∃ V, V = w.alloc (.cells #[sv f.1, sv f.2] 63) := ⟨_, rfl⟩
      rw [← hV'] at B1 LW ⊢
      obtain ⟨j0, j1, i0, i1⟩ := B1.c2
      clear hV'
      go_quiet ((first | (go_at_call 71; exact quiet_lf (hT _)) | (go_at_call 72; exact quiet_lf (hV _)) | (go_at_call 73; exact quiet_lf (hM _))))
      go_wp2
      refine bodyPost_ret (v := .bool (decide (trimL f.2 = f.2))) ?_ rfl ⟨by rw [HR.out], below_drewN' LW _⟩
      simp [results, Tryz.results38, go_sem]
      rw [Bool.eq_iff_iff, beq_iff_eq, decide_eq_true_eq]

theorem ref10_Is' (N M : ByteArray) (w : World) (h1 : N.size ≤ 1000000) (h2 : M.size ≤ 1000000) :
    Calls Tryz.prog 38 #[.agg #[.string N, .string M]] w fun e w' => e = .returned (.bool (isF (N.data.toList, M.data.toList))) ∧ Below w.heap.size w w' := by
  have h := ref10_Is (N.data.toList, M.data.toList) w (by rw [len_data]; exact h1) (by rw [len_data]; exact h2)
  simp only [sv, ← str_eta] at h
  exact h
end Go.Proofs.YtfapnppgbhlidaaGreatDoor

/- usherref10.Is. usherref9.Tokens, Has; list.Has' kin. usherref10: Is, Add, Values, Get. usherref10.Get. usherref9.Has. -/
import Derived.Test.YtmjekdnfkgalbaaGreatDoorFPl
import Derived.Test.YtmjekdnfkgalbaaGreatDoorPlain
import Derived.Test.YtmjekdnfkgalbaaGreatDoorTok
import Derived.Test.YtmjekdnfkgalbaaGreatDoorTRef
namespace Go.Proofs.YtmjekdnfkgalbaaGreatDoor
open Go.RowKit
set_option maxRecDepth 100000
set_option maxHeartbeats 2000000

theorem ref_Trim' (l : Bs) (w : World) (hs : l.length ≤ maxLen) :
    Calls Tryz.prog 83 #[sv l] w fun e w' => e = .returned (sv (trimL l)) ∧ w = w' := by
  refine (ref_Trim ⟨l.toArray⟩ w hs).mono ?_
  rintro e w' ⟨t, rfl, ht, rfl⟩
  refine ⟨?_, rfl⟩
  rw [show t = ⟨(trimL l).toArray⟩ from str_ext ht]

theorem ref10_Is (f : Fd) (w : World) (h1 : f.1.length ≤ 1000000) (h2 : f.2.length ≤ 1000000) :
    Calls Tryz.prog 54 #[.agg #[sv f.1, sv f.2]] w fun e w' => e = .returned (.bool (isF f)) ∧ Below w.heap.size w w' := by
  have e1 : (⟨f.1.toArray⟩ : ByteArray).data.toList = f.1 := rfl
  have e2 : (⟨f.2.toArray⟩ : ByteArray).data.toList = f.2 := rfl
  have hT := fun w => ref_IsToken ⟨f.1.toArray⟩ w (fsz_max h1)
  have hV := fun w => ref_IsValue ⟨f.2.toArray⟩ w (fsz_max h2)
  have hM := fun w => ref_Trim' f.2 w (fsz_max h2)
  rw [e1, show (allT f.1 && decide (0 < f.1.length)) = tkL f.1 from rfl] at hT
  rw [e2] at hV
  have LW : Below w.heap.size w (w.alloc (.cells #[sv f.1, sv f.2] 58)) := allocW (Below.refl _ _) _
  have B1 : Blk (w.alloc (.cells #[sv f.1, sv f.2] 58)) w.heap.size 58 #[sv f.1, sv f.2] := Blk.new' _ _ rfl _ _
  cases t1 : tkL f.1
  · have HR := Lib.hid (show isF f = false by rw [isF, t1]; rfl)
    rw [t1] at hT
    go_enter Tryz.func54, Tryz.ntmps54
    go_wp2_with fail
    obtain ⟨V, hV'⟩ : ∃ V, V = w.alloc (.cells #[sv f.1, sv f.2] 58) := ⟨_, rfl⟩
    rw [← hV'] at B1 LW ⊢
    obtain ⟨j0, j1, i0, i1⟩ := B1.c2
    clear hV'
    go_quiet ((go_at_call 81; exact quiet_lf (hT _)))
    go_wp2
    go_ret
    exact ⟨by rw [HR.out]; rfl, below_drewN' LW _⟩
  · rw [t1] at hT
    cases t2 : allV f.2
    · have HR := Lib.hid (show isF f = false by rw [isF, t1, t2]; rfl)
      rw [t2] at hV
      clear t1 t2
      go_enter Tryz.func54, Tryz.ntmps54
      go_wp2_with fail
      obtain ⟨V, hV'⟩ : ∃ V, V = w.alloc (.cells #[sv f.1, sv f.2] 58) := ⟨_, rfl⟩
      rw [← hV'] at B1 LW ⊢
      obtain ⟨j0, j1, i0, i1⟩ := B1.c2
      clear hV'
      go_quiet ((first | (go_at_call 81; exact quiet_lf (hT _)) | (go_at_call 82; exact quiet_lf (hV _))))
      go_wp2
      go_ret
      exact ⟨by rw [HR.out]; rfl, below_drewN' LW _⟩
    · have HR := Lib.hid (show isF f = decide (trimL f.2 = f.2) by rw [isF, t1, t2]; rfl)
      rw [t2] at hV
      clear t1 t2
      go_enter Tryz.func54, Tryz.ntmps54
      go_wp2_with fail
      obtain ⟨V, hV'⟩ : ∃ V, V = w.alloc (.cells #[sv f.1, sv f.2] 58) := ⟨_, rfl⟩
      rw [← hV'] at B1 LW ⊢
      obtain ⟨j0, j1, i0, i1⟩ := B1.c2
      clear hV'
      go_quiet ((first | (go_at_call 81; exact quiet_lf (hT _)) | (go_at_call 82; exact quiet_lf (hV _)) | (go_at_call 83; exact quiet_lf (hM _))))
      go_wp2
      refine bodyPost_ret (v := .bool (decide (trimL f.2 = f.2))) ?_ rfl ⟨by rw [HR.out], below_drewN' LW _⟩
      simp [results, Tryz.results54, go_sem]
      rw [Bool.eq_iff_iff, beq_iff_eq, decide_eq_true_eq]

theorem ref10_Is' (N M : ByteArray) (w : World) (h1 : N.size ≤ 1000000) (h2 : M.size ≤ 1000000) :
    Calls Tryz.prog 54 #[.agg #[.string N, .string M]] w fun e w' => e = .returned (.bool (isF (N.data.toList, M.data.toList))) ∧ Below w.heap.size w w' := by
  have h := ref10_Is (N.data.toList, M.data.toList) w (by rw [len_data]; exact h1) (by rw [len_data]; exact h2)
  simp only [sv, ← str_eta] at h
  exact h
end Go.Proofs.YtmjekdnfkgalbaaGreatDoor
namespace Go.Proofs.YtmjekdnfkgalbaaGreatDoor
open Go.RowKit
set_option maxRecDepth 100000
set_option maxHeartbeats 2000000

/-- The pieces from f on. -/
def tailC (c : UInt8) (l : Bs) (f : Nat) : List Bs := if f ≤ l.length then splitL c (l.drop f) else []
theorem tailC_step (x : UInt8) (l : Bs) (f i : Nat) (hf : f ≤ i) (hi : i ≤ l.length) (hn : ∀ b ∈ (l.drop f).take (i - f), b ≠ x) (hc : i = l.length ∨ l[i]? = some x) : tailC x l f = (l.drop f).take (i - f) :: tailC x l (i + 1) := by
  rw [tailC, if_pos (by omega)]
  rcases hc with h | h
  · rw [tailC, if_neg (by omega)]
    have : (l.drop f).take (i - f) = l.drop f := List.take_of_length_le (by rw [List.length_drop]; omega)
    rw [this] at hn ⊢
    exact splitL_free x _ hn
  · have hlt : i < l.length := by
      rcases Nat.lt_or_ge i l.length with h1 | h1
      · exact h1
      · rw [List.getElem?_eq_none h1] at h; cases h
    rw [tailC, if_pos (by omega)]
    have e : l.drop f = (l.drop f).take (i - f) ++ x :: l.drop (i + 1) := by
      have h1 := List.take_append_drop (i - f) (l.drop f)
      rw [List.drop_drop, show f + (i - f) = i by omega, List.drop_eq_getElem_cons hlt] at h1
      rw [List.getElem?_eq_getElem hlt] at h
      rw [Option.some.inj h] at h1
      exact h1.symm
    generalize (l.drop f).take (i - f) = t at e hn
    rw [e]
    exact splitL_append x t _ hn
theorem noC_step (x : UInt8) (l : Bs) (f i : Nat) (c : UInt8) (hf : f ≤ i) (h : l[i]? = some c) (hc : c ≠ x) (hn : ∀ b ∈ (l.drop f).take (i - f), b ≠ x) : ∀ b ∈ (l.drop f).take (i + 1 - f), b ≠ x := by
  intro b hb
  rw [show i + 1 - f = (i - f) + 1 by omega, List.take_add_one, List.getElem?_drop, show f + (i - f) = i by omega, h] at hb
  rcases List.mem_append.1 hb with hb | hb
  · exact hn b hb
  · have : b = c := by simpa using hb
    exact this ▸ hc
theorem tailC_zero (x : UInt8) (l : Bs) : tailC x l 0 = splitL x l := by simp [tailC]
theorem tailC_end (x : UInt8) (l : Bs) : tailC x l (l.length + 1) = [] := by rw [tailC, if_neg (by omega)]
theorem pieceC (x : UInt8) (S : ByteArray) (l : Bs) (hS : S.data.toList = l ++ [x]) (f i : Nat) (hi : i ≤ l.length) : S.extract f i = ⟨((l.drop f).take (i - f)).toArray⟩ := by
  apply str_ext
  rw [ext_data, hS]
  show _ = (l.drop f).take (i - f)
  rcases Nat.le_total f l.length with h | h
  · rw [List.drop_append_of_le_length h, List.take_append_of_le_length (by rw [List.length_drop]; omega)]
  · rw [show i - f = 0 by omega]; simp
theorem toksA_some (vs : List Bs) (P : List Bs) (st : Option (List Bs)) (p : Bs) : toksA ((p :: P).foldl tokF st) vs = toksA (P.foldl tokF (tokF st p)) vs := rfl
theorem toksA_bad (vs P : List Bs) : toksA (P.foldl tokF none) vs = none := by rw [tokF_none, toksA_none]
end Go.Proofs.YtmjekdnfkgalbaaGreatDoor
namespace Go.Proofs.YtmjekdnfkgalbaaGreatDoor
open Go.RowKit
set_option maxRecDepth 100000
set_option maxHeartbeats 2000000

end Go.Proofs.YtmjekdnfkgalbaaGreatDoor
namespace Go.Proofs.YtmjekdnfkgalbaaGreatDoor
open Go.RowKit
set_option maxRecDepth 100000
set_option maxHeartbeats 2000000

theorem joinC_snoc (x : Bs) : ∀ P : List Bs, joinC (P ++ [x]) = if P = [] then x else joinC P ++ [44, 32] ++ x
  | [] => rfl
  | [a] => by simp [joinC]
  | a :: b :: r => by
    have := joinC_snoc x (b :: r)
    rw [if_neg (by simp)] at this ⊢
    rw [show a :: b :: r ++ [x] = a :: (b :: (r ++ [x])) from rfl, joinC]
    rw [show b :: r ++ [x] = b :: (r ++ [x]) from rfl] at this
    rw [this, joinC]
    simp
theorem joinC_take (P : List Bs) (k : Nat) (x : Bs) (h : P[k]? = some x) : joinC (P.take (k + 1)) = if k = 0 then x else joinC (P.take k) ++ [44, 32] ++ x := by
  rw [List.take_add_one, h, Option.toList_some, joinC_snoc]
  have hk : k < P.length := (List.getElem?_eq_some_iff.1 h).1
  by_cases h0 : k = 0
  · subst h0; simp
  · rw [if_neg h0, if_neg]
    intro h1
    have := congrArg List.length h1
    rw [List.length_take, List.length_nil] at this
    omega
end Go.Proofs.YtmjekdnfkgalbaaGreatDoor
namespace Go.Proofs.YtmjekdnfkgalbaaGreatDoor
open Go.RowKit
set_option maxRecDepth 100000
set_option maxHeartbeats 2000000

theorem hasL_none (t : Bs) (vs : List Bs) (h : toksL vs = none) : hasL t vs = false := by rw [hasL, h]
theorem hasL_some (t : Bs) (vs l : List Bs) (h : toksL vs = some l) : hasL t vs = l.contains (lowL t) := by rw [hasL, h]
end Go.Proofs.YtmjekdnfkgalbaaGreatDoor

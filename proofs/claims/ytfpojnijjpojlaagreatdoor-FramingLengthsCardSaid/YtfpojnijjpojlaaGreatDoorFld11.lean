/- usherref10.Get. -/
import Derived.Test.YtfpojnijjpojlaaGreatDoorFld10
namespace Go.Proofs.YtfpojnijjpojlaaGreatDoor
open Go.RowKit
set_option maxRecDepth 100000
set_option maxHeartbeats 2000000

theorem joinC_snoc (x : Bs) : ∀ P : List Bs, joinC (P ++ [x]) = if P = [] then x else joinC P ++ [44, 32] ++ x
  | [] => rfl
  | [a] => by simp [joinC]
  | a :: b :: r => by
    have := joinC_snoc x (b :: r)
    rw [if_neg (by simp)] at this ⊢
    rw [show a :: b :: r ++ [x] = a :: (b :: (r ++ [x])) from rfl, joinC]
    rw [show b :: r ++ [x] = b :: (r ++ [x]) from rfl] at this
    rw [this, joinC]
    simp
theorem joinC_take (P : List Bs) (k : Nat) (x : Bs) (h : P[k]? = some x) : joinC (P.take (k + 1)) = if k = 0 then x else joinC (P.take k) ++ [44, 32] ++ x := by
  rw [List.take_add_one, h, Option.toList_some, joinC_snoc]
  have hk : k < P.length := (List.getElem?_eq_some_iff.1 h).1
  by_cases h0 : k = 0
  · subst h0; simp
  · rw [if_neg h0, if_neg]
    intro h1
    have := congrArg List.length h1
    rw [List.length_take, List.length_nil] at this
    omega
theorem ref10_Get (g : Nat) (l : List Fd) (name : ByteArray) (w : World) (hF : FR w 77 g l) (hl : l.length ≤ 1000000) (hsz : FdSz l) (hnm : name.size ≤ 1000000) :
    Calls Tryz.prog 52 #[.pointer (some ⟨g, 0, none⟩), .string name] w fun e w' => e = .returned (sv (joinC (valsL name.data.toList l))) ∧ Below w.heap.size w w' := by
  have hvl := valsL_len name.data.toList l
  have hvz : ∀ v ∈ valsL name.data.toList l, v.length ≤ 1000000 := fun v hv => by obtain ⟨f, h1, rfl⟩ := valsL_mem _ _ v hv; exact (hsz f h1).2
  go_enter Tryz.func52, Tryz.ntmps52
  go_wp2_with fail
  refine (ref10_Values g l name w hF hl hsz hnm).mono ?_
  rintro e w1 ⟨⟨A, c, rfl, h1, h2, h3⟩, L⟩
  obtain ⟨vs, hvs⟩ : ∃ vs, vs = valsL name.data.toList l := ⟨_, rfl⟩
  rw [← hvs] at hvl hvz h1 h3 ⊢
  have HV := Lib.hid hvs
  clear hvs
  go_wp2
  go_loop [6, 7] (fun v i => ∃ (k : Nat) (t : ByteArray), k ≤ vs.length ∧ i = .int .i64 k ∧ v = .string t ∧ Hid (t.data.toList = joinC (vs.take k))) (fun _ i => vs.length - (intOf i).toNat)
  case atStart => exact ⟨0, ⟨#[]⟩, Nat.zero_le _, rfl, rfl, rfl⟩
  case round =>
    obtain ⟨k, t, hk, rfl, rfl, H⟩ := hrel
    by_cases hlt : k < vs.length
    · obtain ⟨s, hs, -⟩ := drop_tx hlt
      obtain ⟨b, o, rfl, hb, x0⟩ := h3.tx k s hs
      have hsz2 := hvz s (List.mem_of_getElem? hs)
      have hz1 := joinC_len 1000000 (vs.take k) (fun v hv => hvz v (List.mem_of_mem_take hv))
      have hz2 : (vs.take k).length * (1000000 + 2) ≤ 1000000 * (1000000 + 2) := Nat.mul_le_mul_right _ (Nat.le_trans (List.length_take_le _ _) (by omega))
      have hz3 : t.size ≤ 1000000 * (1000000 + 2) := by rw [← len_data, H.out]; exact Nat.le_trans hz1 hz2
      have HJ := Lib.hid (joinC_take vs k s hs)
      clear hs hz1 hz2
      by_cases h0 : k = 0
      · subst h0
        have ht : t = ⟨#[]⟩ := str_ext H.out
        subst ht
        rw [Nat.add_zero] at x0
        go_wp2
        go_round
        case rel => exact ⟨1, _, by omega, rfl, rfl, Lib.hid (by rw [HJ.out, if_pos rfl, app_data]; rfl)⟩
        case measure => simp [intOf]; omega
      · have hk0 : (0 : Int) < k := by omega
        go_wp2
        go_round
        case rel => exact ⟨k + 1, _, by omega, by go_num, rfl, Lib.hid (by rw [HJ.out, if_neg h0, app_data, app_data, H.out])⟩
        case measure => simp [intOf]; omega
    · have HR := Lib.hid (show t = ⟨(joinC vs).toArray⟩ from str_ext (by rw [H.out, List.take_of_length_le (by omega)]))
      go_wp2
      go_ret
      exact ⟨by rw [← HV.out]; show Ending.returned (.string t) = _; rw [HR.out], L⟩
end Go.Proofs.YtfpojnijjpojlaaGreatDoor

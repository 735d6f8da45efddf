/- usherlaw1.AsciiTrims. -/
import Derived.Test.YteikfilflgfhnaaDoorALaw
namespace Go.Proofs.YteikfilflgfhnaaDoor
open Go.RowKit
set_option maxRecDepth 100000
set_option maxHeartbeats 2000000

theorem dw_head (l : Bs) : l.dropWhile isB = [] ∨ ∃ x r, l.dropWhile isB = x :: r ∧ isB x = false := by
  induction l with
  | nil => exact .inl rfl
  | cons b l ih =>
    rw [List.dropWhile_cons]
    cases h : isB b
    · exact .inr ⟨b, l, by simp, h⟩
    · simpa using ih
theorem dw_blank (l : Bs) (h : ∀ b ∈ l, isB b = true) : l.dropWhile isB = [] := by
  induction l with
  | nil => rfl
  | cons b l ih => rw [List.dropWhile_cons, h b (by simp), if_pos rfl]; exact ih fun x hx => h x (by simp [hx])
theorem dw_app (s q : Bs) : (s ++ q).dropWhile isB = if s.dropWhile isB = [] then q.dropWhile isB else s.dropWhile isB ++ q := by
  induction s with
  | nil => simp
  | cons b s ih =>
    rw [List.cons_append, List.dropWhile_cons, List.dropWhile_cons]
    cases h : isB b
    · simp
    · simpa using ih
theorem trimE_app (l q : Bs) (h : ∀ b ∈ q, isB b = true) : trimE (l ++ q) = trimE l := by
  unfold trimE
  rw [List.reverse_append, dw_app, if_pos (dw_blank _ fun b hb => h b (List.mem_reverse.1 hb))]
theorem trimL_pad (p s q : Bs) (hp : ∀ b ∈ p, isB b = true) (hq : ∀ b ∈ q, isB b = true) : trimL (p ++ s ++ q) = trimL s := by
  unfold trimL trimF
  rw [List.append_assoc, dw_app, if_pos (dw_blank p hp), dw_app]
  split
  · rename_i h
    rw [h, dw_blank q hq]
  · exact trimE_app _ q hq
theorem trimE_head (x : UInt8) (r : Bs) (hx : isB x = false) : ∃ r', trimE (x :: r) = x :: r' := by
  unfold trimE
  rw [List.reverse_cons, dw_app]
  split
  · rw [List.dropWhile_cons, hx]; exact ⟨[], rfl⟩
  · exact ⟨(r.reverse.dropWhile isB).reverse, by simp⟩
theorem trimE_last (l : Bs) : trimE l = [] ∨ ∃ r x, trimE l = r ++ [x] ∧ isB x = false := by
  unfold trimE
  rcases dw_head l.reverse with h | ⟨x, r, h, hx⟩
  · rw [h]; exact .inl rfl
  · rw [h]; exact .inr ⟨r.reverse, x, by simp, hx⟩
theorem trimL_head (s : Bs) : trimL s = [] ∨ ∃ x r, trimL s = x :: r ∧ isB x = false := by
  unfold trimL trimF
  rcases dw_head s with h | ⟨x, r, h, hx⟩
  · rw [h]; exact .inl rfl
  · rw [h]
    obtain ⟨r', hr⟩ := trimE_head x r hx
    exact .inr ⟨x, r', hr, hx⟩
theorem trimL_last (s : Bs) : trimL s = [] ∨ ∃ r x, trimL s = r ++ [x] ∧ isB x = false := trimE_last _
theorem trimL_trim (s : Bs) : trimL (trimL s) = trimL s := by
  have h1 : trimF (trimL s) = trimL s := by
    rcases trimL_head s with h | ⟨x, r, h, hx⟩
    · rw [h]; rfl
    · rw [h, trimF, List.dropWhile_cons, hx]; rfl
  have h2 : trimE (trimL s) = trimL s := by
    rcases trimL_last s with h | ⟨r, x, h, hx⟩
    · rw [h]; rfl
    · rw [h, trimE_snoc, hx]; rfl
  rw [trimL, h1, h2]

theorem trim_T (s : ByteArray) (w : World) (hs : s.size ≤ maxLen) :
    Calls Tryd.prog 37 #[.string s] w fun e w' => (∃ t : ByteArray, e = .returned (.string t) ∧ t.data.toList = trimL s.data.toList) ∧ Below w.heap.size w w' :=
  (asc_Trim s w hs).mono fun _ _ ⟨he, hb⟩ => ⟨⟨_, he, by simp⟩, hb⟩
theorem dw_len (l : Bs) : (l.dropWhile isB).length ≤ l.length := by
  induction l with
  | nil => simp
  | cons b l ih => rw [List.dropWhile_cons]; split <;> simp only [List.length_cons] <;> omega
theorem trimL_len (s : Bs) : (trimL s).length ≤ s.length := by
  unfold trimL trimE trimF
  have h1 := dw_len (s.dropWhile isB).reverse
  have h2 := dw_len s
  rw [List.length_reverse] at h1 ⊢
  omega
theorem and7 (a : Int) : 0 ≤ bits BinOp.and IntKind.i64 a 7 ∧ bits BinOp.and IntKind.i64 a 7 ≤ 7 := by
  have h : ((BitVec.ofInt 64 a &&& BitVec.ofInt 64 7).toNat) ≤ 7 := by rw [BitVec.toNat_and]; exact Nat.and_le_right
  have e : bits BinOp.and IntKind.i64 a 7 = IntKind.i64.wrap (((BitVec.ofInt 64 a &&& BitVec.ofInt 64 7).toNat : Nat) : Int) := rfl
  rw [e, IntWalk.i64_in _ ⟨by omega, by omega⟩]
  omega
theorem rep_snoc (k : Nat) (b : UInt8) : List.replicate (k + 1) b = List.replicate k b ++ [b] := List.replicate_succ'

theorem law_Trims (s : ByteArray) (a b : Int) (w : World) (hs : s.size ≤ maxLen) :
    Calls Tryd.prog 9 #[.string s, .int .i64 a, .int .i64 b] w fun e w' => e = .returned (.bool true) ∧ Below w.heap.size w w' := by
  have hs' := hs
  unfold maxLen at hs'
  by_cases h2 : s.size ≤ 2000
  · obtain ⟨ma, hma⟩ : ∃ m, bits BinOp.and IntKind.i64 a 7 = m := ⟨_, rfl⟩
    obtain ⟨mb, hmb⟩ : ∃ m, bits BinOp.and IntKind.i64 b 7 = m := ⟨_, rfl⟩
    have ha7 := and7 a
    have hb7 := and7 b
    rw [hma] at ha7
    rw [hmb] at hb7
    obtain ⟨ha0, ha1⟩ := ha7
    obtain ⟨hb0, hb1⟩ := hb7
    go_enter Tryd.func9, Tryd.ntmps9
    go_wp2_with fail
    refine (trim_T s w hs).mono ?_
    rintro e w1 ⟨⟨t, rfl, htd⟩, L1⟩
    have Ht := Lib.hid htd
    clear htd
    go_wp2_with fail
    go_loop [8, 10] (fun v i => ∃ (k : Nat) (u : ByteArray), k ≤ 7 ∧ v = .string u ∧ i = .int .i64 k ∧ Hid (u.data.toList = List.replicate k 32)) (fun _ i => 8 - (intOf i).toNat)
    case atStart => exact ⟨0, ⟨#[]⟩, Nat.zero_le _, rfl, rfl, rfl⟩
    case round =>
      obtain ⟨k, u, hk, rfl, rfl, HU⟩ := hrel
      have hus : u.size = k := by rw [← len_data, HU.out]; simp
      have hus : u.size ≤ 7 := by omega
      by_cases hlt : (k : Int) < ma
      · go_wp2_with fail
        go_round
        case rel => exact ⟨k + 1, _, by omega, rfl, by go_num, Lib.hid (by rw [app_data, HU.out, rep_snoc])⟩
        case measure => simp [intOf]; omega
      · go_wp2_with fail
        go_loop [9, 11] (fun v i => ∃ (k : Nat) (z : ByteArray), k ≤ 7 ∧ v = .string z ∧ i = .int .i64 k ∧ Hid (z.data.toList = List.replicate k 9)) (fun _ i => 8 - (intOf i).toNat)
        case atStart => exact ⟨0, ⟨#[]⟩, Nat.zero_le _, rfl, rfl, rfl⟩
        case round =>
          obtain ⟨j, z, hj, rfl, rfl, HZ⟩ := hrel
          have hzs : z.size = j := by rw [← len_data, HZ.out]; simp
          have hzs : z.size ≤ 7 := by omega
          by_cases hlt2 : (j : Int) < mb
          · go_wp2_with fail
            go_round
            case rel => exact ⟨j + 1, _, by omega, rfl, by go_num, Lib.hid (by rw [app_data, HZ.out, rep_snoc])⟩
            case measure => simp [intOf]; omega
          · go_wp2_with fail
            have hpad : (u ++ s ++ z).size ≤ maxLen := by rw [ByteArray.size_append, ByteArray.size_append]; unfold maxLen; omega
            have hpt : trimL (u ++ s ++ z).data.toList = trimL s.data.toList := by
              rw [app_data, app_data]
              exact trimL_pad _ _ _ (fun x hx => by rw [HU.out] at hx; rw [(List.mem_replicate.1 hx).2]; rfl) (fun x hx => by rw [HZ.out] at hx; rw [(List.mem_replicate.1 hx).2]; rfl)
            refine (trim_T (u ++ s ++ z) w1 hpad).mono ?_
            rintro e w2 ⟨⟨t2, rfl, ht2⟩, L2⟩
            obtain rfl : t2 = t := str_ext (by rw [ht2, hpt, Ht.out])
            clear ht2 hpt hpad
            have K2 := stepW L1 L2
            have htl : t2.size ≤ 2000 := by
              have := trimL_len s.data.toList
              rw [← Ht.out, len_data, len_data] at this
              omega
            go_wp2_with fail
            refine (trim_T t2 w2 (by unfold maxLen; omega)).mono ?_
            rintro e w3 ⟨⟨t3, rfl, ht3⟩, L3⟩
            obtain rfl : t3 = t2 := str_ext (by rw [ht3, Ht.out, trimL_trim])
            clear ht3
            have K3 := stepW K2 L3
            rcases Nat.eq_zero_or_pos t3.size with t0 | t0
            · obtain rfl := empty_size t0
              go_wp2_with fail
              refine (law1_known w3).mono ?_
              rintro e w5 ⟨rfl, L5⟩
              have K5 := stepW K3 L5
              go_wp2
              all_goals go_ret
              all_goals exact ⟨rfl, K5⟩
            · have hne := ne_isEmpty t0
              have hnn : t3.data.toList ≠ [] := fun h => by rw [← len_data, h] at t0; simp at t0
              obtain ⟨x, hx1, hx2⟩ := drop_bt t3 0 t0
              obtain ⟨y, hy1, hy2⟩ := last_bt t3 t0
              have fx : isB x = false := by
                rcases trimL_head s.data.toList with h | ⟨x', r, h, hx⟩
                · exact absurd (Ht.out.trans h) hnn
                · have h' := Ht.out.trans h
                  rw [List.drop_zero, h'] at hx1
                  simp only [List.cons.injEq] at hx1
                  rw [← hx1.1]; exact hx
              have fy : isB y = false := by
                rcases trimL_last s.data.toList with h | ⟨r, x', h, hx⟩
                · exact absurd (Ht.out.trans h) hnn
                · have h' := Ht.out.trans h
                  rw [h'] at hy1
                  have hq : x' = y := by
                    have := congrArg List.getLast? hy1
                    simpa using this
                  rw [← hq]; exact hx
              rw [isB_num] at fx fy
              have fx' : (x.toNat : Int) ≠ 9 ∧ (x.toNat : Int) ≠ 32 := by simpa using fx
              have fy' : (y.toNat : Int) ≠ 9 ∧ (y.toNat : Int) ≠ 32 := by simpa using fy
              obtain ⟨fx1, fx2⟩ := fx'
              obtain ⟨fy1, fy2⟩ := fy'
              have hbs := PlainAid.get_bt t3
              clear hx1 hy1 fx fy hnn
              go_wp2_with fail
              refine (law1_known w3).mono ?_
              rintro e w5 ⟨rfl, L5⟩
              have K5 := stepW K3 L5
              go_wp2
              all_goals go_ret
              all_goals exact ⟨retB (by simp only [bne_iff_ne, ne_eq, Bool.and_eq_true]; exact ⟨⟨⟨fx2, fx1⟩, fy2⟩, fy1⟩), K5⟩
  · go_enter Tryd.func9, Tryd.ntmps9
    go_wp2
    all_goals go_ret
    all_goals exact ⟨rfl, Below.refl _ _⟩
end Go.Proofs.YteikfilflgfhnaaDoor

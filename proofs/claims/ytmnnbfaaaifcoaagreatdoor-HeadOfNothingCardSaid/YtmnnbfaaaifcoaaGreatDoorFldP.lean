/- field.Parse. -/
import Derived.Test.YtmnnbfaaaifcoaaGreatDoorFld
import Derived.Test.YtmnnbfaaaifcoaaGreatDoorTgt
import Derived.Test.YtmnnbfaaaifcoaaGreatDoorKPl
import Derived.BigRegion
import Derived.ChangeAlike
namespace Go.Proofs.YtmnnbfaaaifcoaaGreatDoor
open Go.RowKit
set_option maxRecDepth 100000
set_option maxHeartbeats 2000000

def FParsePost (w : World) (s : Bs) (e : Ending) (w' : World) : Prop :=
  (∃ (f : Fd) (er : Int), e = .returned (.tuple #[.agg #[sv f.1, sv f.2], .int .i64 er]) ∧ ((parseF s = some f ∧ er = 0) ∨ (parseF s = none ∧ (er = 8 ∨ er = 9)))) ∧ Below w.heap.size w w'
theorem trimL_le (l : Bs) : (trimL l).length ≤ l.length := by
  refine Nat.le_trans ?_ (trimF_le l)
  unfold trimL trimE
  rw [List.length_reverse]
  refine Nat.le_trans (List.dropWhile_sublist _).length_le ?_
  rw [List.length_reverse]; exact Nat.le_refl _
theorem hasB_mem (c : UInt8) (l : Bs) : hasB c l = true ↔ c ∈ l := by
  unfold hasB
  induction l with
  | nil => simp
  | cons b l ih =>
    by_cases h : b = c
    · subst h; simp
    · have h1 : (b != c) = true := by simpa using h
      rw [List.dropWhile_cons, h1, if_pos rfl, ih]
      simp [Ne.symm h]
theorem parseF_no (s : Bs) (h : hasB 58 s = false) : parseF s = none := by
  rw [parseF]; split
  · rfl
  · rw [if_neg]; intro h2; rw [(hasB_mem 58 s).2 h2] at h; cases h
theorem parseF_yes (s : Bs) (h : hasB 58 s = true) (hl : s.length ≤ 256) (f : Fd) (hf : f = (fstB 58 s, trimL (sndB 58 s))) : parseF s = if isF f then some f else none := by
  subst hf
  rw [parseF, if_neg (by omega), if_pos ((hasB_mem 58 s).1 h)]
  rfl
theorem fld_Parse (s : ByteArray) (w : World) (hm : ML w) :
    Calls Tryz.prog 83 #[.string s] w (FParsePost w s.data.toList) := by
  have hl := len_data s
  have LW : Below w.heap.size w (w.alloc (.cells #[.string ⟨#[]⟩, .string ⟨#[]⟩] 49)) := allocW (Below.refl _ _) _
  have B1 : Blk (w.alloc (.cells #[.string ⟨#[]⟩, .string ⟨#[]⟩] 49)) w.heap.size 49 #[.string ⟨#[]⟩, .string ⟨#[]⟩] := Blk.new' _ _ rfl _ _
  by_cases h256 : 256 < s.size
  · have HR := Lib.hid (show parseF s.data.toList = none by rw [parseF, if_pos (by omega)])
    clear hl hm
    go_enter Tryz.func83, Tryz.ntmps83
    go_wp2
    refine bodyPost_ret (v := .tuple #[.agg #[.string ⟨#[]⟩, .string ⟨#[]⟩], .int .i64 9]) (by simp [results, Tryz.results83, go_sem]) rfl ⟨⟨([], []), 9, rfl, .inr ⟨HR.out, .inr rfl⟩⟩, ?_⟩
    repeat first | refine setW ?_ (by simp) _ | refine below_drewN' (n := 1) ?_ 1
    exact allocW (Below.refl _ _) _
  have hle : s.size ≤ 256 := by omega
  have hm1 := hm.below LW (Nat.le_refl _)
  go_enter Tryz.func83, Tryz.ntmps83
  go_wp2_with fail
  obtain ⟨V, hV⟩ : ∃ V, V = w.alloc (.cells #[.string ⟨#[]⟩, .string ⟨#[]⟩] 49) := ⟨_, rfl⟩
  rw [← hV] at B1 LW hm1 ⊢
  clear hV hm
  refine (lib_cut1 s 58 V (by omega) hm1).mono ?_
  obtain ⟨f, hf⟩ : ∃ f : Fd, f = (fstB 58 s.data.toList, trimL (sndB 58 s.data.toList)) := ⟨_, rfl⟩
  have hf1 : fstB 58 s.data.toList = f.1 := by rw [hf]
  have hf2 : trimL (sndB 58 s.data.toList) = f.2 := by rw [hf]
  have hz1 : f.1.length ≤ 1000000 := by rw [← hf1]; have := fstB_len 58 s.data.toList; omega
  have hz2 : (sndB 58 s.data.toList).length ≤ 1000000 := by have := sndB_len 58 s.data.toList; omega
  have hz3 : f.2.length ≤ 1000000 := by rw [← hf2]; exact Nat.le_trans (trimL_le _) hz2
  have hP := fun h => Lib.hid (parseF_yes s.data.toList h (by omega) f hf)
  have hN := fun h => Lib.hid (parseF_no s.data.toList h)
  obtain ⟨N, hN'⟩ : ∃ N : ByteArray, N = ⟨f.1.toArray⟩ := ⟨_, rfl⟩
  obtain ⟨M, hM'⟩ : ∃ M : ByteArray, M = ⟨f.2.toArray⟩ := ⟨_, rfl⟩
  have e1 : sv f.1 = .string N := by rw [hN']
  have e2 : sv f.2 = .string M := by rw [hM']
  have E1 := Lib.hid e1
  have E2 := Lib.hid e2
  rw [hf1, e1]
  generalize hq : sndB 58 s.data.toList = q at hf2 hz2
  rintro e w1 ⟨rfl, L1⟩
  have B2 := B1.belowW L1
  have L2 := stepW LW L1
  clear hf hf1 hq B1 LW L1 hm1
  go_wp2_with fail
  refine (asc_Trim ⟨q.toArray⟩ w1 (by show q.length ≤ maxLen; unfold maxLen; omega)).mono ?_
  rw [show (⟨q.toArray⟩ : ByteArray).data.toList = q from rfl, hf2, e2]
  rintro e w2 ⟨rfl, L3⟩
  have B3 := B2.belowW L3
  have L4 := stepW L2 L3
  clear B2 L2 L3 e1 e2 hN' hM'
  have L5 := allocW L4 (.cells #[.string N, .string M] 49)
  have B5 := B3.alloc (.cells #[.string N, .string M] 49)
  have C5 : Blk (w2.alloc (.cells #[.string N, .string M] 49)) w2.heap.size 49 #[.string N, .string M] := Blk.new' _ _ rfl _ _
  obtain ⟨j0, j1, i0, i1⟩ := B5.c2
  obtain ⟨k0, k1, n0, n1⟩ := C5.c2
  cases hh : hasB 58 s.data.toList
  · have HR := hN hh
    clear hP hN hh hl
    go_wp2
    refine bodyPost_ret (v := .tuple #[.agg #[.string ⟨#[]⟩, .string ⟨#[]⟩], .int .i64 8]) (by simp [results, Tryz.results83, go_sem, j0, j1]) rfl ⟨⟨([], []), 8, rfl, .inr ⟨HR.out, .inl rfl⟩⟩, ?_⟩
    repeat refine setW ?_ (by simp) _
    exact L5
  have HR0 := hP hh
  clear hP hN hl
  have hO := fun w => fld_isOne f w hz1 hz3
  rw [E1.out, E2.out] at hO
  go_wp2_with fail
  refine (hO _).mono ?_
  obtain ⟨V2, hV⟩ : ∃ V2, V2 = w2.alloc (.cells #[.string N, .string M] 49) := ⟨_, rfl⟩
  rw [← hV] at B5 C5 L5 ⊢
  clear hV j0 j1 i0 i1 k0 k1 n0 n1 hO
  rintro e w4 ⟨rfl, L6⟩
  obtain ⟨j0, j1, i0, i1⟩ := (B5.belowW L6).c2
  obtain ⟨k0, k1, n0, n1⟩ := (C5.belowW L6).c2
  have L7 := stepW L5 L6
  clear B3 L4 B5 C5 L5 L6
  cases hi : isF f
  · have HR := Lib.hid (HR0.out.trans (if_neg (by rw [hi]; decide)))
    clear HR0 hi
    go_wp2
    refine bodyPost_ret (v := .tuple #[.agg #[.string ⟨#[]⟩, .string ⟨#[]⟩], .int .i64 8]) (by simp [results, Tryz.results83, go_sem, j0, j1]) rfl ⟨⟨([], []), 8, rfl, .inr ⟨HR.out, .inl rfl⟩⟩, ?_⟩
    repeat refine setW ?_ (by simp) _
    exact L7
  · have HR := Lib.hid (HR0.out.trans (if_pos hi))
    clear HR0 hi
    go_wp2
    refine bodyPost_ret (v := .tuple #[.agg #[.string N, .string M], .int .i64 0]) (by simp [results, Tryz.results83, go_sem, j0, j1]) rfl ⟨⟨f, 0, by rw [E1.out, E2.out], .inl ⟨HR.out, rfl⟩⟩, ?_⟩
    repeat refine setW ?_ (by simp) _
    exact L7
theorem fld_Parse' (s : ByteArray) (w : World) (hm : ML w) :
    Calls Tryz.prog 83 #[.string s] w fun e w' => (∃ (N M : ByteArray) (er : Int), e = .returned (.tuple #[.agg #[.string N, .string M], .int .i64 er]) ∧
      ((parseF s.data.toList = some (N.data.toList, M.data.toList) ∧ er = 0) ∨ (parseF s.data.toList = none ∧ (er = 8 ∨ er = 9)))) ∧ Below w.heap.size w w' := by
  refine (fld_Parse s w hm).mono ?_
  rintro e w' ⟨⟨f, er, rfl, h⟩, L⟩
  exact ⟨⟨⟨f.1.toArray⟩, ⟨f.2.toArray⟩, er, rfl, h⟩, L⟩
theorem fcells_1 (N M : ByteArray) : fcells [((N.data.toList, M.data.toList) : Fd)] = [.string N, .string M] := by
  show [sv N.data.toList, sv M.data.toList] = _
  rw [sv, sv, ← str_eta, ← str_eta]
end Go.Proofs.YtmnnbfaaaifcoaaGreatDoor

/- target.Print. -/
import Derived.Test.YtlambdccmfnloaaGreatDoorTRef5
import Derived.BigRegion
namespace Go.Proofs.YtlambdccmfnloaaGreatDoor
open Go.RowKit
set_option maxRecDepth 100000
set_option maxHeartbeats 2000000

theorem tgt_Print (f : Int) (h p q : ByteArray) (w : World) (hm : ML w) (b3 : h.size ≤ 1000000) (b1 : p.size ≤ 1000000) (b2 : q.size ≤ 1000000) :
    Calls Tryz.prog 34 #[.agg #[.int .i64 f, .string h, .string p, .string q]] w fun e w' => e = .returned (printV (printL ⟨f, h.data.toList, p.data.toList, q.data.toList⟩)) ∧ Below w.heap.size w w' := by
  have hpl := pathL_len p.data.toList
  rw [len_data] at hpl
  obtain ⟨X, hX⟩ : ∃ X : ByteArray, X = ⟨(pathL p.data.toList).toArray⟩ := ⟨_, rfl⟩
  have hXl : X.data.toList = pathL p.data.toList := by rw [hX]
  have hXs : X.size ≤ 3000000 := by rw [← len_data, hXl]; omega
  have hXe := hX.symm
  obtain ⟨Y, hYl, hYs, hYc⟩ : ∃ Y : ByteArray, Y.data.toList = baseL ⟨f, h.data.toList, p.data.toList, q.data.toList⟩ ∧ Y.size ≤ 4000001 ∧ ((q.toList.isEmpty = true ∧ X = Y) ∨ (q.toList.isEmpty = false ∧ (X ++ (⟨#[63]⟩ ++ q) : ByteArray) = Y)) := by
    by_cases hq : q.data.toList = []
    · refine ⟨X, ?_, by omega, .inl ⟨by rw [ByteArray.toList_eq, hq]; rfl, rfl⟩⟩
      unfold baseL
      rw [if_pos hq, List.append_nil, hXl]
    · refine ⟨_, ?_, ?_, .inr ⟨by rw [ByteArray.toList_eq]; simpa using hq, rfl⟩⟩
      · unfold baseL
        rw [if_neg hq, app_data, app_data, hXl]; rfl
      · rw [ByteArray.size_append, ByteArray.size_append]; show _ + (1 + q.size) ≤ _; omega
  clear hpl hX hXl
  have HY := Lib.hid hYl
  clear hYl
  have LW : Below w.heap.size w (w.alloc (.cells #[.int .i64 f, .string h, .string p, .string q] 23)) := allocW (Below.refl _ _) _
  have B1 : Blk (w.alloc (.cells #[.int .i64 f, .string h, .string p, .string q] 23)) w.heap.size 23 #[.int .i64 f, .string h, .string p, .string q] := Blk.new' _ _ rfl _ _
  have hm1 := hm.below LW (Nat.le_refl _)
  go_enter Tryz.func34, Tryz.ntmps34
  obtain ⟨j0, j1, j2, j3, i0, i1, i2, i3⟩ := B1.c4
  go_wp2_with fail
  obtain ⟨V, hV⟩ : ∃ V, V = w.alloc (.cells #[.int .i64 f, .string h, .string p, .string q] 23) := ⟨_, rfl⟩
  rw [← hV] at B1 LW hm1 ⊢
  clear j0 j1 j2 j3 i0 i1 i2 i3
  refine (tgt_encoded p V (by omega)).mono ?_
  rintro e w2 ⟨rfl, L2⟩
  have B2 := B1.belowW L2
  have LL := stepW LW L2
  have hm2 := hm1.below L2 (Nat.le_refl _)
  clear B1 LW hm1 hV
  obtain ⟨j0, j1, j2, j3, i0, i1, i2, i3⟩ := B2.c4
  unfold sv
  rw [hXe]
  go_upto_if 13 with (fail)
  go_cut [5] (fun u wx => u = .string Y ∧ w2 = wx)
  case first =>
    rcases hYc with ⟨hq, rfl⟩ | ⟨hq, hqe⟩
    · rw [hq, Bool.not_true]
      go_wp2_with fail
      go_meet
      case rel => exact ⟨rfl, rfl⟩
    · rw [hq, Bool.not_false]
      go_wp2_with fail
      go_meet
      case rel => exact ⟨rfl, rfl⟩
  case rest =>
    obtain ⟨rfl, rfl⟩ := hcut
    clear hYc
    go_upto_block 0 with (fail)
    go_cut [4, 5] (fun v u wx => ∃ S M : ByteArray, u = .string S ∧ v = .string M ∧ Hid (PrAt ⟨f, h.data.toList, p.data.toList, q.data.toList⟩ S M) ∧ Below w2.heap.size w2 wx)
    case first =>
      by_cases h4 : f = 4
      · have HP : Hid (PrAt ⟨f, h.data.toList, p.data.toList, q.data.toList⟩ ⟨#[42]⟩ ⟨#[79, 80, 84, 73, 79, 78, 83]⟩) := Lib.hid ⟨print_of _ _ _ fun _ => prAt_4 _ _ _ _ h4, by show 1 < _; omega⟩
        subst h4
        go_wp2_with fail
        go_meet
        case rel => exact ⟨_, _, rfl, rfl, HP, Below.refl _ _⟩
      by_cases h3 : f = 3
      · have HP : Hid (PrAt ⟨f, h.data.toList, p.data.toList, q.data.toList⟩ h ⟨#[67, 79, 78, 78, 69, 67, 84]⟩) := Lib.hid ⟨print_of _ _ _ fun _ => prAt_3 _ _ _ _ h3, by omega⟩
        subst h3
        go_wp2_with fail
        go_quiet (fail)
        go_wp2
        go_meet
        case rel => exact ⟨_, _, rfl, rfl, HP, below_drewN' (Below.refl _ _) _⟩
      have e4 : (f == 4) = false := by simpa using h4
      have e3 : (f == 3) = false := by simpa using h3
      by_cases h2 : f = 2
      · have HP : Hid (PrAt ⟨f, h.data.toList, p.data.toList, q.data.toList⟩ (⟨#[104, 116, 116, 112, 58, 47, 47]⟩ ++ h ++ Y) ⟨#[71, 69, 84]⟩) := Lib.hid ⟨print_of _ _ _ fun _ => by rw [prAt_2 _ _ _ _ h2, ← HY.out, app_data, app_data]; rfl, by
          rw [ByteArray.size_append, ByteArray.size_append]; show 7 + h.size + Y.size < _; omega⟩
        subst h2
        go_wp2_with fail
        go_meet
        case rel => exact ⟨_, _, rfl, rfl, HP, Below.refl _ _⟩
      · have e2 : (f == 2) = false := by simpa using h2
        have HP : Hid (PrAt ⟨f, h.data.toList, p.data.toList, q.data.toList⟩ Y ⟨#[71, 69, 84]⟩) := Lib.hid ⟨print_of _ _ _ fun hk => by
          have := hk.1
          simp only at this
          rw [prAt_1 _ _ _ _ (by omega), HY.out], by omega⟩
        go_wp2_with fail
        go_meet
        case rel => exact ⟨_, _, rfl, rfl, HP, Below.refl _ _⟩
    case rest =>
      obtain ⟨S, M, rfl, rfl, HP, L3⟩ := hcut
      have B3 := B2.belowW L3
      have K3 := stepW LL L3
      have hm3 := hm2.below L3 (Nat.le_refl _)
      clear B2 LL hm2 j0 j1 j2 j3 i0 i1 i2 i3 hm
      go_wp2_with fail
      refine (tgt_Parse M S _ (Nat.lt_trans HP.out.size (by decide)) hm3).mono ?_
      have he := HP.out.eq
      generalize parseL M.data.toList S.data.toList = r at he
      obtain ⟨u, er⟩ := r
      rw [tgR_mk]
      rintro e w5 ⟨rfl, L5⟩
      have B4 := B3.belowW L5
      have K4 := stepW K3 L5
      obtain ⟨j0, j1, j2, j3, i0, i1, i2, i3⟩ := B4.c4
      have hlt := B4.lt
      clear B3 B4 K3 hm3
      by_cases h0 : er = 0
      · subst h0
        have kq : ∀ w : World, (binOp .neq 23 (tgtV u) (.agg #[.int .i64 f, .string h, .string p, .string q])).run Tryz.prog w = .ok (.bool (!tgEq u ⟨f, h.data.toList, p.data.toList, q.data.toList⟩)) w := fun w => run_neq_tg u ⟨f, h.data.toList, p.data.toList, q.data.toList⟩ w
        have kg := fun (o : Operand) (o' : Operand) (xs ys : Array Value) (w : World) => run_guard_tg .neq o o' xs ys w
        by_cases hu : u = ⟨f, h.data.toList, p.data.toList, q.data.toList⟩
        · rw [show tgEq u ⟨f, h.data.toList, p.data.toList, q.data.toList⟩ = true by simp [tgEq, hu]] at kq
          rw [if_pos (by rw [hu])] at he
          have HE := Lib.hid he
          clear he hu
          go_wp2
          go_ret2
          exact ⟨by rw [HE.out]; rfl, allocW K4 _⟩
        · rw [show tgEq u ⟨f, h.data.toList, p.data.toList, q.data.toList⟩ = false by simp [tgEq, hu]] at kq
          rw [if_neg (fun hh => hu (congrArg Prod.fst hh))] at he
          have HE := Lib.hid he
          clear he hu
          go_wp2
          go_ret2
          exact ⟨by rw [HE.out]; rfl, allocW K4 _⟩
      · have hne : (er != 0) = true := by simpa using h0
        rw [if_neg (fun hh => h0 (congrArg Prod.snd hh))] at he
        have HE := Lib.hid he
        clear he
        go_wp2
        go_ret2
        exact ⟨by rw [HE.out]; rfl, allocW K4 _⟩
end Go.Proofs.YtlambdccmfnloaaGreatDoor

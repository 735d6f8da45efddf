/- usherref11.Print. -/
import Derived.Test.YtfpojnijjpojlaaGreatDoorTRef7
import Derived.Test.YtfpojnijjpojlaaGreatDoorTEq
import Derived.Deep.CutBlock
namespace Go.Proofs.YtfpojnijjpojlaaGreatDoor
open Go.RowKit
set_option maxRecDepth 100000
set_option maxHeartbeats 2000000

theorem print_of (t : Tgt) (M S : Bs) (h : okT t → prS t = (M, S)) : printL t = if parseL M S = (t, 0) then (S, 0) else ([], 1) := by
  by_cases hp : parseL M S = (t, 0)
  · have := h (parse_ok _ _ t hp)
    rw [printL, this]
  · rw [if_neg hp]
    by_cases hk : okT t
    · rw [printL, h hk, if_neg hp]
    · exact print_bad t hk
/-- What the walk knows where the text is made. -/
structure PrAt (t : Tgt) (S M : ByteArray) : Prop where
  eq : printL t = if parseL M.data.toList S.data.toList = (t, 0) then (S.data.toList, 0) else ([], 1)
  size : S.size < 4294967000
theorem prAt_3 (f : Int) (h p q : Bs) (hf : f = 3) : prS ⟨f, h, p, q⟩ = (connB, h) := by subst hf; rfl
theorem prAt_4 (f : Int) (h p q : Bs) (hf : f = 4) : prS ⟨f, h, p, q⟩ = (optB, [42]) := by subst hf; rfl
theorem prAt_2 (f : Int) (h p q : Bs) (hf : f = 2) : prS ⟨f, h, p, q⟩ = ([71, 69, 84], httpB ++ h ++ baseL ⟨f, h, p, q⟩) := by subst hf; rfl
theorem prAt_1 (f : Int) (h p q : Bs) (hf : f = 1) : prS ⟨f, h, p, q⟩ = ([71, 69, 84], baseL ⟨f, h, p, q⟩) := by subst hf; rfl
theorem size_mk (l : Bs) : (⟨l.toArray⟩ : ByteArray).size = l.length := (len_data _).symm
theorem ref11_Print (f : Int) (h p q : ByteArray) (w : World) :
    Calls Tryz.prog 13 #[.agg #[.int .i64 f, .string h, .string p, .string q]] w fun e w' => e = .returned (printV (printL ⟨f, h.data.toList, p.data.toList, q.data.toList⟩)) ∧ Below w.heap.size w w' := by
  have LW : Below w.heap.size w (w.alloc (.cells #[.int .i64 f, .string h, .string p, .string q] 23)) := allocW (Below.refl _ _) _
  have B1 : Blk (w.alloc (.cells #[.int .i64 f, .string h, .string p, .string q] 23)) w.heap.size 23 #[.int .i64 f, .string h, .string p, .string q] := Blk.new' _ _ rfl _ _
  have hh := len_data h
  have hp := len_data p
  have hq := len_data q
  by_cases hbig : 200 < p.size ∨ 200 < q.size ∨ 200 < h.size
  · have HV := Lib.hid (print_bad ⟨f, h.data.toList, p.data.toList, q.data.toList⟩ (by
      rintro ⟨-, h1, h2, h3⟩
      have h1 : h.data.toList.length ≤ 200 := h1
      have h2 : p.data.toList.length ≤ 200 := h2
      have h3 : q.data.toList.length ≤ 200 := h3
      omega))
    obtain ⟨j0, j1, j2, j3, i0, i1, i2, i3⟩ := B1.c4
    clear hh hp hq B1
    go_enter Tryz.func13, Tryz.ntmps13
    by_cases c1 : 200 < p.size
    · clear hbig
      go_wp2
      go_ret2
      exact ⟨by rw [HV.out]; rfl, LW⟩
    · by_cases c2 : 200 < q.size
      · clear hbig
        go_wp2
        go_ret2
        exact ⟨by rw [HV.out]; rfl, LW⟩
      · have c3 : 200 < h.size := by omega
        clear hbig
        go_wp2
        go_ret2
        exact ⟨by rw [HV.out]; rfl, LW⟩
  have b1 : p.size ≤ 200 := by omega
  have b2 : q.size ≤ 200 := by omega
  have b3 : h.size ≤ 200 := by omega
  clear hbig hh hp hq
  go_enter Tryz.func13, Tryz.ntmps13
  obtain ⟨j0, j1, j2, j3, i0, i1, i2, i3⟩ := B1.c4
  go_upto_block 0 with (fail)
  go_cut [4, 5] (fun u v wx => ∃ S M : ByteArray, u = .string S ∧ v = .string M ∧ Hid (PrAt ⟨f, h.data.toList, p.data.toList, q.data.toList⟩ S M) ∧ Blk wx w.heap.size 23 #[.int .i64 f, .string h, .string p, .string q] ∧ Below w.heap.size w wx)
  case first =>
    obtain ⟨V, hV⟩ : ∃ V, V = w.alloc (.cells #[.int .i64 f, .string h, .string p, .string q] 23) := ⟨_, rfl⟩
    rw [← hV] at B1 LW
    by_cases h4 : f = 4
    · have HP : Hid (PrAt ⟨f, h.data.toList, p.data.toList, q.data.toList⟩ ⟨#[42]⟩ ⟨#[79, 80, 84, 73, 79, 78, 83]⟩) := Lib.hid ⟨print_of _ _ _ fun _ => prAt_4 _ _ _ _ h4, by show 1 < _; omega⟩
      subst h4
      go_wp2_with fail
      go_meet
      case rel => rw [← hV]; exact ⟨_, _, rfl, rfl, HP, B1, LW⟩
    by_cases h3 : f = 3
    · have HP : Hid (PrAt ⟨f, h.data.toList, p.data.toList, q.data.toList⟩ h ⟨#[67, 79, 78, 78, 69, 67, 84]⟩) := Lib.hid ⟨print_of _ _ _ fun _ => prAt_3 _ _ _ _ h3, by omega⟩
      subst h3
      go_wp2_with fail
      go_meet
      case rel => rw [← hV]; exact ⟨_, _, rfl, rfl, HP, B1, LW⟩
    have e4 : (f == 4) = false := by simpa using h4
    have e3 : (f == 3) = false := by simpa using h3
    by_cases h12 : f = 1 ∨ f = 2
    · have hb : baseL ⟨f, h.data.toList, p.data.toList, q.data.toList⟩ = pathL p.data.toList ++ if q.data.toList = [] then [] else 63 :: q.data.toList := rfl
      have hpl := pathL_len p.data.toList
      rw [len_data] at hpl
      obtain ⟨X, hX⟩ : ∃ X : ByteArray, X = ⟨(pathL p.data.toList).toArray⟩ := ⟨_, rfl⟩
      have hXl : X.data.toList = pathL p.data.toList := by rw [hX]
      have hXs : X.size ≤ 600 := by rw [← len_data, hXl]; omega
      have hXe := hX.symm
      rw [← hXl] at hb
      clear hXl hpl hX
      by_cases hq0 : q = ⟨#[]⟩
      · subst hq0
        have hb2 : baseL ⟨f, h.data.toList, p.data.toList, []⟩ = X.data.toList := by
          have h0 : baseL ⟨f, h.data.toList, p.data.toList, []⟩ = X.data.toList ++ [] := hb
          rw [h0, List.append_nil]
        clear hb
        by_cases h2 : f = 2
        · have HP : Hid (PrAt ⟨f, h.data.toList, p.data.toList, []⟩ (⟨#[104, 116, 116, 112, 58, 47, 47]⟩ ++ h ++ X) ⟨#[71, 69, 84]⟩) := Lib.hid ⟨print_of _ _ _ fun _ => by rw [prAt_2 _ _ _ _ h2, hb2, app_data, app_data]; rfl, by
            rw [ByteArray.size_append, ByteArray.size_append]; show 7 + h.size + X.size < _; omega⟩
          subst h2
          clear hb2 h12
          go_wp2_with fail
          rw [← hV]
          refine (ref11_path p V (by omega)).mono ?_
          rintro e w2 ⟨rfl, L2⟩
          have B2 := B1.belowW L2
          obtain ⟨a0, a1, a2, a3, -, -, -, -⟩ := B2.c4
          have L3 := stepW LW L2
          clear j0 j1 j2 j3 i0 i1 i2 i3 B1
          unfold sv
          rw [hXe]
          go_wp2_with fail
          go_meet
          case rel => exact ⟨_, _, rfl, rfl, HP, B2, L3⟩
        · have h1 : f = 1 := by omega
          have HP : Hid (PrAt ⟨f, h.data.toList, p.data.toList, []⟩ X ⟨#[71, 69, 84]⟩) := Lib.hid ⟨print_of _ _ _ fun _ => by rw [prAt_1 _ _ _ _ h1, hb2], by omega⟩
          subst h1
          clear hb2 h12
          go_wp2_with fail
          rw [← hV]
          refine (ref11_path p V (by omega)).mono ?_
          rintro e w2 ⟨rfl, L2⟩
          have B2 := B1.belowW L2
          obtain ⟨a0, a1, a2, a3, -, -, -, -⟩ := B2.c4
          have L3 := stepW LW L2
          clear j0 j1 j2 j3 i0 i1 i2 i3 B1
          unfold sv
          rw [hXe]
          go_wp2_with fail
          go_meet
          case rel => exact ⟨_, _, rfl, rfl, HP, B2, L3⟩
      · have hqn : q.data.toList ≠ [] := fun hh => hq0 (by
          have : q = ⟨q.data.toList.toArray⟩ := rfl
          rw [this, hh])
        have hqe : q.toList.isEmpty = false := by rw [ByteArray.toList_eq]; simpa using hqn
        rw [if_neg hqn] at hb
        by_cases h2 : f = 2
        · have HP : Hid (PrAt ⟨f, h.data.toList, p.data.toList, q.data.toList⟩ (⟨#[104, 116, 116, 112, 58, 47, 47]⟩ ++ h ++ (X ++ ⟨#[63]⟩ ++ q)) ⟨#[71, 69, 84]⟩) := Lib.hid ⟨print_of _ _ _ fun _ => by rw [prAt_2 _ _ _ _ h2, hb]; simp only [app_data, List.append_assoc]; rfl, by
            simp only [ByteArray.size_append]; show 7 + h.size + (X.size + 1 + q.size) < _; omega⟩
          subst h2
          clear hb h12 hqn
          go_wp2_with fail
          rw [← hV]
          refine (ref11_path p V (by omega)).mono ?_
          rintro e w2 ⟨rfl, L2⟩
          have B2 := B1.belowW L2
          obtain ⟨a0, a1, a2, a3, -, -, -, -⟩ := B2.c4
          have L3 := stepW LW L2
          clear j0 j1 j2 j3 i0 i1 i2 i3 B1
          unfold sv
          rw [hXe]
          go_wp2_with fail
          go_meet
          case rel => exact ⟨_, _, rfl, rfl, HP, B2, L3⟩
        · have h1 : f = 1 := by omega
          have HP : Hid (PrAt ⟨f, h.data.toList, p.data.toList, q.data.toList⟩ (X ++ ⟨#[63]⟩ ++ q) ⟨#[71, 69, 84]⟩) := Lib.hid ⟨print_of _ _ _ fun _ => by rw [prAt_1 _ _ _ _ h1, hb]; simp only [app_data, List.append_assoc]; rfl, by
            simp only [ByteArray.size_append]; show (X.size + 1 + q.size) < _; omega⟩
          subst h1
          clear hb h12 hqn
          go_wp2_with fail
          rw [← hV]
          refine (ref11_path p V (by omega)).mono ?_
          rintro e w2 ⟨rfl, L2⟩
          have B2 := B1.belowW L2
          obtain ⟨a0, a1, a2, a3, -, -, -, -⟩ := B2.c4
          have L3 := stepW LW L2
          clear j0 j1 j2 j3 i0 i1 i2 i3 B1
          unfold sv
          rw [hXe]
          go_wp2_with fail
          go_meet
          case rel => exact ⟨_, _, rfl, rfl, HP, B2, L3⟩
    · have e1 : (f == 1) = false := by simp; omega
      have e2 : (f == 2) = false := by simp; omega
      have HP : Hid (PrAt ⟨f, h.data.toList, p.data.toList, q.data.toList⟩ ⟨#[]⟩ ⟨#[71, 69, 84]⟩) := Lib.hid ⟨print_of _ _ _ fun hk => by
        have := hk.1
        simp only at this
        omega, by show 0 < _; omega⟩
      go_wp2_with fail
      go_meet
      case rel => rw [← hV]; exact ⟨_, _, rfl, rfl, HP, B1, LW⟩
  case rest =>
    obtain ⟨S, M, rfl, rfl, HP, B2, L2⟩ := hcut
    clear B1 LW j0 j1 j2 j3 i0 i1 i2 i3
    go_wp2_with fail
    refine (ref11_Parse M S _ HP.out.size).mono ?_
    have he := HP.out.eq
    generalize parseL M.data.toList S.data.toList = r at he
    obtain ⟨u, er⟩ := r
    rw [tgR_mk]
    rintro e w3 ⟨rfl, L3⟩
    have B3 := B2.belowW L3
    have K3 := stepW L2 L3
    clear B2 L2
    obtain ⟨j0, j1, j2, j3, i0, i1, i2, i3⟩ := B3.c4
    have hlt := B3.lt
    have LL := K3
    clear B3 K3
    by_cases h0 : er = 0
    · subst h0
      have kq : ∀ w : World, (binOp .neq 23 (tgtV u) (.agg #[.int .i64 f, .string h, .string p, .string q])).run Tryz.prog w = .ok (.bool (!tgEq u ⟨f, h.data.toList, p.data.toList, q.data.toList⟩)) w := fun w => run_neq_tg u ⟨f, h.data.toList, p.data.toList, q.data.toList⟩ w
      have kg := fun (o : Operand) (o' : Operand) (xs ys : Array Value) (w : World) => run_guard_tg .neq o o' xs ys w
      by_cases hu : u = ⟨f, h.data.toList, p.data.toList, q.data.toList⟩
      · rw [show tgEq u ⟨f, h.data.toList, p.data.toList, q.data.toList⟩ = true by simp [tgEq, hu]] at kq
        rw [if_pos (by rw [hu])] at he
        have HE := Lib.hid he
        clear he hu
        go_wp2
        go_ret2
        exact ⟨by rw [HE.out]; rfl, allocW LL _⟩
      · rw [show tgEq u ⟨f, h.data.toList, p.data.toList, q.data.toList⟩ = false by simp [tgEq, hu]] at kq
        rw [if_neg (fun hh => hu (congrArg Prod.fst hh))] at he
        have HE := Lib.hid he
        clear he hu
        go_wp2
        go_ret2
        exact ⟨by rw [HE.out]; rfl, allocW LL _⟩
    · have hne : (er != 0) = true := by simpa using h0
      rw [if_neg (fun hh => h0 (congrArg Prod.snd hh))] at he
      have HE := Lib.hid he
      clear he
      go_wp2
      go_ret2
      exact ⟨by rw [HE.out]; rfl, allocW LL _⟩
end Go.Proofs.YtfpojnijjpojlaaGreatDoor

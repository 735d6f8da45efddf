/- chunk: trailer. -/
import Derived.Test.YtfapnppgbhlidaaGreatDoorKon2
import Derived.Test.YtfapnppgbhlidaaGreatDoorFldP
namespace Go.Proofs.YtfapnppgbhlidaaGreatDoor
open Go.RowKit
set_option maxRecDepth 100000
set_option maxHeartbeats 4000000

theorem cTrailer_none (r : CS) (s : Bs) (h : parseF s = none) : cTrailer r s = { r with ends := r.ends + s.length + 2, status := 400 } := by rw [cTrailer, h]
theorem cTrailer_full (r : CS) (s : Bs) (f : Fd) (h : parseF s = some f) (h2 : 512 < r.ends + s.length + 2 ∨ r.trs.length = 8) : cTrailer r s = { r with ends := r.ends + s.length + 2, status := 431 } := by rw [cTrailer, h]; simp only; rw [if_pos h2]
theorem cTrailer_some (r : CS) (s : Bs) (f : Fd) (h : parseF s = some f) (h2 : ¬ (512 < r.ends + s.length + 2 ∨ r.trs.length = 8)) : cTrailer r s = { r with ends := r.ends + s.length + 2, trs := r.trs ++ [f] } := by rw [cTrailer, h]; simp only; rw [if_neg h2]
theorem chk_trailer (g : Nat) (vl vb vt : Value) (r : CS) (s : ByteArray) (w : World) (h : KA w g vl vb vt r) (hs : s.size ≤ 1000000) (he : r.ends ≤ 1000000) (ht : r.trs.length ≤ 8) (hm : ML w) :
    Calls Tryz.prog 79 #[.pointer (some ⟨g, 0, none⟩), .string s] w (KPost w g vl vb vt (cTrailer r s.data.toList)) := by
  obtain ⟨At, ct, rfl, hb1, hb2, hb3⟩ := h.ot.form
  have hK := KW.refl h
  have hl := len_data s
  go_enter Tryz.func79, Tryz.ntmps79
  go_wp2_with fail
  refine (fld_Parse' s w hm).mono ?_
  rintro e w1 ⟨⟨N, M, er, rfl, hp⟩, L1⟩
  have hK1 := hK.belowW L1
  obtain ⟨E, hE⟩ : ∃ E : Nat, E = r.ends + s.data.toList.length + 2 := ⟨_, rfl⟩
  have ha : (r.ends : Int) + ((s.size : Int) + 2) = (r.ends : Int) + (s.size : Int) + 2 := by omega
  have hEi : (r.ends : Int) + (s.size : Int) + 2 = (E : Int) := by omega
  have HEi := Lib.hid hEi
  clear hEi
  have hEb : E ≤ 3000000 := by omega
  obtain ⟨V, hV⟩ : ∃ V, V = w1.alloc (.cells #[.string N, .string M] 63) := ⟨_, rfl⟩
  have hK2 : KW w (foot g vl vb (.slice At r.trs.length ct)) V 74 g (kCells r vl vb (.slice At r.trs.length ct)) vl vb (.slice At r.trs.length ct) r.line r.body r.trs := by rw [hV]; exact hK1.alloc
  have B1 : Blk V w1.heap.size 63 #[.string N, .string M] := by rw [hV]; exact Blk.new' _ _ rfl _ _
  have hgl : g < w1.heap.size := hK1.o.blk.lt
  go_upto_region 1 with (fail)
  rw [← hV]
  clear hV
  obtain ⟨j0, j1, j2, j3, j4, j5, j6, j7, i0, i1, i2, i3, i4, i5, i6, i7⟩ := Blk.c8 hK2.o.blk
  obtain ⟨k0, k1, n0, n1⟩ := B1.c2
  clear hK1 L1 hK
  rcases hp with ⟨hp, rfl⟩ | ⟨hp, he0⟩
  · by_cases h512 : 512 < E
    · have HR := Lib.hid (cTrailer_full r _ _ hp (.inl (by omega)))
      have g512 : (512 : Int) < (r.ends : Int) + (s.size : Int) + 2 := by omega
      clear hp
      go_wp2
      go_end0
      exact kpost (hK2.set_.set_) rfl (by rw [HR.out, ← hE, HEi.out]; rfl) (by rw [HR.out]) (by rw [HR.out]) (by rw [HR.out])
    · have h512' : (r.ends : Int) + (s.size : Int) + 2 ≤ 512 := by omega
      by_cases h8 : r.trs.length = 8
      · have HR := Lib.hid (cTrailer_full r _ _ hp (.inr h8))
        clear hp
        go_wp2
        go_end0
        exact kpost (hK2.set_.set_) rfl (by rw [HR.out, ← hE, HEi.out]; rfl) (by rw [HR.out]) (by rw [HR.out]) (by rw [HR.out])
      · have HR := Lib.hid (cTrailer_some r _ _ hp (by omega))
        have h8' : r.trs.length < 8 := by omega
        have e8 : ((r.trs.length : Int) == 8) = false := by rw [Bool.eq_false_iff]; intro h9; rw [beq_iff_eq] at h9; omega
        clear hp h8 h512
        go_wp2
        have hK3 := hK2.set_ (i := 5) (u := .int .i64 ((r.ends : Int) + (s.size : Int) + 2))
        obtain ⟨V2, hV2⟩ : ∃ V2, V2 = V.setCell ⟨g, 5, none⟩ (.int .i64 ((r.ends : Int) + (s.size : Int) + 2)) := ⟨_, rfl⟩
        have B2 : Blk V2 w1.heap.size 63 #[.string N, .string M] := by rw [hV2]; exact B1.far (p := ⟨g, 5, none⟩) (by show w1.heap.size ≠ g; omega) _
        rw [← hV2] at hK3 ⊢
        clear hV2 j0 j1 j2 j3 j4 j5 j6 j7 i0 i1 i2 i3 i4 i5 i6 i7 k0 k1 n0 n1 B1 hK2
        obtain ⟨j0, j1, j2, j3, j4, j5, j6, j7, i0, i1, i2, i3, i4, i5, i6, i7⟩ := Blk.c8 hK3.o.blk
        obtain ⟨k0, k1, n0, n1⟩ := B2.c2
        have hK4 := hK3.alloc (o := .cells #[.string N, .string M] 63)
        obtain ⟨y0, y1, y2, y3, y4, y5, y6, y7, z0, z1, z2, z3, z4, z5, z6, z7⟩ := Blk.c8 hK4.o.blk
        go_region_law (refine step_appF rfl (.tmp 25) (.tmp 27) rfl 0 (.slice At r.trs.length ct) r.trs rfl hK3.o.ot (allocW ((Below.refl _ _).drew) _) _ 1 1 (V2.heap.size + 1) rfl [(N.data.toList, M.data.toList)] rfl (by rw [fcells_1]; exact Rd.new V2.drew _ rfl [.string N, .string M] _ 1 2 rfl) (by simp; omega) (Nat.zero_le _) ?_; intro v' w3 ho3 hx3; obtain ⟨A3, c3, hv3, hc31, hc32, hc33⟩ := ho3.form; rw [show (r.trs ++ [(N.data.toList, M.data.toList)]).length = r.trs.length + 1 by simp] at hv3; subst hv3; have hK5 := hK3.extT hx3 ho3; obtain ⟨q0, q1, q2, q3, q4, q5, q6, q7, p0, p1, p2, p3, p4, p5, p6, p7⟩ := Blk.c8 hK5.o.blk)
        all_goals
          go_wp2
          go_end0
          exact kpost hK5.set_ rfl (by rw [HR.out, ← hE, HEi.out]; rfl) (by rw [HR.out]) (by rw [HR.out]) (by rw [HR.out])
  · have HR := Lib.hid (cTrailer_none r _ hp)
    have he1 : (er != 0) = true := by simp; omega
    clear hp he0
    go_wp2
    go_end0
    exact kpost (hK2.set_.set_) rfl (by rw [HR.out, ← hE, HEi.out]; rfl) (by rw [HR.out]) (by rw [HR.out]) (by rw [HR.out])
end Go.Proofs.YtfapnppgbhlidaaGreatDoor

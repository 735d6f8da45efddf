/- reply: while, number, name, value. -/
import Derived.Test.YtlambdccmfnloaaGreatDoorReM
import Derived.Deep.LoopGhost
import Derived.IntWalk
namespace Go.Proofs.YtlambdccmfnloaaGreatDoor
open Go.RowKit
set_option maxRecDepth 100000
set_option maxHeartbeats 4000000

theorem below_undrew {B : Nat} {w w1 : World} (h : Below B w.drew w1) : Below B w w1 := ⟨h.os, h.tape, h.output, h.size, h.block⟩
/-- x[lo:hi] of bytes, as a rule of the walk. -/
theorem cut_rule {w : World} {B n : Nat} {A : Option Addr} {l : Bs} (c lo hi : Nat) (hr : Rd w B 1 A n (l.map bv)) (hlo : lo ≤ hi) (hhi : hi ≤ n) (hc : n ≤ c) :
    ∃ A' c', hi - lo ≤ c' ∧ (∀ w : World, (Instr.sliceAt 25 (.slice A n c) (some (.int .i64 (lo : Int))) (some (.int .i64 (hi : Int))) none).run Tryz.prog w = .ok (.slice A' (hi - lo) c') w) ∧ Rd w B 1 A' (hi - lo) (((l.drop lo).take (hi - lo)).map bv) := by
  have hu : Tryz.prog.underlying 25 = some (.slice (Tryz.prog.elem 25)) := by kernel_rfl
  have hz : ∀ w : World, (sizeOf (Tryz.prog.elem 25)).run Tryz.prog w = .ok 1 w := fun w => by kernel_rfl
  refine ⟨if c = lo then A else A.map (·.add (lo * 1)), c - lo, by omega, fun w => ?_, ?_⟩
  · rw [run_sliceAt_slice w 25 _ _ _ _ hu, run_slice_lh w 25 A n c hu .i64 .i64 lo hi (by omega) (by omega) (by omega), hz]
    simp [Result.andThen, sliced]
  · split
    · have h0 : hi - lo = 0 := by omega
      rw [h0, List.take_zero]
      exact Rd.nil _ _ _ _
    · have h1 := (hr.cutFrom (k := lo) (by omega)).cutTo (k := hi - lo) (by omega)
      rw [Nat.mul_one, Nat.mul_one] at h1
      rw [List.map_take, List.map_drop]
      rw [Nat.mul_one]
      exact h1
/-- So many bytes that are so. -/
def spanL (p : UInt8 → Bool) (most : Nat) (r : Bs) : Bs := (r.take most).takeWhile p
theorem spanL_nil (p : UInt8 → Bool) (most : Nat) : spanL p most [] = [] := by simp [spanL]
theorem spanL_zero (p : UInt8 → Bool) (r : Bs) : spanL p 0 r = [] := by simp [spanL]
theorem spanL_no (p : UInt8 → Bool) (most : Nat) (c : UInt8) (r : Bs) (h : p c = false) : spanL p most (c :: r) = [] := by
  cases most <;> simp [spanL, h]
theorem spanL_yes (p : UInt8 → Bool) (most : Nat) (c : UInt8) (r : Bs) (h : p c = true) : spanL p (most + 1) (c :: r) = c :: spanL p most r := by
  simp [spanL, h]
/-- What comes of it. -/
def WhileP (w : World) (g : Nat) (P : Bs) (hd : Bool) (s : RSt) (a : Bs) (e : Ending) (w' : World) : Prop :=
  e = .returned (sv a) ∧ RdT w' g P hd { s with r := s.r.drop a.length } ∧ FrA g w w'
theorem rd_while (f : FuncId) (p : UInt8 → Bool) (hf : IsP f p) (most : Nat) {w : World} {g : Nat} {P : Bs} {hd : Bool} {s : RSt} (q : RdT w g P hd s) (hP : P.length ≤ 1000000) (_hm : most ≤ 1000000) :
    Calls Tryz.prog 158 #[.pointer (some ⟨g, 0, none⟩), .int .i64 (most : Int), .func (.func f) #[] #[]] w (WhileP w g P hd s (spanL p most s.r)) := by
  obtain ⟨x, k0, q⟩ := q
  obtain ⟨hcf, hf⟩ := hf
  obtain ⟨j0, j1, -⟩ := q.c8
  go_enter Tryz.func158, Tryz.ntmps158
  go_wp2
  go_loopg [] s.r.length (fun gk wr => ∃ (j : Nat) (r : Bs), j + gk = s.r.length ∧ r.length = gk ∧ s.r.drop j = r ∧ RM wr g P hd x (k0 + j) { s with r := r } ∧ FrA g w wr ∧ j ≤ most ∧ Hid (spanL p most s.r = s.r.take j ++ spanL p (most - j) r))
  case atStart => exact ⟨0, s.r, by omega, rfl, rfl, q, FrA.refl _ _, Nat.zero_le _, by rw [List.take_zero]; rfl⟩
  case round =>
    obtain ⟨j, r, hj, hr, hdr, q1, hb, hjm, H⟩ := hrel
    have hat := q1.at_
    simp only [] at hat
    generalize hK : k0 + j = K at *
    have HK := Lib.hid hK
    have hk0 : k0 ≤ K := by omega
    clear hK
    obtain ⟨j0, j1, -, -, -, -, -, -, -, i1, -⟩ := q1.c8
    have hbm := fun m => hb.drewN m
    have qm := fun m => q1.drewN m
    rcases r with _ | ⟨c, r⟩
    · have HE := Lib.hid (show s.r.take j = spanL p most s.r by rw [H.out, spanL_nil, List.append_nil])
      have hkP : K = P.length := by simpa using hat
      have hge : ¬ K < P.length := by omega
      have hgi : ¬ (K : Int) < (P.length : Int) := by omega
      have hlen := congrArg List.length HE.out
      rw [List.length_take] at hlen
      have HF := Lib.hid (fun (V : World) (h : RM V g P hd x K { s with r := [] }) => (⟨x, K, by rw [show s.r.drop (spanL p most s.r).length = [] from by rw [← hlen, Nat.min_eq_left (by omega), hdr]]; exact h⟩ : RdT V g P hd { s with r := s.r.drop (spanL p most s.r).length }))
      clear hkP hat hj hr hlen hdr
      go_wp2_with fail
      go_quiet (fail)
      obtain ⟨W, hW⟩ : ∃ W, W = wr.drewN nq := ⟨_, rfl⟩
      have QF := qm nq
      have hbF := hbm nq
      rw [← hW] at QF hbF ⊢
      clear hW qm hbm j0 j1 i1 q1 hb
      obtain ⟨f0, f1, -, -, -, -, -, -, -, -, -⟩ := QF.c8
      have hKP : K ≤ P.length := by have := QF.at_; omega
      obtain ⟨A', c', hc', hsl, hrd⟩ := cut_rule x.c k0 K QF.rd hk0 hKP QF.cap
      have hl : (P.drop k0).take (K - k0) = spanL p most s.r := by rw [q.rest, ← HE.out, ← HK.out, Nat.add_sub_cancel_left]
      rw [hl] at hrd
      have hcv := fun m => run_str_rd (P := Tryz.prog) (hrd.drewN m) c' 25 5 9 Tryz.underlying25 Tryz.underlying5 Tryz.underlying9
      clear hl hrd HE
      go_wp2_with fail
      go_quiet (fail)
      go_wp2
      go_ret
      exact ⟨rfl, HF.out _ (QF.drewN _), hbF.drewN _⟩
    · have hkl : K < P.length := by simp at hat; omega
      have hki : (K : Int) < (P.length : Int) := by omega
      have hK1 : (K : Int) ≤ 1000000 := by omega
      obtain ⟨b, o, ha, hbg, hc, -⟩ := q1.here c r rfl
      have hi0 : (0 : Int) ≤ (K : Int) := by omega
      have hi2 : (K : Int).toNat = K := by omega
      have hwr : IntKind.i64.wrap ((K : Int) - (k0 : Int)) = (K : Int) - (k0 : Int) := IntWalk.i64_in _ (by omega)
      have HF0 := Lib.hid (fun (hx : s.r.take j = spanL p most s.r) (V : World) (h : RM V g P hd x K { s with r := c :: r }) => (⟨x, K, by rw [show s.r.drop (spanL p most s.r).length = c :: r from by have := congrArg List.length hx; rw [List.length_take] at this; rw [← this, Nat.min_eq_left (by omega), hdr]]; exact h⟩ : RdT V g P hd { s with r := s.r.drop (spanL p most s.r).length }))
      have hjK := HK.out
      rcases Nat.lt_or_ge j most with hlt | hge
      · have hd1 : (K : Int) - (k0 : Int) < (most : Int) := by omega
        rw [ha] at j0
        have S0 : wr.cell? ⟨g, 0, none⟩ = some (.slice (some ⟨b, o, none⟩) P.length x.c) ∧ wr.cell? ⟨g, 1, none⟩ = some (.int .i64 (K : Int)) ∧ wr.cell? ⟨b, o + K, none⟩ = some (bv c) := ⟨j0, j1, hc⟩
        have hS : ∀ w1, Below wr.heap.size wr w1 → w1.cell? ⟨g, 0, none⟩ = some (.slice (some ⟨b, o, none⟩) P.length x.c) ∧ w1.cell? ⟨g, 1, none⟩ = some (.int .i64 (K : Int)) ∧ w1.cell? ⟨b, o + K, none⟩ = some (bv c) :=
          fun w1 L => ⟨(L.cell (p := ⟨g, 0, none⟩) q1.lt).trans j0, (L.cell (p := ⟨g, 1, none⟩) q1.lt).trans j1, (L.cell (p := ⟨b, o + K, none⟩) (Nat.lt_trans hbg q1.lt)).trans hc⟩
        have HS := Lib.hid hS
        clear hS
        cases hp : p c
        · have HE := Lib.hid (show s.r.take j = spanL p most s.r by rw [H.out, spanL_no p _ c r hp, List.append_nil])
          have HF := Lib.hid (HF0.out HE.out)
          have HA := Lib.hid ha
          have hcl := fun w => hf c w
          rw [hp] at hcl
          clear hjK hp hdr hj hr hat HF0
          go_wp2_with fail
          go_region_held3 (fun w' => w'.cell? ⟨g, 0, none⟩ = some (.slice (some ⟨b, o, none⟩) P.length x.c) ∧ w'.cell? ⟨g, 1, none⟩ = some (.int .i64 (K : Int)) ∧ w'.cell? ⟨b, o + K, none⟩ = some (bv c)) (first | with_reducible exact S0 | with_reducible exact S5 | go_keep) ((refine (hcl _).mono ?_; rintro e w1 ⟨rfl, L1⟩; have L2 := below_undrew L1; have S5 := HS.out w1 L2))
          have QF := q1.belowW L2
          have hbF := hb.belowW L2 q.lt
          clear j0 j1 S0 S5 HS hcl ha hc L1 hbm qm i1 q1 hb L2
          obtain ⟨f0, f1, -, -, -, -, -, -, -, -, -⟩ := QF.c8
          have hKP : K ≤ P.length := by have := QF.at_; omega
          obtain ⟨A', c', hc', hsl, hrd⟩ := cut_rule x.c k0 K QF.rd hk0 hKP QF.cap
          rw [HA.out] at f0 hsl
          have hl : (P.drop k0).take (K - k0) = spanL p most s.r := by rw [q.rest, ← HE.out, ← HK.out, Nat.add_sub_cancel_left]
          rw [hl] at hrd
          have hcv := fun m => run_str_rd (P := Tryz.prog) (hrd.drewN m) c' 25 5 9 Tryz.underlying25 Tryz.underlying5 Tryz.underlying9
          clear hl hrd HE
          go_wp2_with fail
          go_quiet (fail)
          go_wp2
          go_ret
          exact ⟨rfl, HF.out _ (QF.drewN _), hbF.drewN _⟩
        · have hnext : s.r.take (j + 1) = s.r.take j ++ [c] := by
            rw [List.take_add_one]
            congr 1
            rw [← List.head?_drop, hdr]; rfl
          have HN := Lib.hid (show spanL p most s.r = s.r.take (j + 1) ++ spanL p (most - (j + 1)) r by rw [H.out, hnext, show most - j = most - (j + 1) + 1 by omega, spanL_yes p _ c r hp]; simp)
          have HD := Lib.hid (show s.r.drop (j + 1) = r by rw [← List.drop_drop, hdr]; rfl)
          have hcl := fun w => hf c w
          rw [hp] at hcl
          clear hjK hp hdr hnext hat HF0
          go_wp2_with fail
          go_region_held3 (fun w' => w'.cell? ⟨g, 0, none⟩ = some (.slice (some ⟨b, o, none⟩) P.length x.c) ∧ w'.cell? ⟨g, 1, none⟩ = some (.int .i64 (K : Int)) ∧ w'.cell? ⟨b, o + K, none⟩ = some (bv c)) (first | with_reducible exact S0 | with_reducible exact S5 | go_keep) ((refine (hcl _).mono ?_; rintro e w1 ⟨rfl, L1⟩; have L2 := below_undrew L1; have S5 := HS.out w1 L2))
          have QF := q1.belowW L2
          have hbF := hb.belowW L2 q.lt
          have QS := QF.step c r rfl
          obtain ⟨f0, f1, -, -, -, -, -, -, -, fi1, -⟩ := QF.c8
          rw [ha] at f0
          clear j0 j1 S0 S5 HS hcl hc L1 hbm qm i1 q1 hb L2
          go_wp2
          go_roundg r.length
          case rel => exact ⟨j + 1, r, by simp at hr; omega, rfl, HD.out, by rw [show k0 + (j + 1) = K + 1 by have := HK.out; omega]; exact QS, hbF.on1 _, by omega, HN⟩
          case measure => simp at hr; omega
      · have hd1 : ¬ (K : Int) - (k0 : Int) < (most : Int) := by omega
        have hd2 : decide ((K : Int) - (k0 : Int) < (most : Int)) = false := by simpa using hd1
        have HE := Lib.hid (show s.r.take j = spanL p most s.r by rw [H.out, show most - j = 0 by omega, spanL_zero, List.append_nil])
        have HF := Lib.hid (HF0.out HE.out)
        clear hjK hdr hj hr hat HF0 ha hc hbg
        go_wp2_with fail
        go_quiet (fail)
        obtain ⟨W, hW⟩ : ∃ W, W = wr.drewN nq := ⟨_, rfl⟩
        have QF := qm nq
        have hbF := hbm nq
        rw [← hW] at QF hbF ⊢
        clear hW qm hbm j0 j1 i1 q1 hb
        obtain ⟨f0, f1, -, -, -, -, -, -, -, -, -⟩ := QF.c8
        have hKP : K ≤ P.length := by have := QF.at_; omega
        obtain ⟨A', c', hc', hsl, hrd⟩ := cut_rule x.c k0 K QF.rd hk0 hKP QF.cap
        have hl : (P.drop k0).take (K - k0) = spanL p most s.r := by rw [q.rest, ← HE.out, ← HK.out, Nat.add_sub_cancel_left]
        rw [hl] at hrd
        have hcv := fun m => run_str_rd (P := Tryz.prog) (hrd.drewN m) c' 25 5 9 Tryz.underlying25 Tryz.underlying5 Tryz.underlying9
        clear hl hrd HE
        go_wp2_with fail
        go_quiet (fail)
        go_wp2
        go_ret
        exact ⟨rfl, HF.out _ (QF.drewN _), hbF.drewN _⟩
end Go.Proofs.YtlambdccmfnloaaGreatDoor

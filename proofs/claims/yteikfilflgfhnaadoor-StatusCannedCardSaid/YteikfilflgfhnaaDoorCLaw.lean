/- status.Canned held against the document's answer. -/
import Derived.Test.YteikfilflgfhnaaDoorSays
namespace Go.Proofs.YteikfilflgfhnaaDoor
open Go.RowKit
set_option maxRecDepth 100000
set_option maxHeartbeats 2000000

theorem Own.empty (w : World) (g : Nat) (hg : g = w.heap.size) (base : Nat) (hb : base ≤ g) (e : TypeId) (size : Nat) : Own (w.alloc (.cells #[] e)) base e size (.slice (some ⟨g, 0, none⟩) 0 0) 0 [] :=
  ⟨by simp, .inr ⟨g, 0, #[], (0, 0), rfl, hb, by rw [hg]; exact heap_alloc_new w _, .inl (Nat.le_refl _), Nat.le_refl _, Nat.zero_le _, by simp, by simp⟩⟩

theorem fields_yes (A1 : Option Addr) (n1 c1 : Nat) (A2 : Option Addr) (n2 c2 : Nat) (l : List Fd) (w : World) (h1 : Rd w w.heap.size 2 A1 n1 (fcells l)) (h2 : Rd w w.heap.size 2 A2 n2 (fcells l)) (hn : l.length ≤ maxLen) :
    Calls Tryd.prog 31 #[.slice A1 n1 c1, .slice A2 n2 c2] w fun e w' => e = .returned (.bool true) ∧ Below w.heap.size w w' := by
  refine (law_fields A1 n1 c1 l A2 n2 c2 l w h1 h2 ?_).mono fun e w' ⟨he, hb⟩ => ⟨by rw [he, decide_eq_true rfl], hb⟩
  have := h1.1; rw [fcells_len] at this; omega
theorem same_yes (A1 : Option Addr) (n1 c1 : Nat) (A2 : Option Addr) (n2 c2 : Nat) (l : Bs) (w : World) (h1 : Rd w w.heap.size 1 A1 n1 (l.map bv)) (h2 : Rd w w.heap.size 1 A2 n2 (l.map bv)) (hn : l.length ≤ maxLen) :
    Calls Tryd.prog 32 #[.slice A1 n1 c1, .slice A2 n2 c2] w fun e w' => e = .returned (.bool true) ∧ Below w.heap.size w w' := by
  refine (law_same A1 n1 c1 l A2 n2 c2 l w h1 h2 ?_).mono fun e w' ⟨he, hb⟩ => ⟨by rw [he, decide_eq_true rfl], hb⟩
  have := h1.1; simp at this; omega
theorem cannedB_len (c : Int) (hc1 : c ≤ 9223372036854775807) : (cannedB c).length ≤ maxLen := by
  have h1 := digs10_len c.toNat (by omega)
  have h2 := phrase_len c
  unfold cannedB maxLen
  split
  · simp
  · simp; omega
theorem cannedF_len (c : Int) (l : List Fd) (h : l.length ≤ 1000000) : (cannedF c l).length ≤ maxLen := by
  unfold cannedF maxLen
  split <;> simp <;> omega

theorem law_Canned (c : Int) (A : Option Addr) (n cp : Nat) (l : List Fd) (w : World) (hA : Rd w w.heap.size 2 A n (fcells l)) (hl : ∀ f ∈ l, f.1.length ≤ 140737488355328 ∧ f.2.length ≤ 140737488355328)
    (hc0 : -9223372036854775808 ≤ c) (hc1 : c ≤ 9223372036854775807) (ht : Tab10 w) (hn : n ≤ maxLen) :
    Calls Tryd.prog 6 #[.int .i64 c, .slice A n cp] w fun e w' => e = .returned (.bool true) ∧ Below w.heap.size w w' := by
  unfold maxLen at hn
  obtain ⟨i0, hi, hz0, hz1, hz2⟩ := info_parts info_fd
  have e1 : l.length = n := by have := hA.1; rw [fcells_len] at this; omega
  go_enter Tryd.func6, Tryd.ntmps6
  go_wp2
  go_loopw [5, 6] (fun z i wr => ∃ k y q : Nat, k ≤ n ∧ k ≤ y ∧ y ≤ 2000 ∧ z = .int .i64 y ∧ i = .int .i64 k ∧ wr = w.drewN q) (fun _ i _ => n - (intOf i).toNat)
  case atStart => exact ⟨0, 0, 0, Nat.zero_le _, Nat.le_refl _, Nat.zero_le _, rfl, rfl, rfl⟩
  case round =>
    obtain ⟨k, y, q, hk, hky, hy, rfl, rfl, rfl⟩ := hrel
    by_cases hlt : k < n
    · obtain ⟨b1, o1, rfl, hb1, hx1⟩ := hA.2 (by omega)
      obtain ⟨x, hx, -⟩ := drop_list l k (by omega)
      obtain ⟨cx0, cx1⟩ := fcells_at _ _ _ hx
      have cx := hx1 (k * 2) _ cx0
      have cx' := hx1 (k * 2 + 1) _ cx1
      rw [← Nat.add_assoc] at cx'
      obtain ⟨l1, l2⟩ := hl x (List.mem_of_getElem? hx)
      have s1 : IntKind.i64.wrap ((y : Int) + 1) = (y : Int) + 1 := IntWalk.i64_in _ ⟨by omega, by omega⟩
      have s2 : IntKind.i64.wrap ((y : Int) + 1 + (x.1.length : Int)) = (y : Int) + 1 + (x.1.length : Int) := IntWalk.i64_in _ ⟨by omega, by omega⟩
      have s3 : IntKind.i64.wrap ((y : Int) + 1 + (x.1.length : Int) + (x.2.length : Int)) = (y : Int) + 1 + (x.1.length : Int) + (x.2.length : Int) := IntWalk.i64_in _ ⟨by omega, by omega⟩
      clear hA hx1 cx0 cx1
      go_wp2
      go_quiet (fail)
      go_wp2
      · go_ret
        exact ⟨rfl, by repeat (first | exact Below.refl _ _ | apply below_drewN')⟩
      · go_roundw
        case rel => exact ⟨k + 1, y + 1 + x.1.length + x.2.length, q + nq, by omega, by omega, by omega, by go_num, by go_num, by simp [World.drewN]⟩
        case measure => simp [intOf]; omega
    · have hkn : n ≤ 2000 := by omega
      have L0 : Below w.heap.size w (w.drewN q) := below_drewN' (Below.refl _ _) _
      go_wp2_with (first
        | (at_builtin
           go_must (
             refine wpList_append_Own _ rfl (.tmp 34) (.tmp 35) 23 23 rfl w.heap.size 34 i0 _ 2 32 Tryd.underlying23 (.inl Tryd.underlying23) hi hz0 hz1 hz2 rfl (by decide) (.slice (some ⟨w.heap.size, 0, none⟩) 0 0) 0 [] rfl (Own.empty _ _ rfl _ (Nat.le_refl _) _ _) _ n (fcells l) rfl (Src.of_rd (((hA.below L0).alloc (Nat.le_refl _) _)) (fcells_one _)) (by unfold maxLen; omega) (by omega) (by simp) ?_
             intro v1 w1 ho1 hg1 hat1
             obtain ⟨A7, c7, hv1, n1, m1, r1, q1⟩ := ho1.rd
             subst hv1)
           have L1 : Below w.heap.size w w1 := growW (allocW L0 _) hg1 (by intro k hk; cases hk; exact Nat.le_refl _)
           have R1 : Rd w1 w1.heap.size 2 A7 n (fcells l) := by have h := ho1.rdS.2.2; simpa using h
           clear hg1 hat1 ho1 r1))
      refine (sta_Canned c A7 n c7 l w1 R1 hc0 hc1 (tab_below ht L1 (Nat.le_refl _)) (by omega)).mono ?_
      rintro e w2 ⟨v, rfl, ⟨B1, m1, d1, B2, m2, d2, rfl, F1, G1, g1, g2⟩, L2⟩
      have L12 := stepW L1 L2
      have S12 := L12.size
      have R2 : Rd w2 w2.heap.size 2 A7 n (fcells l) := (R1.below L2).more L2.size
      clear L2
      go_wp2_with fail
      refine (ref_Canned c A n cp l _ (((hA.below L12).alloc S12 _).more (by simp; omega)) hc1 (by omega)).mono ?_
      rintro e w4 ⟨v, rfl, ⟨C1, m3, d3, C2, m4, d4, rfl, F2, G2, g3, g4⟩, L4⟩
      have L14 := stepW (allocW L12 _) L4
      have S4 : w2.heap.size + 1 ≤ w4.heap.size := by have := L4.size; simpa using this
      have bl8 := (Blk.new w2 37 #[.int .i64 c, .slice B1 m1 d1, .slice B2 m2 d2, .slice none 0 0]).belowW L4 |>.alloc (.cells #[.int .i64 c, .slice C1 m3 d3, .slice C2 m4 d4, .slice none 0 0] 37)
      obtain ⟨k0, k1, k2, k3, f0, f1, f2, f3⟩ := bl8.c4
      have R4 : Rd w4 w4.heap.size 2 A7 n (fcells l) := (((R2.alloc (Nat.le_refl _) _).more (by simp)).below L4).more L4.size
      have F4 : Rd w4 w4.heap.size 2 B1 m1 (fcells (cannedF c l)) := (((F1.alloc (Nat.le_refl _) _).more (by simp)).below L4).more L4.size
      have G4 : Rd w4 w4.heap.size 1 B2 m2 ((cannedB c).map bv) := (((G1.alloc (Nat.le_refl _) _).more (by simp)).below L4).more L4.size
      have H4 : Rd w4 w4.heap.size 2 A n (fcells l) := (hA.below L14).more L14.size
      clear R1 R2 F1 G1 L4
      have bl9 := Blk.new w4 37 #[.int .i64 c, .slice C1 m3 d3, .slice C2 m4 d4, .slice none 0 0]
      go_wp2_with fail
      obtain ⟨w5, hw5⟩ : ∃ w5, w5 = w4.alloc (.cells #[.int .i64 c, .slice C1 m3 d3, .slice C2 m4 d4, .slice none 0 0] 37) := ⟨_, rfl⟩
      have L5 : Below w.heap.size w w5 := by rw [hw5]; exact allocW L14 _
      have R5 : Rd w5 w5.heap.size 2 A7 n (fcells l) := by rw [hw5]; exact (R4.alloc (Nat.le_refl _) _).more (by simp)
      have F5 : Rd w5 w5.heap.size 2 B1 m1 (fcells (cannedF c l)) := by rw [hw5]; exact (F4.alloc (Nat.le_refl _) _).more (by simp)
      have G5 : Rd w5 w5.heap.size 1 B2 m2 ((cannedB c).map bv) := by rw [hw5]; exact (G4.alloc (Nat.le_refl _) _).more (by simp)
      have H5 : Rd w5 w5.heap.size 2 A n (fcells l) := by rw [hw5]; exact (H4.alloc (Nat.le_refl _) _).more (by simp)
      have I5 : Rd w5 w5.heap.size 2 C1 m3 (fcells (cannedF c l)) := by rw [hw5]; exact (F2.alloc (Nat.le_refl _) _).more (by simp)
      have J5 : Rd w5 w5.heap.size 1 C2 m4 ((cannedB c).map bv) := by rw [hw5]; exact (G2.alloc (Nat.le_refl _) _).more (by simp)
      rw [← hw5] at bl8 bl9 k0 k1 k2 k3 f0 f1 f2 f3 ⊢
      clear hw5 R4 F4 G4 H4 F2 G2 k0 k1 k2 k3 f0 f1 f2 f3
      refine (fields_yes B1 m1 d1 C1 m3 d3 _ _ F5 I5 (cannedF_len c l (by omega))).mono ?_
      rintro e w6 ⟨rfl, L6⟩
      have K6 := stepW L5 L6
      replace bl8 := bl8.belowW L6
      replace bl9 := bl9.belowW L6
      have R6 := (R5.below L6).more L6.size
      have G6 := (G5.below L6).more L6.size
      have H6 := (H5.below L6).more L6.size
      have J6 := (J5.below L6).more L6.size
      clear R5 F5 G5 H5 I5 J5 L5 L6
      obtain ⟨k0, k1, k2, k3, f0, f1, f2, f3⟩ := bl8.c4
      obtain ⟨j0, j1, j2, j3, i0, i1, i2, i3⟩ := bl9.c4
      go_wp2_with fail
      clear k0 k1 k2 k3 f0 f1 f2 f3 j0 j1 j2 j3 i0 i1 i2 i3
      refine (same_yes B2 m2 d2 C2 m4 d4 _ _ G6 J6 (cannedB_len c hc1)).mono ?_
      rintro e w7 ⟨rfl, L7⟩
      have K7 := stepW K6 L7
      replace bl8 := bl8.belowW L7
      have R7 := (R6.below L7).more L7.size
      have H7 := (H6.below L7).more L7.size
      clear R6 G6 H6 J6 K6 L7
      obtain ⟨k0, k1, k2, k3, f0, f1, f2, f3⟩ := bl8.c4
      go_wp2_with fail
      clear k0 k1 k2 k3 f0 f1 f2 f3
      refine (fields_yes A7 n c7 A n cp _ _ R7 H7 (by unfold maxLen; omega)).mono ?_
      rintro e w8 ⟨rfl, L8⟩
      have K8 := stepW K7 L8
      go_wp2_with fail
      refine (law_known _ (tab_below ht K8 (Nat.le_refl _))).mono ?_
      rintro e w9 ⟨rfl, L9⟩
      have K9 := stepW K8 L9
      go_wp2
      go_ret
      exact ⟨rfl, K9⟩
end Go.Proofs.YteikfilflgfhnaaDoor

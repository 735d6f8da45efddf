/- usherlaw18: same, fields, roomy, stands. usherlaw18: ints, response (of two that are one). reply.Continue; usherref18.Continue; usherlaw18: heavy. usherlaw18: known. ReplyHeads. -/
import Derived.Test.YtmjekdnfkgalbaaGreatDoorFPl
import Derived.Test.YtmjekdnfkgalbaaGreatDoorPlain
import Derived.Test.YtmjekdnfkgalbaaGreatDoorReE
import Derived.Laws.StructEq
import Derived.Test.YtmjekdnfkgalbaaGreatDoorReF
import Derived.Test.YtmjekdnfkgalbaaGreatDoorRhA
import Derived.Lib.ConvBytes
import Derived.BigQuiet
import Derived.Test.YtmjekdnfkgalbaaGreatDoorReJ
import Derived.Lib.SlBytesConst
namespace Go.Proofs.YtmjekdnfkgalbaaGreatDoor
open Go.RowKit
set_option maxRecDepth 100000
set_option maxHeartbeats 2000000

theorem law_same18 (A1 : Option Addr) (n1 c1 : Nat) (l1 : Bs) (A2 : Option Addr) (n2 c2 : Nat) (l2 : Bs) (w : World) (h1 : Rd w w.heap.size 1 A1 n1 (l1.map bv)) (h2 : Rd w w.heap.size 1 A2 n2 (l2.map bv)) (hn : n1 ≤ maxLen) :
    Calls Tryz.prog 40 #[.slice A1 n1 c1, .slice A2 n2 c2] w fun e w' => e = .returned (.bool (decide (l1 = l2))) ∧ Below w.heap.size w w' := by
  unfold maxLen at hn
  have e1 : l1.length = n1 := by have := h1.1; simpa using this
  have e2 : l2.length = n2 := by have := h2.1; simpa using this
  go_enter Tryz.func40, Tryz.ntmps40
  go_wp2
  · go_ret
    have hq := neT ‹((n1 : Int) != n2) = true›
    exact ⟨retB (by rw [eq_comm, decide_eq_false_iff_not]; intro h; subst h; omega), Below.refl _ _⟩
  · have hq := neF ‹((n1 : Int) != n2) = false›
    have hq : n1 = n2 := by omega
    by_cases hz : n1 = 0
    · have z1 : l1 = [] := List.eq_nil_of_length_eq_zero (by omega)
      have z2 : l2 = [] := List.eq_nil_of_length_eq_zero (by omega)
      go_loopw [5] (fun i wr => i = .int .i64 0 ∧ Below w.heap.size w wr) (fun i _ => 0)
      case atStart => exact ⟨rfl, Below.refl _ _⟩
      case round =>
        obtain ⟨rfl, hb⟩ := hrel
        go_wp2
        go_ret
        exact ⟨retB (by rw [z1, z2]; rfl), hb⟩
    · obtain ⟨b1, o1, rfl, hb1, hx1⟩ := h1.2 (by omega)
      obtain ⟨b2, o2, rfl, hb2, hx2⟩ := h2.2 (by omega)
      clear h1 h2
      go_loopw [5] (fun i wr => ∃ k q : Nat, k ≤ n1 ∧ i = .int .i64 k ∧ Hid ((l1 = l2) = (l1.drop k = l2.drop k)) ∧ wr = w.drewN q) (fun i _ => n1 - (intOf i).toNat)
      case atStart => exact ⟨0, 0, Nat.zero_le _, rfl, rfl, rfl⟩
      case round =>
        obtain ⟨k, q, hk, rfl, H, rfl⟩ := hrel
        by_cases hlt : k < n1
        · obtain ⟨x, hx, hdx⟩ := drop_list l1 k (by omega)
          obtain ⟨y, hy, hdy⟩ := drop_list l2 k (by omega)
          have Hx := Lib.hid hdx; clear hdx
          have Hy := Lib.hid hdy; clear hdy
          have cx := hx1 k (bv x) (map_get bv _ _ _ hx)
          have cy := hx2 k (bv y) (map_get bv _ _ _ hy)
          go_wp2
          go_quiet (fail)
          go_wp2
          · go_ret
            refine ⟨retB ?_, below_drewN' (below_drewN' (Below.refl _ _) _) _⟩
            have ht : ¬ x = y := by rintro rfl; simp_all
            rw [eq_comm, decide_eq_false_iff_not, H.out, Hx.out, Hy.out]
            simp [ht]
          · go_roundw
            case rel => exact ⟨k + 1, q + nq, by omega, by go_num, by rw [H.out, Hx.out, Hy.out]; have ht : x = y := (by apply UInt8.toNat_inj.1; simp_all; try omega); simp only [ht, true_and, List.cons.injEq]; exact Lib.hid trivial, by simp [World.drewN]⟩
            case measure => simp [intOf]; omega
        · go_wp2
          go_ret
          refine ⟨retB ?_, below_drewN' (Below.refl _ _) _⟩
          rw [eq_comm, decide_eq_true_eq, H.out, List.drop_of_length_le (by omega), List.drop_of_length_le (by omega)]

theorem law_fields18 (A1 : Option Addr) (n1 c1 : Nat) (l1 : List Fd) (A2 : Option Addr) (n2 c2 : Nat) (l2 : List Fd) (w : World) (h1 : Rd w w.heap.size 2 A1 n1 (fcells l1)) (h2 : Rd w w.heap.size 2 A2 n2 (fcells l2)) (hn : n1 ≤ maxLen) :
    Calls Tryz.prog 39 #[.slice A1 n1 c1, .slice A2 n2 c2] w fun e w' => e = .returned (.bool (decide (l1 = l2))) ∧ Below w.heap.size w w' := by
  unfold maxLen at hn
  have e1 : l1.length = n1 := by have := h1.1; rw [fcells_len] at this; omega
  have e2 : l2.length = n2 := by have := h2.1; rw [fcells_len] at this; omega
  go_enter Tryz.func39, Tryz.ntmps39
  go_wp2
  · go_ret
    have hq := neT ‹((n1 : Int) != n2) = true›
    exact ⟨retB (by rw [eq_comm, decide_eq_false_iff_not]; intro h; subst h; omega), Below.refl _ _⟩
  · have hq := neF ‹((n1 : Int) != n2) = false›
    have hq : n1 = n2 := by omega
    by_cases hz : n1 = 0
    · have z1 : l1 = [] := List.eq_nil_of_length_eq_zero (by omega)
      have z2 : l2 = [] := List.eq_nil_of_length_eq_zero (by omega)
      go_loopw [5] (fun i wr => i = .int .i64 0 ∧ Below w.heap.size w wr) (fun i _ => 0)
      case atStart => exact ⟨rfl, Below.refl _ _⟩
      case round =>
        obtain ⟨rfl, hb⟩ := hrel
        go_wp2
        go_ret
        exact ⟨retB (by rw [z1, z2]; rfl), hb⟩
    · obtain ⟨b1, o1, rfl, hb1, hx1⟩ := h1.2 (by omega)
      obtain ⟨b2, o2, rfl, hb2, hx2⟩ := h2.2 (by omega)
      clear h1 h2
      go_loopw [5] (fun i wr => ∃ k q : Nat, k ≤ n1 ∧ i = .int .i64 k ∧ Hid ((l1 = l2) = (l1.drop k = l2.drop k)) ∧ wr = w.drewN q) (fun i _ => n1 - (intOf i).toNat)
      case atStart => exact ⟨0, 0, Nat.zero_le _, rfl, rfl, rfl⟩
      case round =>
        obtain ⟨k, q, hk, rfl, H, rfl⟩ := hrel
        by_cases hlt : k < n1
        · obtain ⟨x, hx, hdx⟩ := drop_list l1 k (by omega)
          obtain ⟨y, hy, hdy⟩ := drop_list l2 k (by omega)
          have Hx := Lib.hid hdx; clear hdx
          have Hy := Lib.hid hdy; clear hdy
          obtain ⟨cx0, cx1⟩ := fcells_at _ _ _ hx; have cx := hx1 (k * 2) _ cx0; have cx' := hx1 (k * 2 + 1) _ cx1; rw [← Nat.add_assoc] at cx'
          obtain ⟨cy0, cy1⟩ := fcells_at _ _ _ hy; have cy := hx2 (k * 2) _ cy0; have cy' := hx2 (k * 2 + 1) _ cy1; rw [← Nat.add_assoc] at cy'
          have kn := fun w : World => run_neq_fd x.1 x.2 y.1 y.2 w
          have kg := fun (o : Operand) (o' : Operand) (w : World) => run_guard_fd .neq o o' #[sv x.1, sv x.2] #[sv y.1, sv y.2] w
          go_wp2
          go_quiet (fail)
          go_wp2
          · go_ret
            refine ⟨retB ?_, below_drewN' (below_drewN' (Below.refl _ _) _) _⟩
            have ht : ¬ x = y := by rintro rfl; have := notT ‹(!fdEq x.1 x.2 x.1 x.2) = true›; simp [fdEq] at this
            rw [eq_comm, decide_eq_false_iff_not, H.out, Hx.out, Hy.out]
            simp [ht]
          · go_roundw
            case rel => exact ⟨k + 1, q + nq, by omega, by go_num, by rw [H.out, Hx.out, Hy.out]; have ht : x = y := (by have := notF ‹(!fdEq x.1 x.2 y.1 y.2) = false›; simpa [fdEq, Prod.ext_iff] using this); simp only [ht, true_and, List.cons.injEq]; exact Lib.hid trivial, by simp [World.drewN]⟩
            case measure => simp [intOf]; omega
        · go_wp2
          go_ret
          refine ⟨retB ?_, below_drewN' (Below.refl _ _) _⟩
          rw [eq_comm, decide_eq_true_eq, H.out, List.drop_of_length_le (by omega), List.drop_of_length_le (by omega)]

theorem law_roomy18 (A : Option Addr) (n c : Nat) (b : Bs) (w : World) (hB : Rd w w.heap.size 1 A n (b.map bv)) (hn : n ≤ 100000) :
    Calls Tryz.prog 14 #[.slice A n c] w fun e w' => (∃ A' c', e = .returned (.slice A' (n + 1) c') ∧ n + 1 ≤ c' ∧ Rd w' w'.heap.size 1 A' (n + 1) ((b ++ [171]).map bv)) ∧ Below w.heap.size w w' := by
  obtain ⟨i8, hi8, hy0, hy1, hy2⟩ := info_parts info_u8
  go_enter Tryz.func14, Tryz.ntmps14
  go_wp2_with (first
    | (at_builtin
       refine wpList_append_Own _ rfl (.tmp 3) (.tmp 4) 22 22 rfl w.heap.size 5 i8 _ 1 1 Tryz.underlying22 (.inl Tryz.underlying22) hi8 hy0 hy1 hy2 rfl (by decide) (.slice (some ⟨w.heap.size, 0, none⟩) 0 0) 0 [] rfl (Own.lit _ _ rfl _ (Nat.le_refl _) _ 1 0 [] rfl (by decide)) _ n (b.map bv) rfl (Src.of_rd (hB.alloc (Nat.le_refl _) _) (by intro u hu; obtain ⟨x, -, rfl⟩ := List.mem_map.1 hu; rfl)) (by unfold maxLen; omega) (by omega) (by simp) ?_
       intro v1 w1 ho1 hg1 hat1
       obtain ⟨A1, c1, hv1, n1, m1, r1, q1⟩ := ho1.rd
       subst hv1
       have ho1 : Own w1 w.heap.size 5 1 (.slice A1 n c1) n (b.map bv) := by simpa using ho1
       have L1 : Below w.heap.size w w1 := growW (allocW (Below.refl w.heap.size w) _) hg1 (fun j hj => by cases hj; exact Nat.le_refl _))
    | (at_builtin
       refine wpList_append_Own _ rfl (.tmp 5) (.tmp 6) 22 22 rfl w.heap.size 5 i8 _ 1 1 Tryz.underlying22 (.inl Tryz.underlying22) hi8 hy0 hy1 hy2 rfl (by decide) (.slice A1 n c1) n _ rfl (ho1.alloc _) _ 1 ([171].map bv) rfl (Src.of_rd (Rd.new w1 _ rfl [.int .u8 171] _ 1 1 rfl) (by intro u hu; obtain ⟨x, -, rfl⟩ := List.mem_map.1 hu; rfl)) (by unfold maxLen; omega) (by omega) (by have := L1.size; simp; omega) ?_
       intro v2 w2 ho2 hg2 hat2
       obtain ⟨A2, c2, hv2, n2, m2, r2, q2⟩ := ho2.rd
       subst hv2
       have L2 : Below w.heap.size w w2 := growW (allocW L1 _) hg2 (fun j hj => (ho1.lt j hj).1))
    | (at_builtin
       refine wpList_append_Own _ rfl (.tmp 7) (.tmp 8) 22 22 rfl w.heap.size 5 i8 _ 1 1 Tryz.underlying22 (.inl Tryz.underlying22) hi8 hy0 hy1 hy2 rfl (by decide) (.slice A2 (n + 1) c2) (n + 1) _ rfl (ho2.alloc _) _ 1 ([171].map bv) rfl (Src.of_rd (Rd.new w2 _ rfl [.int .u8 171] _ 1 1 rfl) (by intro u hu; obtain ⟨x, -, rfl⟩ := List.mem_map.1 hu; rfl)) (by unfold maxLen; omega) (by omega) (by have := L2.size; simp; omega) ?_
       intro v3 w3 ho3 hg3 hat3
       obtain ⟨A3, c3, hv3, n3, m3, r3, q3⟩ := ho3.rd
       subst hv3
       have L3 : Below w.heap.size w w3 := growW (allocW L2 _) hg3 (fun j hj => (ho2.lt j hj).1)))
  go_ret
  refine ⟨⟨A3, c3, rfl, by omega, ?_⟩, L3⟩
  have h := r3.cutTo (k := n + 1) (by omega)
  have e : (b.map bv ++ [171].map bv ++ [171].map bv).take ((n + 1) * 1) = (b ++ [171]).map bv := by
    have hbl : b.length = n := by have := hB.1; simpa using this
    rw [List.take_append_of_le_length (by simp; omega), List.take_of_length_le (by simp; omega), List.map_append]
  rw [← e]
  exact h

theorem law_stands18 (A1 : Option Addr) (n c1 : Nat) (A2 : Option Addr) (c2 : Nat) (b : Bs) (w : World) (h1 : Rd w w.heap.size 1 A1 (n + 1) ((b ++ [171]).map bv)) (h2 : Rd w w.heap.size 1 A2 n (b.map bv)) (hc : n + 1 ≤ c1) (hn : n ≤ 100000) :
    Calls Tryz.prog 18 #[.slice A1 (n + 1) c1, .slice A2 n c2] w fun e w' => e = .returned (.bool true) ∧ Below w.heap.size w w' := by
  have hbl : b.length = n := by have := h2.1; simpa using this
  obtain ⟨b1, o1, rfl, hb1, hx1⟩ := h1.2 (by omega)
  have hcut := h1.cutTo (k := n) (by omega)
  have e : ((b ++ [171]).map bv).take (n * 1) = b.map bv := by rw [List.map_append, List.take_append_of_le_length (by simp; omega), List.take_of_length_le (by simp; omega)]
  rw [e] at hcut
  have hlast := hx1 n (.int .u8 171) (by rw [List.map_append, List.getElem?_append_right (by simp; omega)]; simp [hbl, bv])
  clear h1 e hx1
  have Hl := Lib.hid hbl
  clear hbl
  go_enter Tryz.func18, Tryz.ntmps18
  go_wp2_with fail
  refine (law_same18 _ n _ b _ n _ b _ hcut h2 (by unfold maxLen; omega)).mono ?_
  rw [decide_eq_true rfl]
  rintro e w2 ⟨rfl, L2⟩
  have hlast2 := (L2.cell (p := ⟨b1, o1 + n, none⟩) hb1).trans hlast
  go_wp2
  all_goals go_ret
  all_goals exact ⟨rfl, L2⟩

end Go.Proofs.YtmjekdnfkgalbaaGreatDoor
namespace Go.Proofs.YtmjekdnfkgalbaaGreatDoor
open Go.RowKit
set_option maxRecDepth 100000
set_option maxHeartbeats 4000000

theorem law_ints18 (A1 : Option Addr) (n1 c1 : Nat) (l1 : List Int) (A2 : Option Addr) (n2 c2 : Nat) (l2 : List Int) (w : World) (h1 : Rd w w.heap.size 1 A1 n1 (l1.map fun i => Value.int .i64 i)) (h2 : Rd w w.heap.size 1 A2 n2 (l2.map fun i => Value.int .i64 i)) (hn : n1 ≤ maxLen) :
    Calls Tryz.prog 41 #[.slice A1 n1 c1, .slice A2 n2 c2] w fun e w' => e = .returned (.bool (decide (l1 = l2))) ∧ Below w.heap.size w w' := by
  unfold maxLen at hn
  have e1 : l1.length = n1 := by have := h1.1; simpa using this
  have e2 : l2.length = n2 := by have := h2.1; simpa using this
  go_enter Tryz.func41, Tryz.ntmps41
  go_wp2
  · go_ret
    have hq := neT ‹((n1 : Int) != n2) = true›
    exact ⟨retB (by rw [eq_comm, decide_eq_false_iff_not]; intro h; subst h; omega), Below.refl _ _⟩
  · have hq := neF ‹((n1 : Int) != n2) = false›
    have hq : n1 = n2 := by omega
    by_cases hz : n1 = 0
    · have z1 : l1 = [] := List.eq_nil_of_length_eq_zero (by omega)
      have z2 : l2 = [] := List.eq_nil_of_length_eq_zero (by omega)
      go_loopw [5] (fun i wr => i = .int .i64 0 ∧ Below w.heap.size w wr) (fun i _ => 0)
      case atStart => exact ⟨rfl, Below.refl _ _⟩
      case round =>
        obtain ⟨rfl, hb⟩ := hrel
        go_wp2
        go_ret
        exact ⟨retB (by rw [z1, z2]; rfl), hb⟩
    · obtain ⟨b1, o1, rfl, hb1, hx1⟩ := h1.2 (by omega)
      obtain ⟨b2, o2, rfl, hb2, hx2⟩ := h2.2 (by omega)
      clear h1 h2
      go_loopw [5] (fun i wr => ∃ k q : Nat, k ≤ n1 ∧ i = .int .i64 k ∧ Hid ((l1 = l2) = (l1.drop k = l2.drop k)) ∧ wr = w.drewN q) (fun i _ => n1 - (intOf i).toNat)
      case atStart => exact ⟨0, 0, Nat.zero_le _, rfl, rfl, rfl⟩
      case round =>
        obtain ⟨k, q, hk, rfl, H, rfl⟩ := hrel
        by_cases hlt : k < n1
        · obtain ⟨x, hx, hdx⟩ := drop_list l1 k (by omega)
          obtain ⟨y, hy, hdy⟩ := drop_list l2 k (by omega)
          have Hx := Lib.hid hdx; clear hdx
          have Hy := Lib.hid hdy; clear hdy
          have cx := hx1 k (.int .i64 x) (map_get (fun i => Value.int .i64 i) _ _ _ hx)
          have cy := hx2 k (.int .i64 y) (map_get (fun i => Value.int .i64 i) _ _ _ hy)
          go_wp2
          go_quiet (fail)
          go_wp2
          · go_ret
            refine ⟨retB ?_, below_drewN' (below_drewN' (Below.refl _ _) _) _⟩
            have ht : ¬ x = y := by rintro rfl; simp_all
            rw [eq_comm, decide_eq_false_iff_not, H.out, Hx.out, Hy.out]
            simp [ht]
          · go_roundw
            case rel => exact ⟨k + 1, q + nq, by omega, by go_num, by rw [H.out, Hx.out, Hy.out]; have ht : x = y := (by simp_all); simp only [ht, true_and, List.cons.injEq]; exact Lib.hid trivial, by simp [World.drewN]⟩
            case measure => simp [intOf]; omega
        · go_wp2
          go_ret
          refine ⟨retB ?_, below_drewN' (Below.refl _ _) _⟩
          rw [eq_comm, decide_eq_true_eq, H.out, List.drop_of_length_le (by omega), List.drop_of_length_le (by omega)]

theorem law_response18 (r : Rs) (A1 A2 B1 B2 P1 P2 : Option Addr) (c1 c2 d1 d2 e1 e2 : Nat) (w : World) (h1 : RsR w ⟨r, A1, c1, B1, d1, P1, e1⟩) (h2 : RsR w ⟨r, A2, c2, B2, d2, P2, e2⟩) (hf : r.f.length ≤ 100000) (hb : r.b.length ≤ 100000) (hp : r.p.length ≤ 100000) :
    Calls Tryz.prog 17 #[rsW ⟨r, A1, c1, B1, d1, P1, e1⟩, rsW ⟨r, A2, c2, B2, d2, P2, e2⟩] w fun e w' => e = .returned (.bool true) ∧ Below w.heap.size w w' := by
  obtain ⟨st, F, B, P⟩ := r
  dsimp only at hf hb hp
  show Calls Tryz.prog 17 #[.agg #[.int .i64 st, .slice A1 F.length c1, .slice B1 B.length d1, .slice P1 P.length e1], .agg #[.int .i64 st, .slice A2 F.length c2, .slice B2 B.length d2, .slice P2 P.length e2]] w fun e w' => e = .returned (.bool true) ∧ Below w.heap.size w w'
  have L2 := allocW (allocW (Below.refl w.heap.size w) (.cells #[.int .i64 st, .slice A1 F.length c1, .slice B1 B.length d1, .slice P1 P.length e1] 38)) (.cells #[.int .i64 st, .slice A2 F.length c2, .slice B2 B.length d2, .slice P2 P.length e2] 38)
  have K1 := (Blk.new w 38 #[.int .i64 st, .slice A1 F.length c1, .slice B1 B.length d1, .slice P1 P.length e1]).alloc (.cells #[.int .i64 st, .slice A2 F.length c2, .slice B2 B.length d2, .slice P2 P.length e2] 38)
  have K2 := Blk.new' (w.alloc (.cells #[.int .i64 st, .slice A1 F.length c1, .slice B1 B.length d1, .slice P1 P.length e1] 38)) (w.heap.size + 1) (by simp) 38 #[.int .i64 st, .slice A2 F.length c2, .slice B2 B.length d2, .slice P2 P.length e2]
  have R1 := h1.belowW L2
  have R2 := h2.belowW L2
  have hF := fun (W : World) (L : Below _ _ W) => law_fields18 A1 F.length c1 F A2 F.length c2 F W ((R1.belowW L).rf) ((R2.belowW L).rf) (by unfold maxLen; omega)
  have hB := fun (W : World) (L : Below _ _ W) => law_same18 B1 B.length d1 B B2 B.length d2 B W ((R1.belowW L).rb) ((R2.belowW L).rb) (by unfold maxLen; omega)
  have hP := fun (W : World) (L : Below _ _ W) => law_ints18 P1 P.length e1 P P2 P.length e2 P W ((R1.belowW L).rp) ((R2.belowW L).rp) (by unfold maxLen; omega)
  simp only [decide_true] at hF hB hP
  clear R1 R2 h1 h2
  obtain ⟨a0, a1, a2, a3, -⟩ := K1.c4
  obtain ⟨b0, b1, b2, b3, -⟩ := K2.c4
  go_enter Tryz.func17, Tryz.ntmps17
  go_wp2_with fail
  refine (hF _ (Below.refl _ _)).mono ?_
  rintro e w3 ⟨rfl, L3⟩
  obtain ⟨a0, a1, a2, a3, -⟩ := (K1.belowW L3).c4
  obtain ⟨b0, b1, b2, b3, -⟩ := (K2.belowW L3).c4
  go_wp2_with fail
  refine (hB _ L3).mono ?_
  rintro e w4 ⟨rfl, L4⟩
  have L4 := stepW L3 L4
  obtain ⟨a0, a1, a2, a3, -⟩ := (K1.belowW L4).c4
  obtain ⟨b0, b1, b2, b3, -⟩ := (K2.belowW L4).c4
  go_wp2_with fail
  refine (hP _ L4).mono ?_
  rintro e w5 ⟨rfl, L5⟩
  go_wp2
  go_ret
  exact ⟨rfl, stepW L2 (stepW L4 L5)⟩
end Go.Proofs.YtmjekdnfkgalbaaGreatDoor
namespace Go.Proofs.YtmjekdnfkgalbaaGreatDoor
open Go.RowKit
set_option maxRecDepth 100000
set_option maxHeartbeats 4000000

/-- []byte(s), as a rule: what it makes. -/
theorem bytes_ruleR {P : Program} (src dst e : TypeId) (s : ByteArray) (hs : P.underlying src = some .string) (hd : P.underlying dst = some (.slice e)) (he : P.underlying e = some (.int .u8)) (hl : s.size ≤ maxLen) :
    ∃ (C : World → Nat) (F : World → World), (∀ w, (convert src dst (.string s)).run P w = .ok (.slice (some ⟨w.heap.size, 0, none⟩) s.size (C w)) (F w)) ∧
      (∀ (w : World) (base : Nat), base ≤ w.heap.size → Own (F w) base e 1 (.slice (some ⟨w.heap.size, 0, none⟩) s.size (C w)) s.size (s.data.toList.map bv)) ∧ ∀ w, Below w.heap.size w (F w) := by
  refine ⟨fun w => grownCap w s.size 0 e, fun w => Lib.bytesWorld w e s, fun w => Lib.run_convert_string_bytes (P := P) w src dst e s hs hd he, fun w base hb => ?_, fun w => ?_⟩
  · show Own (Lib.bytesWorld w e s) base e 1 (.slice (some ⟨w.heap.size, 0, none⟩) s.size (grownCap w s.size 0 e)) s.size (s.data.toList.map bv)
    have hge := grownCap_ge w s.size 0 e
    have hcm : grownCap w s.size 0 e ≤ maxLen := grownCap_le_maxLen w s.size 0 e hl
    have hcells : (Lib.bytesCells w e s).size = grownCap w s.size 0 e := by
      simp only [Lib.bytesCells, Array.size_append, Array.size_map, Array.size_replicate]
      have : s.data.size = s.size := rfl
      omega
    refine ⟨by simp, .inr ⟨w.heap.size, _, _, _, rfl, hb, Lib.bytesWorld_at_new w e s, .inr (by rw [hcells]; omega), hge, hcm, by rw [hcells]; omega, ?_⟩⟩
    simp only [Lib.bytesCells, Array.toList_append, Array.toList_map, Nat.mul_one]
    rw [List.take_append_of_le_length (by simp), List.take_of_length_le (by simp)]
  · exact below_of_none ⟨rfl, rfl, rfl, by rw [Lib.bytesWorld_size]; omega, fun k hk _ => Lib.bytesWorld_at_old w e s k hk⟩
/-- The word that a body may be sent. -/
def contW : Bs := [72, 84, 84, 80, 47, 49, 46, 49, 32, 49, 48, 48, 32, 67, 111, 110, 116, 105, 110, 117, 101, 13, 10, 13, 10]
theorem ref_Cont (w : World) : Calls Tryz.prog 13 #[] w fun e w' => e = .returned (sv contW) ∧ w' = w := by
  go_enter Tryz.func13, Tryz.ntmps13
  go_wp2
  go_ret
  exact ⟨rfl, rfl⟩
theorem phrase_100 : phraseL 100 = [67, 111, 110, 116, 105, 110, 117, 101] := by decide
theorem rep_Cont (w : World) : Calls Tryz.prog 23 #[] w fun e w' => ∃ c, e = .returned (.slice (some ⟨w.heap.size, 0, none⟩) 25 c) ∧ 25 ≤ c ∧ Own w' w.heap.size 5 1 (.slice (some ⟨w.heap.size, 0, none⟩) 25 c) 25 (contW.map bv) ∧ Below w.heap.size w w' := by
  obtain ⟨C, F, hr, ho, hb⟩ := bytes_ruleR (P := Tryz.prog) 9 22 5 ⟨contW.toArray⟩ Tryz.underlying9 Tryz.underlying22 Tryz.underlying5 (by decide)
  have hcat : ((⟨#[72, 84, 84, 80, 47, 49, 46, 49, 32, 49, 48, 48, 32]⟩ ++ ⟨#[67, 111, 110, 116, 105, 110, 117, 101]⟩ ++ ⟨#[13, 10]⟩ ++ ⟨#[13, 10]⟩ : ByteArray)) = ⟨contW.toArray⟩ := by decide +kernel
  have hr' : ∀ w, (convert 9 22 (.string (⟨#[72, 84, 84, 80, 47, 49, 46, 49, 32, 49, 48, 48, 32]⟩ ++ ⟨#[67, 111, 110, 116, 105, 110, 117, 101]⟩ ++ ⟨#[13, 10]⟩ ++ ⟨#[13, 10]⟩))).run Tryz.prog w = .ok (.slice (some ⟨w.heap.size, 0, none⟩) 25 (C w)) (F w) := fun w => by rw [hcat]; exact hr w
  have ho' := ho w w.heap.size (Nat.le_refl _)
  have hc : 25 ≤ C w := (Own.rdS ho').1
  have hP := sta_Phrase 100 w
  rw [phrase_100] at hP
  go_enter Tryz.func23, Tryz.ntmps23
  go_wp2_with fail
  refine hP.mono ?_
  rintro e w1 ⟨rfl, rfl⟩
  clear hcat hr
  go_wp2
  go_ret
  exact ⟨_, rfl, hc, ho', hb _⟩
theorem heavyF_yes (n : Nat) (f : Fd) (l : List Fd) (h : 4000 < n + 5 + f.1.length + f.2.length) : heavyF n (f :: l) = true := by rw [heavyF, if_pos h]
theorem heavyF_next (n : Nat) (f : Fd) (l : List Fd) (h : ¬ 4000 < n + 5 + f.1.length + f.2.length) : heavyF n (f :: l) = heavyF (n + 5 + f.1.length + f.2.length) l := by rw [heavyF, if_neg h]
theorem law_heavy18 (x : RsP) (w : World) (hR : RsR w x) (hz : ∀ f ∈ x.r.f, f.1.length ≤ 140737488355328 ∧ f.2.length ≤ 140737488355328) (hm : x.cf ≤ maxLen ∧ x.cb ≤ maxLen ∧ x.cp ≤ maxLen) :
    Calls Tryz.prog 20 #[rsW x] w fun e w' => e = .returned (.bool (heavyR x.r)) ∧ Below w.heap.size w w' := by
  obtain ⟨r, Af, cf, Ab, cb, Ap, cp⟩ := x
  have hf1 : r.f.length ≤ cf := hR.cf
  have hb1 : r.b.length ≤ cb := hR.cb
  have hp1 : r.p.length ≤ cp := hR.cp
  unfold maxLen at hm
  have hf2 : r.f.length ≤ 9223372036854775807 := Nat.le_trans hf1 hm.1
  have hb2 : r.b.length ≤ 9223372036854775807 := Nat.le_trans hb1 hm.2.1
  have hp2 : r.p.length ≤ 9223372036854775807 := Nat.le_trans hp1 hm.2.2
  clear hf1 hb1 hp1 hm
  have HZ := Lib.hid hz
  clear hz
  show Calls Tryz.prog 20 #[.agg #[.int .i64 r.st, .slice Af r.f.length cf, .slice Ab r.b.length cb, .slice Ap r.p.length cp]] w fun e w' => e = .returned (.bool (heavyR r)) ∧ Below w.heap.size w w'
  have HV : Hid (heavyR r = (decide (4000 < r.b.length) || decide (500 < r.p.length) || heavyF r.b.length r.f)) := Lib.hid rfl
  go_enter Tryz.func20, Tryz.ntmps20
  go_upto_region 1 with (fail)
  obtain ⟨V, hV⟩ : ∃ V, V = w.alloc (.cells #[.int .i64 r.st, .slice Af r.f.length cf, .slice Ab r.b.length cb, .slice Ap r.p.length cp] 38) := ⟨_, rfl⟩
  rw [← hV]
  have LV : Below w.heap.size w V := by rw [hV]; exact allocW (Below.refl _ _) _
  have BV : Blk V w.heap.size 38 #[.int .i64 r.st, .slice Af r.f.length cf, .slice Ab r.b.length cb, .slice Ap r.p.length cp] := by rw [hV]; exact Blk.new' _ _ rfl _ _
  clear hV
  have RV := hR.belowW LV
  clear hR
  obtain ⟨x0, x1, x2, x3, -⟩ := BV.c4
  by_cases hb : 4000 < r.b.length
  · have hb' : (4000 : Int) < (r.b.length : Int) := by omega
    have HV2 := Lib.hid (show heavyR r = true by rw [HV.out, decide_eq_true hb]; rfl)
    clear hb HV
    go_wp2
    go_ret
    exact ⟨by rw [HV2.out]; rfl, LV⟩
  · have hb' : ¬ (4000 : Int) < (r.b.length : Int) := by omega
    by_cases hp : 500 < r.p.length
    · have hp' : (500 : Int) < (r.p.length : Int) := by omega
      have HV2 := Lib.hid (show heavyR r = true by rw [HV.out, decide_eq_true hp, Bool.or_true]; rfl)
      clear hp HV
      go_wp2
      go_ret
      exact ⟨by rw [HV2.out]; rfl, LV⟩
    · have hp' : ¬ (500 : Int) < (r.p.length : Int) := by omega
      have HV2 := Lib.hid (show heavyR r = heavyF r.b.length r.f by rw [HV.out, decide_eq_false hb, decide_eq_false hp, Bool.or_false, Bool.false_or])
      clear hp HV
      go_wp2_with fail
      go_loopw [3, 4] (fun n i wr => ∃ k m q : Nat, k ≤ r.f.length ∧ m ≤ 4000 ∧ n = .int .i64 m ∧ i = .int .i64 k ∧ Hid (heavyF r.b.length r.f = heavyF m (r.f.drop k)) ∧ wr = V.drewN q) (fun _ i _ => r.f.length - (intOf i).toNat)
      case atStart => exact ⟨0, r.b.length, 0, Nat.zero_le _, by omega, rfl, rfl, Lib.hid rfl, rfl⟩
      case round =>
        obtain ⟨k, m, q, hk, hm, rfl, rfl, H, rfl⟩ := hrel
        by_cases hlt : k < r.f.length
        · obtain ⟨f, hf, hd⟩ := drop_fd hlt
          have HD := Lib.hid hd
          clear hd
          obtain ⟨z1, z2⟩ := HZ.out f (List.mem_of_getElem? hf)
          obtain ⟨b, o, rfl, hbB, y0, y1⟩ := Rd.fd (show Rd V V.heap.size 2 Af r.f.length (fcells r.f) from RV.rf) rfl k f hf
          clear hf
          by_cases hgt : 4000 < m + 5 + f.1.length + f.2.length
          · have hgt' : (4000:Int) < (m:Int) + 5 + (f.1.length:Int) + (f.2.length : Int) := by omega
            have HT := Lib.hid hgt
            clear hgt
            go_wp2
            go_quiet (fail)
            go_wp2
            go_ret
            exact ⟨by rw [HV2.out, H.out, HD.out, heavyF_yes _ _ _ HT.out]; rfl, below_drewN' LV _⟩
          · have hgt' : ¬ (4000:Int) < (m:Int) + 5 + (f.1.length:Int) + (f.2.length : Int) := by omega
            have HT := Lib.hid hgt
            clear hgt
            go_wp2
            go_quiet (fail)
            go_wp2
            go_roundw
            case rel => exact ⟨k + 1, m + 5 + f.1.length + f.2.length, q + nq, by omega, by omega, by go_num, by go_num, Lib.hid (by rw [H.out, HD.out, heavyF_next _ _ _ HT.out]), by simp [World.drewN]⟩
            case measure => simp [intOf]; omega
        · have e : r.f.drop k = [] := List.drop_of_length_le (by omega)
          have H2 := Lib.hid (show heavyF r.b.length r.f = false by rw [H.out, e]; rfl)
          clear H e
          go_wp2
          go_ret
          exact ⟨by rw [HV2.out, H2.out]; rfl, below_drewN' LV _⟩
end Go.Proofs.YtmjekdnfkgalbaaGreatDoor
namespace Go.Proofs.YtmjekdnfkgalbaaGreatDoor
open Go.RowKit
set_option maxRecDepth 100000
set_option maxHeartbeats 4000000

def kn18 : Bs := [72, 84, 84, 80, 47, 49, 46, 49, 32, 50, 48, 52, 32, 78, 111, 32, 67, 111, 110, 116, 101, 110, 116, 13, 10, 67, 111, 110, 110, 101, 99, 116, 105, 111, 110, 58, 32, 99, 108, 111, 115, 101, 13, 10, 13, 10]
theorem kn_enc : encR ⟨204, [], [], []⟩ false 1 true = (kn18, 0) := by decide +kernel
theorem kn_cells : kn18.map bv = [.int .u8 72, .int .u8 84, .int .u8 84, .int .u8 80, .int .u8 47, .int .u8 49, .int .u8 46, .int .u8 49, .int .u8 32, .int .u8 50, .int .u8 48, .int .u8 52, .int .u8 32, .int .u8 78, .int .u8 111, .int .u8 32, .int .u8 67, .int .u8 111, .int .u8 110, .int .u8 116, .int .u8 101, .int .u8 110, .int .u8 116, .int .u8 13, .int .u8 10, .int .u8 67, .int .u8 111, .int .u8 110, .int .u8 110, .int .u8 101, .int .u8 99, .int .u8 116, .int .u8 105, .int .u8 111, .int .u8 110, .int .u8 58, .int .u8 32, .int .u8 99, .int .u8 108, .int .u8 111, .int .u8 115, .int .u8 101, .int .u8 13, .int .u8 10, .int .u8 13, .int .u8 10] := by kernel_rfl
theorem kn_len : kn18.length = 46 := rfl
theorem law_known18 (w : World) (htz : TZ w) (ht : Tab10 w) :
    Calls Tryz.prog 19 #[] w fun e w' => e = .returned (.bool true) ∧ Below w.heap.size w w' := by
  have kc := fun (w : World) (C : Array Value) (n c g : Nat) (hg : g = w.heap.size) => Go.Joins.run_convert_bytes_const_at (P := Tryz.prog) w 22 5 C n c g hg Tryz.underlying22 Tryz.underlying5
  obtain ⟨C, F, hr, ho, hb⟩ := bytes_ruleR (P := Tryz.prog) 9 22 5 ⟨contW.toArray⟩ Tryz.underlying9 Tryz.underlying22 Tryz.underlying5 (by decide)
  have hr' : ∀ w, (convert 9 22 (sv contW)).run Tryz.prog w = .ok (.slice (some ⟨w.heap.size, 0, none⟩) 25 (C w)) (F w) := hr
  have hE := rep_Encode ⟨⟨204, [], [], []⟩, none, 0, none, 0, none, 0⟩ false 1 true w ⟨Rd.nil _ _ _ _, Rd.nil _ _ _ _, Rd.nil _ _ _ _, Nat.le_refl _, Nat.le_refl _, Nat.le_refl _⟩ ⟨fun f hf => (by cases hf), by decide, by decide, by decide⟩ htz ht (fun _ => ⟨by decide, by decide, by decide, fun f hf => (by cases hf)⟩)
  rw [kn_enc] at hE
  have hE' : Calls Tryz.prog 21 #[.agg #[.int .i64 204, .slice none 0 0, .slice none 0 0, .slice none 0 0], .bool false, .int .i64 1, .bool true] w (EncPost w (kn18, 0)) := hE
  clear hE hr
  go_enter Tryz.func19, Tryz.ntmps19
  go_wp2_with fail
  refine hE'.mono ?_
  rintro e w1 ⟨A1, c1, rfl, hc1, hO1, L1⟩
  have hO1' : Own w1 w.heap.size 5 1 (.slice A1 46 c1) 46 (kn18.map bv) := hO1
  have R1 := (Own.rdS hO1').2.2
  have La := allocW (Below.refl w1.heap.size w1) (.cells #[.int .u8 72, .int .u8 84, .int .u8 84, .int .u8 80, .int .u8 47, .int .u8 49, .int .u8 46, .int .u8 49, .int .u8 32, .int .u8 50, .int .u8 48, .int .u8 52, .int .u8 32, .int .u8 78, .int .u8 111, .int .u8 32, .int .u8 67, .int .u8 111, .int .u8 110, .int .u8 116, .int .u8 101, .int .u8 110, .int .u8 116, .int .u8 13, .int .u8 10, .int .u8 67, .int .u8 111, .int .u8 110, .int .u8 110, .int .u8 101, .int .u8 99, .int .u8 116, .int .u8 105, .int .u8 111, .int .u8 110, .int .u8 58, .int .u8 32, .int .u8 99, .int .u8 108, .int .u8 111, .int .u8 115, .int .u8 101, .int .u8 13, .int .u8 10, .int .u8 13, .int .u8 10] 5 (46, 47))
  have R2 : Rd (w1.alloc (.cells #[.int .u8 72, .int .u8 84, .int .u8 84, .int .u8 80, .int .u8 47, .int .u8 49, .int .u8 46, .int .u8 49, .int .u8 32, .int .u8 50, .int .u8 48, .int .u8 52, .int .u8 32, .int .u8 78, .int .u8 111, .int .u8 32, .int .u8 67, .int .u8 111, .int .u8 110, .int .u8 116, .int .u8 101, .int .u8 110, .int .u8 116, .int .u8 13, .int .u8 10, .int .u8 67, .int .u8 111, .int .u8 110, .int .u8 110, .int .u8 101, .int .u8 99, .int .u8 116, .int .u8 105, .int .u8 111, .int .u8 110, .int .u8 58, .int .u8 32, .int .u8 99, .int .u8 108, .int .u8 111, .int .u8 115, .int .u8 101, .int .u8 13, .int .u8 10, .int .u8 13, .int .u8 10] 5 (46, 47))) (w1.heap.size + 1) 1 (some ⟨w1.heap.size, 0, none⟩) 46 (kn18.map bv) := by rw [kn_cells]; exact Rd.newM w1 _ rfl _ 5 (46, 47) 46 1 rfl
  have hS := law_same18 A1 46 c1 kn18 _ 46 46 kn18 _ ((R1.alloc (Nat.le_refl _) _).more (by simp)) (R2.more (by simp)) (by decide)
  rw [decide_eq_true rfl] at hS
  rw [kn_len]
  clear hE'
  go_wp2_with fail
  refine hS.mono ?_
  rintro e w2 ⟨rfl, L2⟩
  have N2 := stepW (stepW L1 La) L2
  clear hS R2 La L2 R1 hO1 hO1' hc1
  go_wp2_with fail
  refine (rep_Cont _).mono ?_
  rintro e w3 ⟨c3, rfl, hc3, hO3, L3⟩
  have R3 := (Own.rdS hO3).2.2
  have N3 := stepW N2 L3
  go_wp2_with fail
  refine (ref_Cont _).mono ?_
  rintro e w4 ⟨rfl, rfl⟩
  have hS2 := law_same18 (some ⟨w2.heap.size, 0, none⟩) 25 c3 contW (some ⟨w4.heap.size, 0, none⟩) 25 (C w4) contW (F w4) ((R3.belowW (Nat.le_refl _) (hb _)).more (hb _).size) (Own.rdS (ho _ _ (Nat.le_refl _))).2.2 (by decide)
  rw [decide_eq_true rfl] at hS2
  go_wp2_with fail
  refine hS2.mono ?_
  rintro e w5 ⟨rfl, L5⟩
  have N5 := stepW (stepW N3 (hb _)) L5
  go_wp2
  go_ret
  exact ⟨rfl, N5⟩
end Go.Proofs.YtmjekdnfkgalbaaGreatDoor
namespace Go.Proofs.YtmjekdnfkgalbaaGreatDoor
open Go.RowKit
set_option maxRecDepth 100000
set_option maxHeartbeats 4000000

theorem fdsz_light {r : Rs} (h : Light r) : FdSz r.f := fun f hf => ⟨Nat.le_trans (h.e f hf).1 (by decide), Nat.le_trans (h.e f hf).2 (by decide)⟩
theorem light_z {x : RsP} (h : Light x.r) : RsZ x := ⟨fdsz_light h, by have := h.f; omega, by have := h.b; omega, by have := h.p; omega⟩
theorem EncPost.no {w w' : World} {e : Ending} (h : EncPost w ([], 1) e w') : ∃ A c, e = .returned (.tuple #[.slice A 0 c, .int .i64 1]) ∧ Below w.heap.size w w' := by
  obtain ⟨A, c, h1, -, -, h4⟩ := h
  exact ⟨A, c, h1, h4⟩
theorem EncPost.yes {w w' : World} {e : Ending} {b : Bs} (h : EncPost w (b, 0) e w') : ∃ A c, e = .returned (.tuple #[.slice A b.length c, .int .i64 0]) ∧ b.length ≤ c ∧ c ≤ maxLen ∧ Own w' w.heap.size 5 1 (.slice A b.length c) b.length (b.map bv) ∧ Rd w' w'.heap.size 1 A b.length (b.map bv) ∧ Below w.heap.size w w' := by
  obtain ⟨A, c, h1, h2, h3, h4⟩ := h
  have h3' : Own w' w.heap.size 5 1 (.slice A b.length c) b.length (b.map bv) := h3
  exact ⟨A, c, h1, h2, (Own.rdS h3').2.1, h3', (Own.rdS h3').2.2, h4⟩
end Go.Proofs.YtmjekdnfkgalbaaGreatDoor

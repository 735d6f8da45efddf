/- client.parts, usherref26.parts. usherref16.Same, with its fields; usherlaw26: fields, request, ints. -/
import Derived.Test.YtlambdccmfnloaaGreatDoorRowB
import Derived.Deep.DeepCutAuto
import Derived.IntWalk
import Derived.Test.YtlambdccmfnloaaGreatDoorSp6
import Derived.Test.YtlambdccmfnloaaGreatDoorClient
namespace Go.Proofs.YtlambdccmfnloaaGreatDoor
open Go.RowKit
set_option maxRecDepth 100000
set_option maxHeartbeats 4000000

/-- A body in parts. -/
def partsL : List Int → Bs → List Bs
  | [], b => [b]
  | z :: zs, b => b.take (max 0 (min z (b.length : Int))).toNat :: partsL zs (b.drop (max 0 (min z (b.length : Int))).toNat)
theorem partsL_len : ∀ (zs : List Int) (b : Bs), (partsL zs b).length = zs.length + 1
  | [], _ => rfl
  | z :: zs, b => by rw [partsL, List.length_cons, partsL_len zs, List.length_cons]
theorem partsL_flat : ∀ (zs : List Int) (b : Bs), (partsL zs b).flatten = b
  | [], b => by simp [partsL]
  | z :: zs, b => by rw [partsL, List.flatten_cons, partsL_flat zs, List.take_append_drop]
theorem partsL_step (zs : List Int) (b : Bs) (k a m : Nat) (z : Int) (h : zs[k]? = some z) (hm : (m : Int) = max 0 (min z ((b.length - a : Nat) : Int))) : partsL (zs.drop k) (b.drop a) = (b.drop a).take m :: partsL (zs.drop (k + 1)) (b.drop (a + m)) := by
  obtain ⟨hk, e⟩ := List.getElem?_eq_some_iff.1 h
  rw [List.drop_eq_getElem_cons hk, e, partsL, List.length_drop, ← hm, Int.toNat_natCast, List.drop_drop]
/-- Rows of bytes made. -/
def PartsPost (w : World) (ps : List Bs) (e : Ending) (w' : World) : Prop :=
  ∃ A c, e = .returned (.slice A ps.length c) ∧ RdS w' w'.heap.size A ps.length ps ∧ Below w.heap.size w w'
structure PtRel (w : World) (b : Bs) (n : Nat) (A : Option Addr) (zs : List Int) (V : Option Addr) (d a k : Nat) (v : Value) (ps : List Bs) (wr : World) : Prop where
  an : a ≤ n
  kz : k ≤ zs.length
  pk : ps.length = k
  eq : partsL zs b = ps ++ partsL (zs.drop k) (b.drop a)
  own : OPs wr w.heap.size v ps
  below : Below w.heap.size w wr
  V : 0 < n - a → V = A.map (·.add a)
  d : n - a ≤ d
theorem PtRel.rd {w : World} {b : Bs} {n : Nat} {A : Option Addr} {zs : List Int} {V : Option Addr} {d a k : Nat} {v : Value} {ps : List Bs} {wr : World} (h : PtRel w b n A zs V d a k v ps wr) (hA : Rd w w.heap.size 1 A n (b.map bv)) (m : Nat) (hm : m ≤ n - a) :
    Rd wr wr.heap.size 1 V m (((b.drop a).take m).map bv) ∧ (0 < m → ∀ x, V = some x → v.ownBlock ≠ some x.block) := by
  have hbl : b.length = n := by simpa using hA.1
  have h1 := ((hA.cutFrom (k := a) h.an).cutTo (k := m) hm)
  rw [Nat.mul_one, Nat.mul_one, ← List.map_drop, ← List.map_take] at h1
  rcases Nat.eq_zero_or_pos m with h0 | h0
  · exact ⟨⟨by simp; have := h.an; omega, fun h9 => absurd h9 (by omega)⟩, fun h9 => absurd h9 (by omega)⟩
  · have e := h.V (by omega)
    rw [e]
    refine ⟨(h1.below h.below).more h.below.size, fun _ x hx hv => ?_⟩
    obtain ⟨b1, o1, e1, hlt, -⟩ := h1.2 h0
    rw [hx] at e1
    injection e1 with e1
    obtain ⟨vs, ho, -⟩ := h.own
    have := (Own.lt ho _ hv).1
    rw [e1] at this
    simp only at this
    omega
theorem PtRel.next {w : World} {b : Bs} {n : Nat} {A : Option Addr} {zs : List Int} {V : Option Addr} {d a k : Nat} {v : Value} {ps : List Bs} {wr : World} (h : PtRel w b n A zs V d a k v ps wr) (hA : Rd w w.heap.size 1 A n (b.map bv)) (m : Nat) (hm : m ≤ n - a) :
    0 < n - (a + m) → V.map (·.add m) = A.map (·.add (a + m)) := by
  intro h0
  obtain ⟨b1, o1, rfl, -, -⟩ := hA.2 (by omega)
  rw [h.V (by omega)]
  simp only [Option.map_some, add_lit', Nat.add_assoc]
theorem PtRel.app {w : World} {b : Bs} {n : Nat} {A : Option Addr} {zs : List Int} {V V' : Option Addr} {d d' a k m : Nat} {v v' : Value} {ps : List Bs} {wr wr' : World} {z : Int} (h : PtRel w b n A zs V d a k v ps wr) (hbl : b.length = n) (hz : zs[k]? = some z) (hm : m ≤ n - a) (hmz : (m : Int) = max 0 (min z ((n - a : Nat) : Int)))
    (ho : OPs wr' w.heap.size v' (ps ++ [(b.drop a).take m])) (hx : Ext wr wr' v v') (hV : 0 < n - (a + m) → V' = A.map (·.add (a + m))) (hd : n - (a + m) ≤ d') : PtRel w b n A zs V' d' (a + m) (k + 1) v' (ps ++ [(b.drop a).take m]) wr' := by
  have hk := (List.getElem?_eq_some_iff.1 hz).1
  have han := h.an
  refine ⟨by omega, by omega, by rw [List.length_append, h.pk]; rfl, ?_, ho, h.below.trans ((h.own.ext hx h.below.size)), hV, hd⟩
  rw [h.eq, partsL_step zs b k a m z hz (by rw [hbl]; exact hmz), List.append_assoc]
  rfl
theorem cli_parts (A : Option Addr) (n c : Nat) (b : Bs) (A2 : Option Addr) (n2 c2 : Nat) (zs : List Int) (w : World) (hA : Rd w w.heap.size 1 A n (b.map bv)) (hA2 : Rd w w.heap.size 1 A2 n2 (zs.map (Value.int .i64))) (hc : n ≤ c) (_hn : n ≤ 100000) (hn2 : n2 ≤ 1000) :
    Calls Tryz.prog 39 #[.slice A n c, .slice A2 n2 c2] w (PartsPost w (partsL zs b)) := by
  have hbl : b.length = n := by simpa using hA.1
  have hzl : zs.length = n2 := by simpa using hA2.1
  have hR0 : PtRel w b n A zs A c 0 0 (.slice none 0 0) [] w := ⟨Nat.zero_le _, Nat.zero_le _, rfl, by simp, OPs.nil _ _, Below.refl _ _, fun h0 => by obtain ⟨b1, o1, rfl, -, -⟩ := hA.2 (by omega); rw [Option.map_some, add_lit']; rfl, by omega⟩
  go_enter Tryz.func39, Tryz.ntmps39
  go_wp2
  go_loopw [0, 5, 10] (fun x0 x5 x10 wr => ∃ (V : Option Addr) (d a k : Nat) (v : Value) (ps : List Bs), v = x5 ∧ x0 = .slice V (n - a) d ∧ x10 = .int .i64 k ∧ PtRel w b n A zs V d a k v ps wr) (fun _ _ x10 _ => n2 - (intOf x10).toNat)
  case atStart => exact ⟨A, c, 0, 0, _, [], rfl, rfl, rfl, hR0⟩
  case round =>
    obtain ⟨V, d, a, k, v, ps, hv, rfl, rfl, H⟩ := hrel
    subst hv
    have hk := H.kz
    have han := H.an
    have hpk := H.pk
    have hd := H.d
    by_cases hlt : k < n2
    · obtain ⟨z, hz, -⟩ := drop_list zs k (by omega)
      obtain ⟨b1, o1, rfl, hb1, hx1⟩ := (hA2.below H.below).2 (by omega)
      have cx := hx1 k (.int .i64 z) (map_get _ _ _ _ hz)
      obtain ⟨D, hD⟩ : ∃ D : Nat, D = n - a := ⟨_, rfl⟩
      rw [← hD]
      have HD := Lib.hid hD
      clear hD hx1
      go_upto_region 5 with (fail)
      go_cut [7] (fun v7 wx => ∃ m : Nat, v7 = .int .i64 m ∧ m ≤ D ∧ (m : Int) = max 0 (min z (D : Int)) ∧ wr = wx)
      case first =>
        go_wp2_with fail
        go_meet
        case rel => exact ⟨(max 0 (min z (D : Int))).toNat, by rw [Value.int.injEq]; exact ⟨rfl, by omega⟩, by omega, by omega, rfl⟩
      case rest =>
        obtain ⟨m, rfl, hmD, hmz, rfl⟩ := hcut
        have hmd : m ≤ d := by have := HD.out; omega
        obtain ⟨hr, hne⟩ := H.rd hA m (by have := HD.out; omega)
        have hHn := H.next hA m (by have := HD.out; omega)
        rw [HD.out] at hmz
        have HMZ := Lib.hid hmz
        clear hmz
        have hpl : ((b.drop a).take m).length = m := by rw [List.length_take, List.length_drop]; have := HD.out; omega
        rw [← hpl] at hr
        have HPL := Lib.hid hpl
        clear hpl
        go_upto_region 7 with (first
          | (at_builtin
             refine wp_appPs rfl _ _ rfl w.heap.size v ps rfl H.own wr.heap.size rfl V m d ((b.drop a).take m) HPL.out rfl (by rw [HPL.out] at hr ⊢; exact hr) (fun h0 => hne (by rw [HPL.out] at h0; exact h0)) (by omega) H.below.size ?_
             intro v' w' ho' hx'))
        have happ := fun (V' : Option Addr) (d' : Nat) h1 h2 => H.app (V' := V') (d' := d') hbl hz (show m ≤ n - a by have := HD.out; omega) HMZ.out ho' hx' h1 h2
        have e1 : D - m = n - (a + m) := by have := HD.out; omega
        have E1 := Lib.hid e1
        have hd2 : n - (a + m) ≤ d - m := by omega
        clear hr hne cx hz e1
        cases V with
        | none =>
          have h9 := happ none (d - m) (fun h0 => hHn h0) hd2
          clear happ hHn
          go_wp2_with fail
          rw [E1.out]
          go_roundw
          case rel => exact ⟨none, _, a + m, k + 1, _, _, rfl, rfl, by go_num, h9⟩
          case measure => simp [intOf]; omega
        | some x =>
          by_cases hdm : d = m
          · have h9 := happ (some x) 0 (fun h0 => by omega) (by omega)
            have h10 : n - (a + m) = 0 := by omega
            clear happ hHn
            go_wp2_with fail
            go_roundw
            case rel => exact ⟨some x, 0, a + m, k + 1, _, _, rfl, by have e1 := E1.out; rw [h10, show D - m = 0 by omega], by go_num, h9⟩
            case measure => simp [intOf]; omega
          · have h9 := happ (some (x.add m)) (d - m) (fun h0 => hHn h0) hd2
            clear happ hHn
            go_wp2_with fail
            rw [E1.out]
            go_roundw
            case rel => exact ⟨_, _, a + m, k + 1, _, _, rfl, rfl, by go_num, h9⟩
            case measure => simp [intOf]; omega
    · have hke : k = zs.length := by omega
      have heq := H.eq
      rw [List.drop_of_length_le (l := zs) (i := k) (by omega), partsL] at heq
      obtain ⟨hr, hne⟩ := H.rd hA (n - a) (Nat.le_refl _)
      rw [List.take_of_length_le (by rw [List.length_drop]; omega)] at hr
      have hpl : (b.drop a).length = n - a := by rw [List.length_drop, hbl]
      rw [← hpl] at hr
      have HPL := Lib.hid hpl
      have HE := Lib.hid heq
      clear hpl heq
      go_wp2_with (first
        | (at_builtin
           refine wp_appPs rfl _ _ rfl w.heap.size v ps rfl H.own wr.heap.size rfl V (n - a) d (b.drop a) HPL.out rfl hr (fun h0 => hne (by rw [HPL.out] at h0; exact h0)) (by omega) H.below.size ?_
           intro v' w' ho' hx'))
      go_ret
      obtain ⟨A9, c9, rfl, hS⟩ := ho'.form
      unfold PartsPost
      rw [HE.out]
      exact ⟨A9, c9, rfl, hS, H.below.trans (H.own.ext hx' H.below.size)⟩
theorem ref26_parts (A : Option Addr) (n c : Nat) (b : Bs) (A2 : Option Addr) (n2 c2 : Nat) (zs : List Int) (w : World) (hA : Rd w w.heap.size 1 A n (b.map bv)) (hA2 : Rd w w.heap.size 1 A2 n2 (zs.map (Value.int .i64))) (hc : n ≤ c) (_hn : n ≤ 100000) (hn2 : n2 ≤ 1000) :
    Calls Tryz.prog 45 #[.slice A n c, .slice A2 n2 c2] w (PartsPost w (partsL zs b)) := by
  have hbl : b.length = n := by simpa using hA.1
  have hzl : zs.length = n2 := by simpa using hA2.1
  have hR0 : PtRel w b n A zs A c 0 0 (.slice none 0 0) [] w := ⟨Nat.zero_le _, Nat.zero_le _, rfl, by simp, OPs.nil _ _, Below.refl _ _, fun h0 => by obtain ⟨b1, o1, rfl, -, -⟩ := hA.2 (by omega); rw [Option.map_some, add_lit']; rfl, by omega⟩
  go_enter Tryz.func45, Tryz.ntmps45
  go_wp2
  go_loopw [0, 5, 6] (fun x0 x5 x6 wr => ∃ (V : Option Addr) (d a k : Nat) (v : Value) (ps : List Bs), v = x5 ∧ x0 = .slice V (n - a) d ∧ x6 = .int .i64 k ∧ PtRel w b n A zs V d a k v ps wr) (fun _ _ x6 _ => n2 - (intOf x6).toNat)
  case atStart => exact ⟨A, c, 0, 0, _, [], rfl, rfl, rfl, hR0⟩
  case round =>
    obtain ⟨V, d, a, k, v, ps, hv, rfl, rfl, H⟩ := hrel
    subst hv
    have hk := H.kz
    have han := H.an
    have hpk := H.pk
    have hd := H.d
    by_cases hlt : k < n2
    · obtain ⟨z, hz, -⟩ := drop_list zs k (by omega)
      obtain ⟨b1, o1, rfl, hb1, hx1⟩ := (hA2.below H.below).2 (by omega)
      have cx := hx1 k (.int .i64 z) (map_get _ _ _ _ hz)
      obtain ⟨D, hD⟩ : ∃ D : Nat, D = n - a := ⟨_, rfl⟩
      rw [← hD]
      have HD := Lib.hid hD
      clear hD hx1
      go_upto_region 5 with (fail)
      go_cut [7] (fun v7 wx => ∃ m : Nat, v7 = .int .i64 m ∧ m ≤ D ∧ (m : Int) = max 0 (min z (D : Int)) ∧ wr = wx)
      case first =>
        go_wp2_with fail
        go_meet
        case rel => exact ⟨(max 0 (min z (D : Int))).toNat, by rw [Value.int.injEq]; exact ⟨rfl, by omega⟩, by omega, by omega, rfl⟩
      case rest =>
        obtain ⟨m, rfl, hmD, hmz, rfl⟩ := hcut
        have hmd : m ≤ d := by have := HD.out; omega
        obtain ⟨hr, hne⟩ := H.rd hA m (by have := HD.out; omega)
        have hHn := H.next hA m (by have := HD.out; omega)
        rw [HD.out] at hmz
        have HMZ := Lib.hid hmz
        clear hmz
        have hpl : ((b.drop a).take m).length = m := by rw [List.length_take, List.length_drop]; have := HD.out; omega
        rw [← hpl] at hr
        have HPL := Lib.hid hpl
        clear hpl
        go_upto_region 7 with (first
          | (at_builtin
             refine wp_appPs rfl _ _ rfl w.heap.size v ps rfl H.own wr.heap.size rfl V m d ((b.drop a).take m) HPL.out rfl (by rw [HPL.out] at hr ⊢; exact hr) (fun h0 => hne (by rw [HPL.out] at h0; exact h0)) (by omega) H.below.size ?_
             intro v' w' ho' hx'))
        have happ := fun (V' : Option Addr) (d' : Nat) h1 h2 => H.app (V' := V') (d' := d') hbl hz (show m ≤ n - a by have := HD.out; omega) HMZ.out ho' hx' h1 h2
        have e1 : D - m = n - (a + m) := by have := HD.out; omega
        have E1 := Lib.hid e1
        have hd2 : n - (a + m) ≤ d - m := by omega
        clear hr hne cx hz e1
        cases V with
        | none =>
          have h9 := happ none (d - m) (fun h0 => hHn h0) hd2
          clear happ hHn
          go_wp2_with fail
          rw [E1.out]
          go_roundw
          case rel => exact ⟨none, _, a + m, k + 1, _, _, rfl, rfl, by go_num, h9⟩
          case measure => simp [intOf]; omega
        | some x =>
          by_cases hdm : d = m
          · have h9 := happ (some x) 0 (fun h0 => by omega) (by omega)
            have h10 : n - (a + m) = 0 := by omega
            clear happ hHn
            go_wp2_with fail
            go_roundw
            case rel => exact ⟨some x, 0, a + m, k + 1, _, _, rfl, by have e1 := E1.out; rw [h10, show D - m = 0 by omega], by go_num, h9⟩
            case measure => simp [intOf]; omega
          · have h9 := happ (some (x.add m)) (d - m) (fun h0 => hHn h0) hd2
            clear happ hHn
            go_wp2_with fail
            rw [E1.out]
            go_roundw
            case rel => exact ⟨_, _, a + m, k + 1, _, _, rfl, rfl, by go_num, h9⟩
            case measure => simp [intOf]; omega
    · have hke : k = zs.length := by omega
      have heq := H.eq
      rw [List.drop_of_length_le (l := zs) (i := k) (by omega), partsL] at heq
      obtain ⟨hr, hne⟩ := H.rd hA (n - a) (Nat.le_refl _)
      rw [List.take_of_length_le (by rw [List.length_drop]; omega)] at hr
      have hpl : (b.drop a).length = n - a := by rw [List.length_drop, hbl]
      rw [← hpl] at hr
      have HPL := Lib.hid hpl
      have HE := Lib.hid heq
      clear hpl heq
      go_wp2_with (first
        | (at_builtin
           refine wp_appPs rfl _ _ rfl w.heap.size v ps rfl H.own wr.heap.size rfl V (n - a) d (b.drop a) HPL.out rfl hr (fun h0 => hne (by rw [HPL.out] at h0; exact h0)) (by omega) H.below.size ?_
           intro v' w' ho' hx'))
      go_ret
      obtain ⟨A9, c9, rfl, hS⟩ := ho'.form
      unfold PartsPost
      rw [HE.out]
      exact ⟨A9, c9, rfl, hS, H.below.trans (H.own.ext hx' H.below.size)⟩
end Go.Proofs.YtlambdccmfnloaaGreatDoor
namespace Go.Proofs.YtlambdccmfnloaaGreatDoor
open Go.RowKit
set_option maxRecDepth 100000
set_option maxHeartbeats 4000000

theorem ref16_fields (A1 : Option Addr) (n1 c1 : Nat) (l1 : List Fd) (A2 : Option Addr) (n2 c2 : Nat) (l2 : List Fd) (w : World) (h1 : Rd w w.heap.size 2 A1 n1 (fcells l1)) (h2 : Rd w w.heap.size 2 A2 n2 (fcells l2)) (hn : n1 ≤ maxLen) :
    Calls Tryz.prog 88 #[.slice A1 n1 c1, .slice A2 n2 c2] w fun e w' => e = .returned (.bool (decide (l1 = l2))) ∧ Below w.heap.size w w' := by
  unfold maxLen at hn
  have e1 : l1.length = n1 := by have := h1.1; rw [fcells_len] at this; omega
  have e2 : l2.length = n2 := by have := h2.1; rw [fcells_len] at this; omega
  go_enter Tryz.func88, Tryz.ntmps88
  go_wp2
  · go_ret
    have hq := neT ‹((n1 : Int) != n2) = true›
    exact ⟨retB (by rw [eq_comm, decide_eq_false_iff_not]; intro h; subst h; omega), Below.refl _ _⟩
  · have hq := neF ‹((n1 : Int) != n2) = false›
    have hq : n1 = n2 := by omega
    by_cases hz : n1 = 0
    · have z1 : l1 = [] := List.eq_nil_of_length_eq_zero (by omega)
      have z2 : l2 = [] := List.eq_nil_of_length_eq_zero (by omega)
      go_loopw [5] (fun i wr => i = .int .i64 0 ∧ Below w.heap.size w wr) (fun i _ => 0)
      case atStart => exact ⟨rfl, Below.refl _ _⟩
      case round =>
        obtain ⟨rfl, hb⟩ := hrel
        go_wp2
        go_ret
        exact ⟨retB (by rw [z1, z2]; rfl), hb⟩
    · obtain ⟨b1, o1, rfl, hb1, hx1⟩ := h1.2 (by omega)
      obtain ⟨b2, o2, rfl, hb2, hx2⟩ := h2.2 (by omega)
      clear h1 h2
      go_loopw [5] (fun i wr => ∃ k q : Nat, k ≤ n1 ∧ i = .int .i64 k ∧ Hid ((l1 = l2) = (l1.drop k = l2.drop k)) ∧ wr = w.drewN q) (fun i _ => n1 - (intOf i).toNat)
      case atStart => exact ⟨0, 0, Nat.zero_le _, rfl, rfl, rfl⟩
      case round =>
        obtain ⟨k, q, hk, rfl, H, rfl⟩ := hrel
        by_cases hlt : k < n1
        · obtain ⟨x, hx, hdx⟩ := drop_list l1 k (by omega)
          obtain ⟨y, hy, hdy⟩ := drop_list l2 k (by omega)
          have Hx := Lib.hid hdx; clear hdx
          have Hy := Lib.hid hdy; clear hdy
          obtain ⟨cx0, cx1⟩ := fcells_at _ _ _ hx; have cx := hx1 (k * 2) _ cx0; have cx' := hx1 (k * 2 + 1) _ cx1; rw [← Nat.add_assoc] at cx'
          obtain ⟨cy0, cy1⟩ := fcells_at _ _ _ hy; have cy := hx2 (k * 2) _ cy0; have cy' := hx2 (k * 2 + 1) _ cy1; rw [← Nat.add_assoc] at cy'
          have kn := fun w : World => run_neq_fd x.1 x.2 y.1 y.2 w
          have kg := fun (o : Operand) (o' : Operand) (w : World) => run_guard_fd .neq o o' #[sv x.1, sv x.2] #[sv y.1, sv y.2] w
          go_wp2
          go_quiet (fail)
          go_wp2
          · go_ret
            refine ⟨retB ?_, below_drewN' (below_drewN' (Below.refl _ _) _) _⟩
            have ht : ¬ x = y := by rintro rfl; have := notT ‹(!fdEq x.1 x.2 x.1 x.2) = true›; simp [fdEq] at this
            rw [eq_comm, decide_eq_false_iff_not, H.out, Hx.out, Hy.out]
            simp [ht]
          · go_roundw
            case rel => exact ⟨k + 1, q + nq, by omega, by go_num, by rw [H.out, Hx.out, Hy.out]; have ht : x = y := (by have := notF ‹(!fdEq x.1 x.2 y.1 y.2) = false›; simpa [fdEq, Prod.ext_iff] using this); simp only [ht, true_and, List.cons.injEq]; exact Lib.hid trivial, by simp [World.drewN]⟩
            case measure => simp [intOf]; omega
        · go_wp2
          go_ret
          refine ⟨retB ?_, below_drewN' (Below.refl _ _) _⟩
          rw [eq_comm, decide_eq_true_eq, H.out, List.drop_of_length_le (by omega), List.drop_of_length_le (by omega)]

theorem ref16_Same (x y : RP) (w : World) (h1 : RQR w x.r x.af x.ab) (h2 : RQR w y.r y.af y.ab) (hf : x.r.f.length ≤ 100000) (hb : x.r.b.length ≤ 100000) :
    Calls Tryz.prog 48 #[rqV x.r x.af x.cf x.ab x.cb, rqV y.r y.af y.cf y.ab y.cb] w fun e w' => e = .returned (.bool (decide (x.r = y.r))) ∧ Below w.heap.size w w' := by
  obtain ⟨⟨m1, t1, v1, F1, B1, c1, e1⟩, A1, n1, D1, k1⟩ := x
  obtain ⟨⟨m2, t2, v2, F2, B2, c2, e2⟩, A2, n2, D2, k2⟩ := y
  dsimp only at h1 h2 hf hb ⊢
  unfold rqV
  dsimp only
  have tq := fun w : World => run_eql_tg t1 t2 w
  have tg := fun (o : Operand) (o' : Operand) (xs ys : Array Value) (w : World) => run_guard_tg .eql o o' xs ys w
  unfold tgtV at tq
  have L2 := allocW (allocW (Below.refl w.heap.size w) (.cells #[sv m1, .int .i64 t1.form, sv t1.host, sv t1.path, sv t1.query, .int .i64 v1, .slice A1 F1.length n1, .slice D1 B1.length k1, .bool c1, .bool e1] 27)) (.cells #[sv m2, .int .i64 t2.form, sv t2.host, sv t2.path, sv t2.query, .int .i64 v2, .slice A2 F2.length n2, .slice D2 B2.length k2, .bool c2, .bool e2] 27)
  have K1 := (Blk.new w 27 #[sv m1, .int .i64 t1.form, sv t1.host, sv t1.path, sv t1.query, .int .i64 v1, .slice A1 F1.length n1, .slice D1 B1.length k1, .bool c1, .bool e1]).alloc (.cells #[sv m2, .int .i64 t2.form, sv t2.host, sv t2.path, sv t2.query, .int .i64 v2, .slice A2 F2.length n2, .slice D2 B2.length k2, .bool c2, .bool e2] 27)
  have K2 := Blk.new' (w.alloc (.cells #[sv m1, .int .i64 t1.form, sv t1.host, sv t1.path, sv t1.query, .int .i64 v1, .slice A1 F1.length n1, .slice D1 B1.length k1, .bool c1, .bool e1] 27)) (w.heap.size + 1) (by simp) 27 #[sv m2, .int .i64 t2.form, sv t2.host, sv t2.path, sv t2.query, .int .i64 v2, .slice A2 F2.length n2, .slice D2 B2.length k2, .bool c2, .bool e2]
  have R1 := h1.belowW L2
  have R2 := h2.belowW L2
  have hF := ref16_fields A1 F1.length n1 F1 A2 F2.length n2 F2 _ R1.f R2.f (by unfold maxLen; omega)
  have hB1 := fun (W : World) (L : Below _ _ W) => run_str_rd (P := Tryz.prog) ((R1.belowW L).b) k1 25 5 9 Tryz.underlying25 Tryz.underlying5 Tryz.underlying9
  have hB2 := fun (W : World) (L : Below _ _ W) => run_str_rd (P := Tryz.prog) ((R2.belowW L).b) k2 25 5 9 Tryz.underlying25 Tryz.underlying5 Tryz.underlying9
  clear R1 R2 h1 h2
  by_cases hm : m1 = m2
  case neg =>
    have hm' : (m1 == m2) = false := by simpa using hm
    go_enter Tryz.func48, Tryz.ntmps48
    go_wp2
    go_ret
    exact ⟨retB (by simp_all), L2⟩
  subst hm
  by_cases ht : t1 = t2
  case neg =>
    have ht' : tgEq t1 t2 = false := by simpa [tgEq] using ht
    rw [ht'] at tq
    go_enter Tryz.func48, Tryz.ntmps48
    go_wp2
    go_ret
    exact ⟨retB (by simp_all), L2⟩
  subst ht
  rw [show tgEq t1 t1 = true by simp [tgEq]] at tq
  by_cases hv : v1 = v2
  case neg =>
    have hv' : (v1 == v2) = false := by simpa using hv
    go_enter Tryz.func48, Tryz.ntmps48
    go_wp2
    go_ret
    exact ⟨retB (by simp_all), L2⟩
  subst hv
  go_enter Tryz.func48, Tryz.ntmps48
  go_wp2_with fail
  refine hF.mono ?_
  rintro e w3 ⟨rfl, L3⟩
  have K3 := K1.belowW L3
  have K4 := K2.belowW L3
  obtain ⟨⟨a0, a1, a2, a3, a4, a5, a6, a7, a8, a9⟩, -⟩ := K3.c10
  obtain ⟨⟨b0, b1, b2, b3, b4, b5, b6, b7, b8, b9⟩, -⟩ := K4.c10
  by_cases hFF : F1 = F2
  case neg =>
    rw [decide_eq_false hFF]
    go_wp2
    go_ret
    exact ⟨retB (by simp [hFF]), stepW L2 L3⟩
  rw [decide_eq_true hFF]
  have L5 := stepW L2 L3
  have q1 := hB1 _ L3
  have q2 := hB2 _ L3
  by_cases hBB : B1 = B2
  case neg =>
    have hBB' : (B1 == B2) = false := by simpa using hBB
    go_wp2
    apply bodyPost_ret (v := .bool false)
    · simp [results, Tryz.results48, go_sem]
    · rfl
    · exact ⟨retB (by simp [hBB]), L5⟩
  subst hBB
  subst hFF
  by_cases hc : c1 = c2
  case neg =>
    have hc' : (c1 == c2) = false := by simpa using hc
    go_wp2
    apply bodyPost_ret (v := .bool false)
    · simp [results, Tryz.results48, go_sem]
    · rfl
    · exact ⟨retB (by simp [hc]), L5⟩
  have hc' : (c1 == c2) = true := by simpa using hc
  go_wp2
  apply bodyPost_ret (v := .bool (e1 == e2))
  · simp [results, Tryz.results48, go_sem]
  · rfl
  · exact ⟨retB (by rw [Bool.eq_iff_iff]; simp [hc]), L5⟩
theorem law_fields26 (A1 : Option Addr) (n1 c1 : Nat) (l1 : List Fd) (A2 : Option Addr) (n2 c2 : Nat) (l2 : List Fd) (w : World) (h1 : Rd w w.heap.size 2 A1 n1 (fcells l1)) (h2 : Rd w w.heap.size 2 A2 n2 (fcells l2)) (hn : n1 ≤ maxLen) :
    Calls Tryz.prog 49 #[.slice A1 n1 c1, .slice A2 n2 c2] w fun e w' => e = .returned (.bool (decide (l1 = l2))) ∧ Below w.heap.size w w' := by
  unfold maxLen at hn
  have e1 : l1.length = n1 := by have := h1.1; rw [fcells_len] at this; omega
  have e2 : l2.length = n2 := by have := h2.1; rw [fcells_len] at this; omega
  go_enter Tryz.func49, Tryz.ntmps49
  go_wp2
  · go_ret
    have hq := neT ‹((n1 : Int) != n2) = true›
    exact ⟨retB (by rw [eq_comm, decide_eq_false_iff_not]; intro h; subst h; omega), Below.refl _ _⟩
  · have hq := neF ‹((n1 : Int) != n2) = false›
    have hq : n1 = n2 := by omega
    by_cases hz : n1 = 0
    · have z1 : l1 = [] := List.eq_nil_of_length_eq_zero (by omega)
      have z2 : l2 = [] := List.eq_nil_of_length_eq_zero (by omega)
      go_loopw [5] (fun i wr => i = .int .i64 0 ∧ Below w.heap.size w wr) (fun i _ => 0)
      case atStart => exact ⟨rfl, Below.refl _ _⟩
      case round =>
        obtain ⟨rfl, hb⟩ := hrel
        go_wp2
        go_ret
        exact ⟨retB (by rw [z1, z2]; rfl), hb⟩
    · obtain ⟨b1, o1, rfl, hb1, hx1⟩ := h1.2 (by omega)
      obtain ⟨b2, o2, rfl, hb2, hx2⟩ := h2.2 (by omega)
      clear h1 h2
      go_loopw [5] (fun i wr => ∃ k q : Nat, k ≤ n1 ∧ i = .int .i64 k ∧ Hid ((l1 = l2) = (l1.drop k = l2.drop k)) ∧ wr = w.drewN q) (fun i _ => n1 - (intOf i).toNat)
      case atStart => exact ⟨0, 0, Nat.zero_le _, rfl, rfl, rfl⟩
      case round =>
        obtain ⟨k, q, hk, rfl, H, rfl⟩ := hrel
        by_cases hlt : k < n1
        · obtain ⟨x, hx, hdx⟩ := drop_list l1 k (by omega)
          obtain ⟨y, hy, hdy⟩ := drop_list l2 k (by omega)
          have Hx := Lib.hid hdx; clear hdx
          have Hy := Lib.hid hdy; clear hdy
          obtain ⟨cx0, cx1⟩ := fcells_at _ _ _ hx; have cx := hx1 (k * 2) _ cx0; have cx' := hx1 (k * 2 + 1) _ cx1; rw [← Nat.add_assoc] at cx'
          obtain ⟨cy0, cy1⟩ := fcells_at _ _ _ hy; have cy := hx2 (k * 2) _ cy0; have cy' := hx2 (k * 2 + 1) _ cy1; rw [← Nat.add_assoc] at cy'
          have kn := fun w : World => run_neq_fd x.1 x.2 y.1 y.2 w
          have kg := fun (o : Operand) (o' : Operand) (w : World) => run_guard_fd .neq o o' #[sv x.1, sv x.2] #[sv y.1, sv y.2] w
          go_wp2
          go_quiet (fail)
          go_wp2
          · go_ret
            refine ⟨retB ?_, below_drewN' (below_drewN' (Below.refl _ _) _) _⟩
            have ht : ¬ x = y := by rintro rfl; have := notT ‹(!fdEq x.1 x.2 x.1 x.2) = true›; simp [fdEq] at this
            rw [eq_comm, decide_eq_false_iff_not, H.out, Hx.out, Hy.out]
            simp [ht]
          · go_roundw
            case rel => exact ⟨k + 1, q + nq, by omega, by go_num, by rw [H.out, Hx.out, Hy.out]; have ht : x = y := (by have := notF ‹(!fdEq x.1 x.2 y.1 y.2) = false›; simpa [fdEq, Prod.ext_iff] using this); simp only [ht, true_and, List.cons.injEq]; exact Lib.hid trivial, by simp [World.drewN]⟩
            case measure => simp [intOf]; omega
        · go_wp2
          go_ret
          refine ⟨retB ?_, below_drewN' (Below.refl _ _) _⟩
          rw [eq_comm, decide_eq_true_eq, H.out, List.drop_of_length_le (by omega), List.drop_of_length_le (by omega)]

theorem law_request26 (x y : RP) (w : World) (h1 : RQR w x.r x.af x.ab) (h2 : RQR w y.r y.af y.ab) (hf : x.r.f.length ≤ 100000) (hb : x.r.b.length ≤ 100000) :
    Calls Tryz.prog 14 #[rqV x.r x.af x.cf x.ab x.cb, rqV y.r y.af y.cf y.ab y.cb] w fun e w' => e = .returned (.bool (decide (x.r = y.r))) ∧ Below w.heap.size w w' := by
  obtain ⟨⟨m1, t1, v1, F1, B1, c1, e1⟩, A1, n1, D1, k1⟩ := x
  obtain ⟨⟨m2, t2, v2, F2, B2, c2, e2⟩, A2, n2, D2, k2⟩ := y
  dsimp only at h1 h2 hf hb ⊢
  unfold rqV
  dsimp only
  have tq := fun w : World => run_eql_tg t1 t2 w
  have tg := fun (o : Operand) (o' : Operand) (xs ys : Array Value) (w : World) => run_guard_tg .eql o o' xs ys w
  unfold tgtV at tq
  have L2 := allocW (allocW (Below.refl w.heap.size w) (.cells #[sv m1, .int .i64 t1.form, sv t1.host, sv t1.path, sv t1.query, .int .i64 v1, .slice A1 F1.length n1, .slice D1 B1.length k1, .bool c1, .bool e1] 27)) (.cells #[sv m2, .int .i64 t2.form, sv t2.host, sv t2.path, sv t2.query, .int .i64 v2, .slice A2 F2.length n2, .slice D2 B2.length k2, .bool c2, .bool e2] 27)
  have K1 := (Blk.new w 27 #[sv m1, .int .i64 t1.form, sv t1.host, sv t1.path, sv t1.query, .int .i64 v1, .slice A1 F1.length n1, .slice D1 B1.length k1, .bool c1, .bool e1]).alloc (.cells #[sv m2, .int .i64 t2.form, sv t2.host, sv t2.path, sv t2.query, .int .i64 v2, .slice A2 F2.length n2, .slice D2 B2.length k2, .bool c2, .bool e2] 27)
  have K2 := Blk.new' (w.alloc (.cells #[sv m1, .int .i64 t1.form, sv t1.host, sv t1.path, sv t1.query, .int .i64 v1, .slice A1 F1.length n1, .slice D1 B1.length k1, .bool c1, .bool e1] 27)) (w.heap.size + 1) (by simp) 27 #[sv m2, .int .i64 t2.form, sv t2.host, sv t2.path, sv t2.query, .int .i64 v2, .slice A2 F2.length n2, .slice D2 B2.length k2, .bool c2, .bool e2]
  have R1 := h1.belowW L2
  have R2 := h2.belowW L2
  have hF := law_fields26 A1 F1.length n1 F1 A2 F2.length n2 F2 _ R1.f R2.f (by unfold maxLen; omega)
  have hB := fun (W : World) (L : Below _ _ W) => law_same26 D1 B1.length k1 B1 D2 B2.length k2 B2 W ((R1.belowW L).b) ((R2.belowW L).b) (by unfold maxLen; omega)
  clear R1 R2 h1 h2
  by_cases hm : m1 = m2
  case neg =>
    have hm' : (m1 == m2) = false := by simpa using hm
    go_enter Tryz.func14, Tryz.ntmps14
    go_wp2
    go_ret
    exact ⟨retB (by simp [hm]), L2⟩
  subst hm
  by_cases ht : t1 = t2
  case neg =>
    have ht' : tgEq t1 t2 = false := by simpa [tgEq] using ht
    rw [ht'] at tq
    go_enter Tryz.func14, Tryz.ntmps14
    go_wp2
    go_ret
    exact ⟨retB (by simp [ht]), L2⟩
  subst ht
  rw [show tgEq t1 t1 = true by simp [tgEq]] at tq
  by_cases hv : v1 = v2
  case neg =>
    have hv' : (v1 == v2) = false := by simpa using hv
    go_enter Tryz.func14, Tryz.ntmps14
    go_wp2
    go_ret
    exact ⟨retB (by simp [hv]), L2⟩
  subst hv
  go_enter Tryz.func14, Tryz.ntmps14
  go_wp2_with fail
  refine hF.mono ?_
  rintro e w3 ⟨rfl, L3⟩
  have K3 := K1.belowW L3
  have K4 := K2.belowW L3
  obtain ⟨⟨a0, a1, a2, a3, a4, a5, a6, a7, a8, a9⟩, -⟩ := K3.c10
  obtain ⟨⟨b0, b1, b2, b3, b4, b5, b6, b7, b8, b9⟩, -⟩ := K4.c10
  by_cases hFF : F1 = F2
  case neg =>
    rw [decide_eq_false hFF]
    go_wp2
    go_ret
    exact ⟨retB (by simp [hFF]), stepW L2 L3⟩
  rw [decide_eq_true hFF]
  go_wp2_with fail
  refine (hB _ L3).mono ?_
  rintro e w4 ⟨rfl, L4⟩
  have L5 := stepW (stepW L2 L3) L4
  obtain ⟨⟨a0, a1, a2, a3, a4, a5, a6, a7, a8, a9⟩, -⟩ := (K3.belowW L4).c10
  obtain ⟨⟨b0, b1, b2, b3, b4, b5, b6, b7, b8, b9⟩, -⟩ := (K4.belowW L4).c10
  by_cases hBB : B1 = B2
  case neg =>
    rw [decide_eq_false hBB]
    go_wp2
    go_ret
    exact ⟨retB (by simp [hBB]), L5⟩
  rw [decide_eq_true hBB]
  by_cases hc : c1 = c2
  case neg =>
    have hc' : (c1 == c2) = false := by simpa using hc
    go_wp2
    go_ret
    exact ⟨retB (by simp [hc]), L5⟩
  have hc' : (c1 == c2) = true := by simpa using hc
  go_wp2
  go_ret
  exact ⟨retB (by rw [Bool.eq_iff_iff]; simp [hFF, hBB, hc]), L5⟩
theorem law_ints26 (A1 : Option Addr) (n1 c1 : Nat) (A2 : Option Addr) (n2 c2 : Nat) (l : List Int) (w : World) (h1 : Rd w w.heap.size 1 A1 n1 (l.map (Value.int .i64))) (h2 : Rd w w.heap.size 1 A2 n2 (l.map (Value.int .i64))) (hn : n1 ≤ 100000) :
    Calls Tryz.prog 15 #[.slice A1 n1 c1, .slice A2 n2 c2] w fun e w' => e = .returned (.bool true) ∧ Below w.heap.size w w' := by
  have e1 : l.length = n1 := by simpa using h1.1
  have e2 : l.length = n2 := by simpa using h2.1
  obtain rfl : n1 = n2 := by omega
  go_enter Tryz.func15, Tryz.ntmps15
  go_wp2
  go_loopw [5] (fun i wr => ∃ k q : Nat, k ≤ n1 ∧ i = .int .i64 k ∧ wr = w.drewN q) (fun i _ => n1 - (intOf i).toNat)
  case atStart => exact ⟨0, 0, Nat.zero_le _, rfl, rfl⟩
  case round =>
    obtain ⟨k, q, hk, rfl, rfl⟩ := hrel
    by_cases hlt : k < n1
    · obtain ⟨x, hx, -⟩ := drop_list l k (by omega)
      obtain ⟨b1, o1, rfl, hb1, hx1⟩ := h1.2 (by omega)
      obtain ⟨b2, o2, rfl, hb2, hx2⟩ := h2.2 (by omega)
      have cx := hx1 k (.int .i64 x) (map_get _ _ _ _ hx)
      have cy := hx2 k (.int .i64 x) (map_get _ _ _ _ hx)
      clear hx hx1 hx2
      go_wp2
      go_quiet (fail)
      go_wp2
      go_roundw
      case rel => exact ⟨k + 1, q + nq, by omega, by go_num, by simp [World.drewN]⟩
      case measure => simp [intOf]; omega
    · go_wp2
      go_ret
      exact ⟨rfl, below_drewN' (Below.refl _ _) q⟩
end Go.Proofs.YtlambdccmfnloaaGreatDoor

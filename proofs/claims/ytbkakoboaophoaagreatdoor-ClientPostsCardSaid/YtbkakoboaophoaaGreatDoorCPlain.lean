/- usherlaw26's own helpers: heavyFields, roomy, same, stands, known; the law ClientPlain. -/
import Derived.Test.YtbkakoboaophoaaGreatDoorClient
import Derived.Deep.QuietTactic
import Derived.BigQuiet
import Derived.Lib.SmallJoins
namespace Go.Proofs.YtbkakoboaophoaaGreatDoor
open Go.RowKit
set_option maxRecDepth 100000
set_option maxHeartbeats 2000000

theorem law_same26 (A1 : Option Addr) (n1 c1 : Nat) (l1 : Bs) (A2 : Option Addr) (n2 c2 : Nat) (l2 : Bs) (w : World) (h1 : Rd w w.heap.size 1 A1 n1 (l1.map bv)) (h2 : Rd w w.heap.size 1 A2 n2 (l2.map bv)) (hn : n1 ≤ maxLen) :
    Calls Tryz.prog 20 #[.slice A1 n1 c1, .slice A2 n2 c2] w fun e w' => e = .returned (.bool (decide (l1 = l2))) ∧ Below w.heap.size w w' := by
  unfold maxLen at hn
  have e1 : l1.length = n1 := by have := h1.1; simpa using this
  have e2 : l2.length = n2 := by have := h2.1; simpa using this
  go_enter Tryz.func20, Tryz.ntmps20
  go_wp2
  · go_ret
    have hq := neT ‹((n1 : Int) != n2) = true›
    exact ⟨retB (by rw [eq_comm, decide_eq_false_iff_not]; intro h; subst h; omega), Below.refl _ _⟩
  · have hq := neF ‹((n1 : Int) != n2) = false›
    have hq : n1 = n2 := by omega
    by_cases hz : n1 = 0
    · have z1 : l1 = [] := List.eq_nil_of_length_eq_zero (by omega)
      have z2 : l2 = [] := List.eq_nil_of_length_eq_zero (by omega)
      go_loopw [5] (fun i wr => i = .int .i64 0 ∧ Below w.heap.size w wr) (fun i _ => 0)
      case atStart => exact ⟨rfl, Below.refl _ _⟩
      case round =>
        obtain ⟨rfl, hb⟩ := hrel
        go_wp2
        go_ret
        exact ⟨retB (by rw [z1, z2]; rfl), hb⟩
    · obtain ⟨b1, o1, rfl, hb1, hx1⟩ := h1.2 (by omega)
      obtain ⟨b2, o2, rfl, hb2, hx2⟩ := h2.2 (by omega)
      clear h1 h2
      go_loopw [5] (fun i wr => ∃ k q : Nat, k ≤ n1 ∧ i = .int .i64 k ∧ Hid ((l1 = l2) = (l1.drop k = l2.drop k)) ∧ wr = w.drewN q) (fun i _ => n1 - (intOf i).toNat)
      case atStart => exact ⟨0, 0, Nat.zero_le _, rfl, rfl, rfl⟩
      case round =>
        obtain ⟨k, q, hk, rfl, H, rfl⟩ := hrel
        by_cases hlt : k < n1
        · obtain ⟨x, hx, hdx⟩ := drop_list l1 k (by omega)
          obtain ⟨y, hy, hdy⟩ := drop_list l2 k (by omega)
          have Hx := Lib.hid hdx; clear hdx
          have Hy := Lib.hid hdy; clear hdy
          have cx := hx1 k (bv x) (map_get bv _ _ _ hx)
          have cy := hx2 k (bv y) (map_get bv _ _ _ hy)
          go_wp2
          go_quiet (fail)
          go_wp2
          · go_ret
            refine ⟨retB ?_, below_drewN' (below_drewN' (Below.refl _ _) _) _⟩
            have ht : ¬ x = y := by rintro rfl; simp_all
            rw [eq_comm, decide_eq_false_iff_not, H.out, Hx.out, Hy.out]
            simp [ht]
          · go_roundw
            case rel => exact ⟨k + 1, q + nq, by omega, by go_num, by rw [H.out, Hx.out, Hy.out]; have ht : x = y := (by apply UInt8.toNat_inj.1; simp_all; try omega); simp only [ht, true_and, List.cons.injEq]; exact Lib.hid trivial, by simp [World.drewN]⟩
            case measure => simp [intOf]; omega
        · go_wp2
          go_ret
          refine ⟨retB ?_, below_drewN' (Below.refl _ _) _⟩
          rw [eq_comm, decide_eq_true_eq, H.out, List.drop_of_length_le (by omega), List.drop_of_length_le (by omega)]

theorem same26_yes (A1 : Option Addr) (n1 c1 : Nat) (A2 : Option Addr) (n2 c2 : Nat) (l : Bs) (w : World) (h1 : Rd w w.heap.size 1 A1 n1 (l.map bv)) (h2 : Rd w w.heap.size 1 A2 n2 (l.map bv)) (hn : l.length ≤ maxLen) :
    Calls Tryz.prog 20 #[.slice A1 n1 c1, .slice A2 n2 c2] w fun e w' => e = .returned (.bool true) ∧ Below w.heap.size w w' := by
  refine (law_same26 A1 n1 c1 l A2 n2 c2 l w h1 h2 ?_).mono fun e w' ⟨he, hb⟩ => ⟨by rw [he, decide_eq_true rfl], hb⟩
  have := h1.1; simp at this; omega

theorem fsz_one (l : List Fd) (k : Nat) (x : Fd) (h : l[k]? = some x) : fsz (l.take (k + 1)) = fsz (l.take k) + (5 + x.1.length + x.2.length) := by
  rw [take_at l k x h, fsz_app]; simp [fsz]

theorem law_heavy (A : Option Addr) (n cp : Nat) (l : List Fd) (w : World) (hA : Rd w w.heap.size 2 A n (fcells l)) (hl : ∀ f ∈ l, f.1.length ≤ 140737488355328 ∧ f.2.length ≤ 140737488355328) (hn : n ≤ maxLen) :
    Calls Tryz.prog 32 #[.slice A n cp] w fun e w' => (∃ b, e = .returned (.bool b) ∧ (b = false → fsz l ≤ 4000)) ∧ Below w.heap.size w w' := by
  unfold maxLen at hn
  have e1 : l.length = n := by have := hA.1; rw [fcells_len] at this; omega
  go_enter Tryz.func32, Tryz.ntmps32
  go_wp2
  go_loopw [3, 4] (fun z i wr => ∃ k y q : Nat, k ≤ n ∧ y ≤ 4000 ∧ Hid (y = fsz (l.take k)) ∧ z = .int .i64 y ∧ i = .int .i64 k ∧ wr = w.drewN q) (fun _ i _ => n - (intOf i).toNat)
  case atStart => exact ⟨0, 0, 0, Nat.zero_le _, Nat.zero_le _, rfl, rfl, rfl, rfl⟩
  case round =>
    obtain ⟨k, y, q, hk, hy, H, rfl, rfl, rfl⟩ := hrel
    by_cases hlt : k < n
    · obtain ⟨b1, o1, rfl, hb1, hx1⟩ := hA.2 (by omega)
      obtain ⟨x, hx, -⟩ := drop_list l k (by omega)
      obtain ⟨cx0, cx1⟩ := fcells_at _ _ _ hx
      have cx := hx1 (k * 2) _ cx0
      have cx' := hx1 (k * 2 + 1) _ cx1
      rw [← Nat.add_assoc] at cx'
      obtain ⟨l1, l2⟩ := hl x (List.mem_of_getElem? hx)
      have Ht := Lib.hid (fsz_one l k x hx)
      have s1 : IntKind.i64.wrap ((y : Int) + 5) = (y : Int) + 5 := IntWalk.i64_in _ ⟨by omega, by omega⟩
      have s2 : IntKind.i64.wrap ((y : Int) + 5 + (x.1.length : Int)) = (y : Int) + 5 + (x.1.length : Int) := IntWalk.i64_in _ ⟨by omega, by omega⟩
      have s3 : IntKind.i64.wrap ((y : Int) + 5 + (x.1.length : Int) + (x.2.length : Int)) = (y : Int) + 5 + (x.1.length : Int) + (x.2.length : Int) := IntWalk.i64_in _ ⟨by omega, by omega⟩
      clear hA hx1 cx0 cx1 hx
      go_wp2
      go_quiet (fail)
      go_wp2
      · go_ret
        exact ⟨⟨true, rfl, by simp⟩, by repeat (first | exact Below.refl _ _ | apply below_drewN')⟩
      · go_roundw
        case rel => exact ⟨k + 1, y + 5 + x.1.length + x.2.length, q + nq, by omega, by omega, Lib.hid (by rw [Ht.out, ← H.out]; omega), by go_num, by go_num, by simp [World.drewN]⟩
        case measure => simp [intOf]; omega
    · have hkn : k = n := by omega
      subst hkn
      have hall : l.take k = l := List.take_of_length_le (by omega)
      go_wp2
      go_ret
      exact ⟨⟨false, rfl, fun _ => by rw [← hall, ← H.out]; exact hy⟩, below_drewN' (Below.refl _ _) _⟩

theorem law_known26 (w : World) :
    Calls Tryz.prog 21 #[] w fun e w' => e = .returned (.bool true) ∧ Below w.heap.size w w' := by
  have kc := fun (w : World) (C : Array Value) (n c g : Nat) (hg : g = w.heap.size) => Go.Joins.run_convert_bytes_const_at (P := Tryz.prog) w 22 5 C n c g hg Tryz.underlying22 Tryz.underlying5
  go_enter Tryz.func21, Tryz.ntmps21
  go_wp2_with fail
  refine (cli_Get ⟨#[47, 97]⟩ _ 1 1 [([88], [121])] _ (Rd.new w _ rfl (fcells [([88], [121])]) 25 1 2 rfl |>.more (by simp)) (by decide) (by decide)).mono ?_
  rintro e w1 ⟨A1, n1, c1, rfl, ho1, L1⟩
  have L1' := stepW (allocW (Below.refl w.heap.size w) _) L1
  have hq : getL [47, 97] [([88], [121])] = [71, 69, 84, 32, 47, 97, 32, 72, 84, 84, 80, 47, 49, 46, 49, 13, 10, 72, 111, 115, 116, 58, 32, 117, 115, 104, 101, 114, 13, 10, 88, 58, 32, 121, 13, 10, 13, 10] := by decide
  have hr1 := ho1.rdS.2.2
  rw [show (⟨#[47, 97]⟩ : ByteArray).data.toList = [47, 97] from rfl, hq] at hr1
  clear ho1 hq L1
  go_wp2_with fail
  refine (same26_yes A1 n1 c1 _ 38 38 [71, 69, 84, 32, 47, 97, 32, 72, 84, 84, 80, 47, 49, 46, 49, 13, 10, 72, 111, 115, 116, 58, 32, 117, 115, 104, 101, 114, 13, 10, 88, 58, 32, 121, 13, 10, 13, 10] _ ((hr1.alloc (Nat.le_refl _) _).more (by simp)) ((Rd.newM w1 _ rfl [.int .u8 71, .int .u8 69, .int .u8 84, .int .u8 32, .int .u8 47, .int .u8 97, .int .u8 32, .int .u8 72, .int .u8 84, .int .u8 84, .int .u8 80, .int .u8 47, .int .u8 49, .int .u8 46, .int .u8 49, .int .u8 13, .int .u8 10, .int .u8 72, .int .u8 111, .int .u8 115, .int .u8 116, .int .u8 58, .int .u8 32, .int .u8 117, .int .u8 115, .int .u8 104, .int .u8 101, .int .u8 114, .int .u8 13, .int .u8 10, .int .u8 88, .int .u8 58, .int .u8 32, .int .u8 121, .int .u8 13, .int .u8 10, .int .u8 13, .int .u8 10] 5 _ 38 1 rfl).more (by simp)) (by decide)).mono ?_
  rintro e w2 ⟨rfl, L2⟩
  have L2' := stepW (allocW L1' _) L2
  go_wp2
  go_ret
  exact ⟨rfl, L2'⟩

theorem bytes_rd {w w' : World} {l : Bs} {A : Option Addr} {n c : Nat} (ho : Own w' w.heap.size 5 1 (.slice A n c) n (l.map bv)) : Rd w' w'.heap.size 1 A n (l.map bv) := ho.rdS.2.2

end Go.Proofs.YtbkakoboaophoaaGreatDoor

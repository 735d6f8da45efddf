/- usherlaw26's own helpers: heavyFields, roomy, same, stands, known; the law ClientPlain. -/
import Derived.Test.YteikfilflgfhnaaDoorClient
import Derived.Deep.QuietTactic
import Derived.BigQuiet
import Derived.Lib.SmallJoins
namespace Go.Proofs.YteikfilflgfhnaaDoor
open Go.RowKit
set_option maxRecDepth 100000
set_option maxHeartbeats 2000000

theorem law_same26 (A1 : Option Addr) (n1 c1 : Nat) (l1 : Bs) (A2 : Option Addr) (n2 c2 : Nat) (l2 : Bs) (w : World) (h1 : Rd w w.heap.size 1 A1 n1 (l1.map bv)) (h2 : Rd w w.heap.size 1 A2 n2 (l2.map bv)) (hn : n1 ≤ maxLen) :
    Calls Tryd.prog 17 #[.slice A1 n1 c1, .slice A2 n2 c2] w fun e w' => e = .returned (.bool (decide (l1 = l2))) ∧ Below w.heap.size w w' := by
  unfold maxLen at hn
  have e1 : l1.length = n1 := by have := h1.1; simpa using this
  have e2 : l2.length = n2 := by have := h2.1; simpa using this
  go_enter Tryd.func17, Tryd.ntmps17
  go_wp2
  · go_ret
    have hq := neT ‹((n1 : Int) != n2) = true›
    exact ⟨retB (by rw [eq_comm, decide_eq_false_iff_not]; intro h; subst h; omega), Below.refl _ _⟩
  · have hq := neF ‹((n1 : Int) != n2) = false›
    have hq : n1 = n2 := by omega
    by_cases hz : n1 = 0
    · have z1 : l1 = [] := List.eq_nil_of_length_eq_zero (by omega)
      have z2 : l2 = [] := List.eq_nil_of_length_eq_zero (by omega)
      go_loopw [5] (fun i wr => i = .int .i64 0 ∧ Below w.heap.size w wr) (fun i _ => 0)
      case atStart => exact ⟨rfl, Below.refl _ _⟩
      case round =>
        obtain ⟨rfl, hb⟩ := hrel
        go_wp2
        go_ret
        exact ⟨retB (by rw [z1, z2]; rfl), hb⟩
    · obtain ⟨b1, o1, rfl, hb1, hx1⟩ := h1.2 (by omega)
      obtain ⟨b2, o2, rfl, hb2, hx2⟩ := h2.2 (by omega)
      clear h1 h2
      go_loopw [5] (fun i wr => ∃ k q : Nat, k ≤ n1 ∧ i = .int .i64 k ∧ Hid ((l1 = l2) = (l1.drop k = l2.drop k)) ∧ wr = w.drewN q) (fun i _ => n1 - (intOf i).toNat)
      case atStart => exact ⟨0, 0, Nat.zero_le _, rfl, rfl, rfl⟩
      case round =>
        obtain ⟨k, q, hk, rfl, H, rfl⟩ := hrel
        by_cases hlt : k < n1
        · obtain ⟨x, hx, hdx⟩ := drop_list l1 k (by omega)
          obtain ⟨y, hy, hdy⟩ := drop_list l2 k (by omega)
          have Hx := Lib.hid hdx; clear hdx
          have Hy := Lib.hid hdy; clear hdy
          have cx := hx1 k (bv x) (map_get bv _ _ _ hx)
          have cy := hx2 k (bv y) (map_get bv _ _ _ hy)
          go_wp2
          go_quiet (fail)
          go_wp2
          · go_ret
            refine ⟨retB ?_, below_drewN' (below_drewN' (Below.refl _ _) _) _⟩
            have ht : ¬ x = y := by rintro rfl; simp_all
            rw [eq_comm, decide_eq_false_iff_not, H.out, Hx.out, Hy.out]
            simp [ht]
          · go_roundw
            case rel => exact ⟨k + 1, q + nq, by omega, by go_num, by rw [H.out, Hx.out, Hy.out]; have ht : x = y := (by apply UInt8.toNat_inj.1; simp_all; try omega); simp only [ht, true_and, List.cons.injEq]; exact Lib.hid trivial, by simp [World.drewN]⟩
            case measure => simp [intOf]; omega
        · go_wp2
          go_ret
          refine ⟨retB ?_, below_drewN' (Below.refl _ _) _⟩
          rw [eq_comm, decide_eq_true_eq, H.out, List.drop_of_length_le (by omega), List.drop_of_length_le (by omega)]

theorem same26_yes (A1 : Option Addr) (n1 c1 : Nat) (A2 : Option Addr) (n2 c2 : Nat) (l : Bs) (w : World) (h1 : Rd w w.heap.size 1 A1 n1 (l.map bv)) (h2 : Rd w w.heap.size 1 A2 n2 (l.map bv)) (hn : l.length ≤ maxLen) :
    Calls Tryd.prog 17 #[.slice A1 n1 c1, .slice A2 n2 c2] w fun e w' => e = .returned (.bool true) ∧ Below w.heap.size w w' := by
  refine (law_same26 A1 n1 c1 l A2 n2 c2 l w h1 h2 ?_).mono fun e w' ⟨he, hb⟩ => ⟨by rw [he, decide_eq_true rfl], hb⟩
  have := h1.1; simp at this; omega

theorem fsz_one (l : List Fd) (k : Nat) (x : Fd) (h : l[k]? = some x) : fsz (l.take (k + 1)) = fsz (l.take k) + (5 + x.1.length + x.2.length) := by
  rw [take_at l k x h, fsz_app]; simp [fsz]

theorem law_heavy (A : Option Addr) (n cp : Nat) (l : List Fd) (w : World) (hA : Rd w w.heap.size 2 A n (fcells l)) (hl : ∀ f ∈ l, f.1.length ≤ 140737488355328 ∧ f.2.length ≤ 140737488355328) (hn : n ≤ maxLen) :
    Calls Tryd.prog 15 #[.slice A n cp] w fun e w' => (∃ b, e = .returned (.bool b) ∧ (b = false → fsz l ≤ 4000)) ∧ Below w.heap.size w w' := by
  unfold maxLen at hn
  have e1 : l.length = n := by have := hA.1; rw [fcells_len] at this; omega
  go_enter Tryd.func15, Tryd.ntmps15
  go_wp2
  go_loopw [3, 4] (fun z i wr => ∃ k y q : Nat, k ≤ n ∧ y ≤ 4000 ∧ Hid (y = fsz (l.take k)) ∧ z = .int .i64 y ∧ i = .int .i64 k ∧ wr = w.drewN q) (fun _ i _ => n - (intOf i).toNat)
  case atStart => exact ⟨0, 0, 0, Nat.zero_le _, Nat.zero_le _, rfl, rfl, rfl, rfl⟩
  case round =>
    obtain ⟨k, y, q, hk, hy, H, rfl, rfl, rfl⟩ := hrel
    by_cases hlt : k < n
    · obtain ⟨b1, o1, rfl, hb1, hx1⟩ := hA.2 (by omega)
      obtain ⟨x, hx, -⟩ := drop_list l k (by omega)
      obtain ⟨cx0, cx1⟩ := fcells_at _ _ _ hx
      have cx := hx1 (k * 2) _ cx0
      have cx' := hx1 (k * 2 + 1) _ cx1
      rw [← Nat.add_assoc] at cx'
      obtain ⟨l1, l2⟩ := hl x (List.mem_of_getElem? hx)
      have Ht := Lib.hid (fsz_one l k x hx)
      have s1 : IntKind.i64.wrap ((y : Int) + 5) = (y : Int) + 5 := IntWalk.i64_in _ ⟨by omega, by omega⟩
      have s2 : IntKind.i64.wrap ((y : Int) + 5 + (x.1.length : Int)) = (y : Int) + 5 + (x.1.length : Int) := IntWalk.i64_in _ ⟨by omega, by omega⟩
      have s3 : IntKind.i64.wrap ((y : Int) + 5 + (x.1.length : Int) + (x.2.length : Int)) = (y : Int) + 5 + (x.1.length : Int) + (x.2.length : Int) := IntWalk.i64_in _ ⟨by omega, by omega⟩
      clear hA hx1 cx0 cx1 hx
      go_wp2
      go_quiet (fail)
      go_wp2
      · go_ret
        exact ⟨⟨true, rfl, by simp⟩, by repeat (first | exact Below.refl _ _ | apply below_drewN')⟩
      · go_roundw
        case rel => exact ⟨k + 1, y + 5 + x.1.length + x.2.length, q + nq, by omega, by omega, Lib.hid (by rw [Ht.out, ← H.out]; omega), by go_num, by go_num, by simp [World.drewN]⟩
        case measure => simp [intOf]; omega
    · have hkn : k = n := by omega
      subst hkn
      have hall : l.take k = l := List.take_of_length_le (by omega)
      go_wp2
      go_ret
      exact ⟨⟨false, rfl, fun _ => by rw [← hall, ← H.out]; exact hy⟩, below_drewN' (Below.refl _ _) _⟩

theorem law_roomy (A : Option Addr) (n c : Nat) (b : Bs) (w : World) (hB : Rd w w.heap.size 1 A n (b.map bv)) (hn : n ≤ 4000) :
    Calls Tryd.prog 16 #[.slice A n c] w fun e w' => (∃ A' c', e = .returned (.slice A' (n + 1) c') ∧ n + 1 ≤ c' ∧ Rd w' w'.heap.size 1 A' (n + 1) ((b ++ [171]).map bv)) ∧ Below w.heap.size w w' := by
  obtain ⟨i8, hi8, hy0, hy1, hy2⟩ := info_parts info_u8
  go_enter Tryd.func16, Tryd.ntmps16
  go_wp2_with (first
    | (at_builtin
       refine wpList_append_Own _ rfl (.tmp 3) (.tmp 4) 22 22 rfl w.heap.size 5 i8 _ 1 1 Tryd.underlying22 (.inl Tryd.underlying22) hi8 hy0 hy1 hy2 rfl (by decide) (.slice (some ⟨w.heap.size, 0, none⟩) 0 0) 0 [] rfl (Own.lit _ _ rfl _ (Nat.le_refl _) _ 1 0 [] rfl (by decide)) _ n (b.map bv) rfl (Src.of_rd (hB.alloc (Nat.le_refl _) _) (by intro u hu; obtain ⟨x, -, rfl⟩ := List.mem_map.1 hu; rfl)) (by unfold maxLen; omega) (by omega) (by simp) ?_
       intro v1 w1 ho1 hg1 hat1
       obtain ⟨A1, c1, hv1, n1, m1, r1, q1⟩ := ho1.rd
       subst hv1
       have ho1 : Own w1 w.heap.size 5 1 (.slice A1 n c1) n (b.map bv) := by simpa using ho1
       have L1 : Below w.heap.size w w1 := growW (allocW (Below.refl w.heap.size w) _) hg1 (fun j hj => by cases hj; exact Nat.le_refl _))
    | (at_builtin
       refine wpList_append_Own _ rfl (.tmp 5) (.tmp 6) 22 22 rfl w.heap.size 5 i8 _ 1 1 Tryd.underlying22 (.inl Tryd.underlying22) hi8 hy0 hy1 hy2 rfl (by decide) (.slice A1 n c1) n _ rfl (ho1.alloc _) _ 1 ([171].map bv) rfl (Src.of_rd (Rd.new w1 _ rfl [.int .u8 171] _ 1 1 rfl) (by intro u hu; obtain ⟨x, -, rfl⟩ := List.mem_map.1 hu; rfl)) (by unfold maxLen; omega) (by omega) (by have := L1.size; simp; omega) ?_
       intro v2 w2 ho2 hg2 hat2
       obtain ⟨A2, c2, hv2, n2, m2, r2, q2⟩ := ho2.rd
       subst hv2
       have L2 : Below w.heap.size w w2 := growW (allocW L1 _) hg2 (fun j hj => (ho1.lt j hj).1))
    | (at_builtin
       refine wpList_append_Own _ rfl (.tmp 7) (.tmp 8) 22 22 rfl w.heap.size 5 i8 _ 1 1 Tryd.underlying22 (.inl Tryd.underlying22) hi8 hy0 hy1 hy2 rfl (by decide) (.slice A2 (n + 1) c2) (n + 1) _ rfl (ho2.alloc _) _ 1 ([171].map bv) rfl (Src.of_rd (Rd.new w2 _ rfl [.int .u8 171] _ 1 1 rfl) (by intro u hu; obtain ⟨x, -, rfl⟩ := List.mem_map.1 hu; rfl)) (by unfold maxLen; omega) (by omega) (by have := L2.size; simp; omega) ?_
       intro v3 w3 ho3 hg3 hat3
       obtain ⟨A3, c3, hv3, n3, m3, r3, q3⟩ := ho3.rd
       subst hv3
       have L3 : Below w.heap.size w w3 := growW (allocW L2 _) hg3 (fun j hj => (ho2.lt j hj).1)))
  go_ret
  refine ⟨⟨A3, c3, rfl, by omega, ?_⟩, L3⟩
  have h := r3.cutTo (k := n + 1) (by omega)
  have e : (b.map bv ++ [171].map bv ++ [171].map bv).take ((n + 1) * 1) = (b ++ [171]).map bv := by
    have hbl : b.length = n := by have := hB.1; simpa using this
    rw [List.take_append_of_le_length (by simp; omega), List.take_of_length_le (by simp; omega), List.map_append]
  rw [← e]
  exact h

theorem law_stands (A1 : Option Addr) (n c1 : Nat) (A2 : Option Addr) (c2 : Nat) (b : Bs) (w : World) (h1 : Rd w w.heap.size 1 A1 (n + 1) ((b ++ [171]).map bv)) (h2 : Rd w w.heap.size 1 A2 n (b.map bv)) (hc : n + 1 ≤ c1) (hn : n ≤ 4000) :
    Calls Tryd.prog 22 #[.slice A1 (n + 1) c1, .slice A2 n c2] w fun e w' => e = .returned (.bool true) ∧ Below w.heap.size w w' := by
  have hbl : b.length = n := by have := h2.1; simpa using this
  obtain ⟨b1, o1, rfl, hb1, hx1⟩ := h1.2 (by omega)
  have hcut := h1.cutTo (k := n) (by omega)
  have e : ((b ++ [171]).map bv).take (n * 1) = b.map bv := by rw [List.map_append, List.take_append_of_le_length (by simp; omega), List.take_of_length_le (by simp; omega)]
  rw [e] at hcut
  have hlast := hx1 n (.int .u8 171) (by rw [List.map_append, List.getElem?_append_right (by simp; omega)]; simp [hbl, bv])
  clear h1 e hx1
  have Hl := Lib.hid hbl
  clear hbl
  go_enter Tryd.func22, Tryd.ntmps22
  go_wp2_with fail
  refine (same26_yes _ n _ _ n _ b _ hcut h2 (by rw [Hl.out]; unfold maxLen; omega)).mono ?_
  rintro e w2 ⟨rfl, L2⟩
  have hlast2 := (L2.cell (p := ⟨b1, o1 + n, none⟩) hb1).trans hlast
  go_wp2
  all_goals go_ret
  all_goals exact ⟨rfl, L2⟩

theorem law_known26 (w : World) :
    Calls Tryd.prog 23 #[] w fun e w' => e = .returned (.bool true) ∧ Below w.heap.size w w' := by
  have kc := fun (w : World) (C : Array Value) (n c g : Nat) (hg : g = w.heap.size) => Go.Joins.run_convert_bytes_const_at (P := Tryd.prog) w 22 5 C n c g hg Tryd.underlying22 Tryd.underlying5
  go_enter Tryd.func23, Tryd.ntmps23
  go_wp2_with fail
  refine (cli_Get ⟨#[47, 97]⟩ _ 1 1 [([88], [121])] _ (Rd.new w _ rfl (fcells [([88], [121])]) 34 1 2 rfl |>.more (by simp)) (by decide) (by decide)).mono ?_
  rintro e w1 ⟨A1, n1, c1, rfl, ho1, L1⟩
  have L1' := stepW (allocW (Below.refl w.heap.size w) _) L1
  have hq : getL [47, 97] [([88], [121])] = [71, 69, 84, 32, 47, 97, 32, 72, 84, 84, 80, 47, 49, 46, 49, 13, 10, 72, 111, 115, 116, 58, 32, 117, 115, 104, 101, 114, 13, 10, 88, 58, 32, 121, 13, 10, 13, 10] := by decide
  have hr1 := ho1.rdS.2.2
  rw [show (⟨#[47, 97]⟩ : ByteArray).data.toList = [47, 97] from rfl, hq] at hr1
  clear ho1 hq L1
  go_wp2_with fail
  refine (same26_yes A1 n1 c1 _ 38 38 [71, 69, 84, 32, 47, 97, 32, 72, 84, 84, 80, 47, 49, 46, 49, 13, 10, 72, 111, 115, 116, 58, 32, 117, 115, 104, 101, 114, 13, 10, 88, 58, 32, 121, 13, 10, 13, 10] _ ((hr1.alloc (Nat.le_refl _) _).more (by simp)) ((Rd.newM w1 _ rfl [.int .u8 71, .int .u8 69, .int .u8 84, .int .u8 32, .int .u8 47, .int .u8 97, .int .u8 32, .int .u8 72, .int .u8 84, .int .u8 84, .int .u8 80, .int .u8 47, .int .u8 49, .int .u8 46, .int .u8 49, .int .u8 13, .int .u8 10, .int .u8 72, .int .u8 111, .int .u8 115, .int .u8 116, .int .u8 58, .int .u8 32, .int .u8 117, .int .u8 115, .int .u8 104, .int .u8 101, .int .u8 114, .int .u8 13, .int .u8 10, .int .u8 88, .int .u8 58, .int .u8 32, .int .u8 121, .int .u8 13, .int .u8 10, .int .u8 13, .int .u8 10] 5 _ 38 1 rfl).more (by simp)) (by decide)).mono ?_
  rintro e w2 ⟨rfl, L2⟩
  have L2' := stepW (allocW L1' _) L2
  go_wp2
  go_ret
  exact ⟨rfl, L2'⟩

theorem ref_Post (path : ByteArray) (A1 : Option Addr) (n1 c1 : Nat) (b : Bs) (A : Option Addr) (n cp : Nat) (l : List Fd) (w : World) (hB : Rd w w.heap.size 1 A1 n1 (b.map bv)) (hA : Rd w w.heap.size 2 A n (fcells l)) (hp : path.size ≤ 4000) (hb4 : n1 ≤ 4000) (hl : fsz l ≤ 4000) :
    Calls Tryd.prog 21 #[.string path, .slice A1 n1 c1, .slice A n cp] w (BytesPost w (postL path.data.toList b l)) := by
  obtain ⟨i8, hi8, hy0, hy1, hy2⟩ := info_parts info_u8
  have eb : b.length = n1 := by have := hB.1; simpa using this
  have hd : (digs 10 n1).length ≤ 19 := digs10_len n1 (by omega)
  have hln := hdrsL_len l
  have Eb := Lib.hid eb
  clear eb
  go_enter Tryd.func21, Tryd.ntmps21
  go_wp2_with fail
  refine (ref_Dec (n1 : Int) w (by omega)).mono ?_
  rintro e w1 ⟨rfl, L1⟩
  rw [Int.toNat_natCast]
  go_wp2_with fail
  refine (ref_lines A n cp l w1 ((hA.below L1).more L1.size) (by omega)).mono ?_
  rintro e w2 ⟨rfl, L2⟩
  have L2' := stepW L1 L2
  have hB2 := hB.below L2'
  obtain ⟨s, hs⟩ : ∃ s : ByteArray, s = ((((⟨#[80, 79, 83, 84, 32]⟩ ++ path) ++ ⟨#[32, 72, 84, 84, 80, 47, 49, 46, 49, 13, 10, 72, 111, 115, 116, 58, 32, 117, 115, 104, 101, 114, 13, 10, 67, 111, 110, 116, 101, 110, 116, 45, 76, 101, 110, 103, 116, 104, 58, 32]⟩) ++ ⟨(digs 10 n1).toArray⟩) ++ ⟨#[13, 10]⟩) ++ ⟨(hdrsL l ++ [13, 10]).toArray⟩ := ⟨_, rfl⟩
  have hsd : s.data.toList ++ b = postL path.data.toList b l := by
    rw [hs, app_data, app_data, app_data, app_data, app_data, postL, Eb.out]; simp [headL, hostF, clF, hdrsL, hdrL]
  have hsn : s.size = 5 + path.size + 40 + (digs 10 n1).length + 2 + ((hdrsL l).length + 2) := by
    rw [hs, ByteArray.size_append, ByteArray.size_append, ByteArray.size_append, ByteArray.size_append, ByteArray.size_append, size_mk (hdrsL l ++ [13, 10]), size_mk (digs 10 n1), List.length_append]
    rfl
  have hsz : s.size ≤ 20000 := by rw [hsn]; omega
  go_wp2_with (first
    | (refine wpList_toBytes _ rfl (.tmp 17) 9 22 rfl 5 w.heap.size s (by rw [hs]; rfl) Tryd.underlying9 Tryd.underlying22 Tryd.underlying5 (by unfold maxLen; omega) L2'.size ?_
       intro cap w5 hcap ho5 hg5 hz5
       have L5 := stepW L2' (below_of_none hg5)
       have hB5 := hB.below L5
       rw [hsn] at ho5)
    | (at_builtin
       refine wpList_append_Own _ rfl (.tmp 18) (.tmp 19) 22 22 rfl w.heap.size 5 i8 _ 1 1 Tryd.underlying22 (.inl Tryd.underlying22) hi8 hy0 hy1 hy2 rfl (by decide) _ _ _ rfl ho5 _ n1 (b.map bv) rfl (Src.of_rd hB5 (by intro u hu; obtain ⟨x, -, rfl⟩ := List.mem_map.1 hu; rfl)) (by unfold maxLen; omega) (by omega) L5.size ?_
       intro v6 w6 ho6 hg6 hat6
       obtain ⟨A6, c6, hv6, n6, m6, r6, q6⟩ := ho6.rd
       subst hv6))
  go_ret
  refine ⟨A6, _, c6, rfl, ?_, growW L5 hg6 (fun j hj => (ho5.lt j hj).1)⟩
  rw [← hsd, List.map_append]
  exact ho6

theorem bytes_rd {w w' : World} {l : Bs} {A : Option Addr} {n c : Nat} (ho : Own w' w.heap.size 5 1 (.slice A n c) n (l.map bv)) : Rd w' w'.heap.size 1 A n (l.map bv) := ho.rdS.2.2

theorem law_Plain (path : ByteArray) (A1 : Option Addr) (n1 c1 : Nat) (b : Bs) (A : Option Addr) (n cp : Nat) (l : List Fd) (w : World) (hB : Rd w w.heap.size 1 A1 n1 (b.map bv)) (hA : Rd w w.heap.size 2 A n (fcells l))
    (hl : ∀ f ∈ l, f.1.length ≤ 140737488355328 ∧ f.2.length ≤ 140737488355328) (hn : n ≤ maxLen) (hn1 : n1 ≤ maxLen) (hp : path.size ≤ maxLen) (ht : Tab10 w) :
    Calls Tryd.prog 3 #[.string path, .slice A1 n1 c1, .slice A n cp] w fun e w' => e = .returned (.bool true) ∧ Below w.heap.size w w' := by
  go_enter Tryd.func3, Tryd.ntmps3
  go_wp2_with fail
  refine (law_heavy A n cp l w hA hl hn).mono ?_
  rintro e w1 ⟨⟨bb, rfl, hbb⟩, L1⟩
  unfold maxLen at hn1 hp
  cases bb with
  | true =>
    go_wp2
    all_goals go_ret
    all_goals exact ⟨rfl, L1⟩
  | false =>
    have hf := hbb rfl
    clear hbb hl hn
    by_cases hp4 : path.size ≤ 4000
    · by_cases hb4 : n1 ≤ 4000
      · have hB1 := (hB.below L1).more L1.size
        have hA1 := (hA.below L1).more L1.size
        have eb : b.length = n1 := by have := hB.1; simpa using this
        have hbm : b.length ≤ 4000 := by omega
        have Gl := getL_len path.data.toList l
        have Pl := postL_len path.data.toList b l (by omega)
        rw [len_data] at Gl Pl
        have Gm : (getL path.data.toList l).length ≤ maxLen := by unfold maxLen; omega
        have Pm : (postL path.data.toList b l).length ≤ maxLen := by unfold maxLen; omega
        clear Gl Pl eb
        go_wp2_with fail
        refine (law_roomy A1 n1 c1 b w1 hB1 hb4).mono ?_
        rintro e w2 ⟨⟨A2, c2, rfl, hc2, hR2⟩, L2⟩
        have K2 := stepW L1 L2
        have hA2 := (hA.below K2).more K2.size
        go_wp2_with fail
        refine (cli_Get path A n cp l w2 hA2 hp4 hf).mono ?_
        rintro e w3 ⟨A3, n3, c3, rfl, ho3, L3⟩
        have K3 := stepW K2 L3
        have hA3 := (hA.below K3).more K3.size
        have G3 := bytes_rd ho3
        clear ho3
        go_wp2_with fail
        refine (ref_Get path A n cp l w3 hA3 hp4 hf).mono ?_
        rintro e w4 ⟨A4, n4, c4, rfl, ho4, L4⟩
        have K4 := stepW K3 L4
        have G4 := bytes_rd ho4
        have G34 := (G3.below L4).more L4.size
        clear ho4
        go_wp2_with fail
        refine (same26_yes A3 n3 c3 A4 n4 c4 _ w4 G34 G4 Gm).mono ?_
        rintro e w5 ⟨rfl, L5⟩
        have K5 := stepW K4 L5
        have hR5 : Rd w5 w5.heap.size 1 A2 (n1 + 1) ((b ++ [171]).map bv) := (hR2.below (((L3.mono (Nat.le_refl _)).trans (L4.mono L3.size)).trans (L5.mono (Nat.le_trans L3.size L4.size)))).more (Nat.le_trans L3.size (Nat.le_trans L4.size L5.size))
        have hA5 := (hA.below K5).more K5.size
        have hB5 := (hB.below K5).more K5.size
        have hC5 := hR5.cutTo (k := n1) (by omega)
        have hbl : b.length = n1 := by have := hB.1; simpa using this
        have e5 : ((b ++ [171]).map bv).take (n1 * 1) = b.map bv := by rw [List.map_append, List.take_append_of_le_length (by simp; omega), List.take_of_length_le (by simp; omega)]
        rw [e5] at hC5
        clear e5 hbl G3 G4 G34
        go_wp2_with fail
        refine (cli_Post path A2 n1 c2 b A n cp l w5 hC5 hA5 hp4 hb4 hf (tab_below ht K5 (Nat.le_refl _))).mono ?_
        rintro e w6 ⟨A6, n6, c6, rfl, ho6, L6⟩
        have K6 := stepW K5 L6
        have hA6 := (hA.below K6).more K6.size
        have hB6 := (hB.below K6).more K6.size
        have G6 := bytes_rd ho6
        clear ho6
        go_wp2_with fail
        refine (ref_Post path A1 n1 c1 b A n cp l w6 hB6 hA6 hp4 hb4 hf).mono ?_
        rintro e w7 ⟨A7, n7, c7, rfl, ho7, L7⟩
        have K7 := stepW K6 L7
        have G7 := bytes_rd ho7
        have G67 := (G6.below L7).more L7.size
        clear ho7
        go_wp2_with fail
        refine (same26_yes A6 n6 c6 A7 n7 c7 _ w7 G67 G7 Pm).mono ?_
        rintro e w8 ⟨rfl, L8⟩
        have K8 := stepW K7 L8
        have hB8 := (hB.below K8).more K8.size
        have hR8 : Rd w8 w8.heap.size 1 A2 (n1 + 1) ((b ++ [171]).map bv) := (hR5.below (((L6.mono (Nat.le_refl _)).trans (L7.mono L6.size)).trans (L8.mono (Nat.le_trans L6.size L7.size)))).more (Nat.le_trans L6.size (Nat.le_trans L7.size L8.size))
        go_wp2_with fail
        refine (law_stands A2 n1 c2 A1 c1 b w8 hR8 hB8 hc2 hb4).mono ?_
        rintro e w9 ⟨rfl, L9⟩
        have K9 := stepW K8 L9
        go_wp2_with fail
        refine (law_known26 w9).mono ?_
        rintro e w10 ⟨rfl, L10⟩
        have K10 := stepW K9 L10
        go_wp2
        go_ret
        exact ⟨rfl, K10⟩
      · go_wp2
        all_goals go_ret
        all_goals exact ⟨rfl, L1⟩
    · go_wp2
      all_goals go_ret
      all_goals exact ⟨rfl, L1⟩
end Go.Proofs.YteikfilflgfhnaaDoor
